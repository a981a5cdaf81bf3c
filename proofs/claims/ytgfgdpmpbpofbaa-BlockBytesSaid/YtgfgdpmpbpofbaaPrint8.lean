-- Printed out of the translation by a program of this session's own. Not trusted: Lean checks it.
import Derived.Test.YtgfgdpmpbpofbaaPrint0
import Derived.Test.YtgfgdpmpbpofbaaPrint1
import Derived.Test.YtgfgdpmpbpofbaaPrint3
import Derived.Test.YtgfgdpmpbpofbaaHBlockEncode
namespace Go.Proofs.Ytgfgdpmpbpofbaa.Print
open Go.RowKit Go.Proofs.YtgfgdpmpbpofbaaW.PrintWords Go.Proofs.YtgfgdpmpbpofbaaW.PrintLast Go.Proofs.YtgfgdpmpbpofbaaW.PrintMore Go.Proofs.YtgfgdpmpbpofbaaX
attribute [local go_sem] max2_int min2_int max_two min_two max_three min_three max_four min_four   -- for this text's walks alone
set_option linter.unusedVariables false
set_option linter.unusedSimpArgs false

attribute [local go_sem high] eqA26
/-! ### palinodelaw12_examples: function 9 -/
def palinodelaw12_examples.f (k : Nat)  : Option (Bool) := (block_Encode.f ([] : List (S26))).bind fun bt201 => ((some (([(⟨(⟨#[97, 98]⟩ : ByteArray), 2, false, (⟨#[120]⟩ : ByteArray)⟩ : S26), (⟨(⟨#[97, 99]⟩ : ByteArray), 1, true, (⟨#[]⟩ : ByteArray)⟩ : S26)] : List (S26)) : List (S26))).bind fun y203 => ((block_Encode.f y203).bind fun bt206 => (if bt201.1.toList = ([0] : List UInt8) then (if bt201.2.isNone = true then (if bt206.1.toList = ([1, 2, 0, 1, 2, 97, 98, 1, 2, 0, 1, 1, 120, 1, 1, 1, 1, 99, 1, 1, 1, 1] : List UInt8) then (if bt206.2.isNone = true then ((block_Sorted.f k y203).bind fun t210 => (some t210)) else (some false)) else (some false)) else (some false)) else (some false))))
theorem palinodelaw12_examples.mono : ∀ k, LeO (palinodelaw12_examples.f k ) (palinodelaw12_examples.f (k + 1) ) := by
 intro  k
 unfold palinodelaw12_examples.f
 repeat' first
   | (with_reducible exact block_Sorted.mono _ _)
   | (with_reducible exact LeO.refl _)
   | (with_reducible exact LeO.none _)
   | (with_reducible refine LeO.ite ?_ ?_)
   | (with_reducible refine LeO.bind ?_ (fun _ => ?_))
   | exact block_Sorted.mono _ _
   | exact LeO.none _
   | refine LeO.ite ?_ ?_
   | refine LeO.bind ?_ (fun _ => ?_)
set_option maxHeartbeats 8000000 in
set_option maxRecDepth 100000 in
theorem palinodelaw12_examples.calls (k : Nat)  (r : Bool) (w : World) (h : palinodelaw12_examples.f k  = some r) (HRT_ : Aside0 (r = true) := by first | exact ⟨rfl⟩ | assumption) :
  Calls Try.prog 9 #[] w fun e w' => e = .returned (.bool r) ∧ Below w.heap.size w w' := by
 have hu26 := Try.underlying26
 have hu29 := Try.underlying29
 have hu47 := Try.underlying47
 have HB := Aside0.mk (Below.refl w.heap.size w)
 have H : ((block_Encode.f ([] : List (S26))).bind fun bt201 => ((some (([(⟨(⟨#[97, 98]⟩ : ByteArray), 2, false, (⟨#[120]⟩ : ByteArray)⟩ : S26), (⟨(⟨#[97, 99]⟩ : ByteArray), 1, true, (⟨#[]⟩ : ByteArray)⟩ : S26)] : List (S26)) : List (S26))).bind fun y203 => ((block_Encode.f y203).bind fun bt206 => (if bt201.1.toList = ([0] : List UInt8) then (if bt201.2.isNone = true then (if bt206.1.toList = ([1, 2, 0, 1, 2, 97, 98, 1, 2, 0, 1, 1, 120, 1, 1, 1, 1, 99, 1, 1, 1, 1] : List UInt8) then (if bt206.2.isNone = true then ((block_Sorted.f k y203).bind fun t210 => (some t210)) else (some false)) else (some false)) else (some false)) else (some false))))) = some r := h
 clear h
 replace H := Option.bind_eq_some_iff.mp H
 obtain ⟨⟨t201, t202⟩, A10, H⟩ := H
 replace H : ((some (([(⟨(⟨#[97, 98]⟩ : ByteArray), 2, false, (⟨#[120]⟩ : ByteArray)⟩ : S26), (⟨(⟨#[97, 99]⟩ : ByteArray), 1, true, (⟨#[]⟩ : ByteArray)⟩ : S26)] : List (S26)) : List (S26))).bind fun y203 => ((block_Encode.f y203).bind fun bt206 => (if t201.toList = ([0] : List UInt8) then (if t202.isNone = true then (if bt206.1.toList = ([1, 2, 0, 1, 2, 97, 98, 1, 2, 0, 1, 1, 120, 1, 1, 1, 1, 99, 1, 1, 1, 1] : List UInt8) then (if bt206.2.isNone = true then ((block_Sorted.f k y203).bind fun t210 => (some t210)) else (some false)) else (some false)) else (some false)) else (some false)))) = some r := H
 have A1 := Aside0.mk A10
 clear A10
 obtain ⟨y203, hy203⟩ : ∃ y_ : List (S26), y_ = (([(⟨(⟨#[97, 98]⟩ : ByteArray), 2, false, (⟨#[120]⟩ : ByteArray)⟩ : S26), (⟨(⟨#[97, 99]⟩ : ByteArray), 1, true, (⟨#[]⟩ : ByteArray)⟩ : S26)] : List (S26))) := ⟨_, rfl⟩
 replace H : ((block_Encode.f y203).bind fun bt206 => (if t201.toList = ([0] : List UInt8) then (if t202.isNone = true then (if bt206.1.toList = ([1, 2, 0, 1, 2, 97, 98, 1, 2, 0, 1, 1, 120, 1, 1, 1, 1, 99, 1, 1, 1, 1] : List UInt8) then (if bt206.2.isNone = true then ((block_Sorted.f k y203).bind fun t210 => (some t210)) else (some false)) else (some false)) else (some false)) else (some false))) = some r := by first | (rw [hy203]; with_reducible exact H) | (have H2_ := (Option.bind_some _ _).symm.trans H; rw [hy203]; with_reducible exact H2_) | (have H2_ := (Option.bind_some _ _).symm.trans H; with_reducible exact H2_) | with_reducible exact H | (rw [hy203]; exact H) | exact H
 have Ny203 := Aside0.mk hy203
 clear hy203
 replace H := Option.bind_eq_some_iff.mp H
 obtain ⟨⟨t206, t207⟩, A20, H⟩ := H
 replace H : (if t201.toList = ([0] : List UInt8) then (if t202.isNone = true then (if t206.toList = ([1, 2, 0, 1, 2, 97, 98, 1, 2, 0, 1, 1, 120, 1, 1, 1, 1, 99, 1, 1, 1, 1] : List UInt8) then (if t207.isNone = true then ((block_Sorted.f k y203).bind fun t210 => (some t210)) else (some false)) else (some false)) else (some false)) else (some false)) = some r := H
 have A2 := Aside0.mk A20
 clear A20
 by_cases c3 : t201.toList = ([0] : List UInt8)
 ·
  rw [if_pos c3] at H
  have c3b0 : (t201.toList == ([0] : List UInt8)) = true := beq_iff_eq.mpr c3
  have c3b1 : (t201.toList != ([0] : List UInt8)) = false := bne_eq_false_iff_eq.mpr c3
  clear c3
  rcases t202 with _ | q208
  ·
   have H1 : (if t206.toList = ([1, 2, 0, 1, 2, 97, 98, 1, 2, 0, 1, 1, 120, 1, 1, 1, 1, 99, 1, 1, 1, 1] : List UInt8) then (if t207.isNone = true then ((block_Sorted.f k y203).bind fun t210 => (some t210)) else (some false)) else (some false)) = some r := by rw [if_pos (show (none : Option Int).isNone = true by rfl)] at H; exact H
   clear H
   have H := H1
   clear H1
   try simp only [errW_none, errW_some]
   by_cases c4 : t206.toList = ([1, 2, 0, 1, 2, 97, 98, 1, 2, 0, 1, 1, 120, 1, 1, 1, 1, 99, 1, 1, 1, 1] : List UInt8)
   ·
    rw [if_pos c4] at H
    have c4b0 : (t206.toList == ([1, 2, 0, 1, 2, 97, 98, 1, 2, 0, 1, 1, 120, 1, 1, 1, 1, 99, 1, 1, 1, 1] : List UInt8)) = true := beq_iff_eq.mpr c4
    have c4b1 : (t206.toList != ([1, 2, 0, 1, 2, 97, 98, 1, 2, 0, 1, 1, 120, 1, 1, 1, 1, 99, 1, 1, 1, 1] : List UInt8)) = false := bne_eq_false_iff_eq.mpr c4
    clear c4
    rcases t207 with _ | q209
    ·
     have H1 : ((block_Sorted.f k y203).bind fun t210 => (some t210)) = some r := by rw [if_pos (show (none : Option Int).isNone = true by rfl)] at H; exact H
     clear H
     have H := H1
     clear H1
     try simp only [errW_none, errW_some]
     replace H := Option.bind_eq_some_iff.mp H
     obtain ⟨t210, A50, H⟩ := H
     replace H : (some t210) = some r := H
     have A5 := Aside0.mk A50
     clear A50
     obtain rfl := Option.some.inj H
     go_enter Try.func9, Try.ntmps9
     go_wp2_with (first | ((with_reducible refine gate_callee (f := 11) rfl ?_); refine goesL_ (some 7) rfl rfl Try.func11 (by kernel_rfl) rfl #[.slice none 0 0] rfl (by (try simp only [List.map_toArray, List.map_cons, List.map_nil]); first | done | rfl | (simp only [List.length_drop, List.length_take]; rfl)) ?_; (refine (block_Encode.calls _ _ ([] : List (S26)) t201 none _ ?side1 ?side2 A1.out).mono ?_); (case side1 => exact Kd.C_nil _ _); (case side2 => exact Nat.le_refl _); rintro e w6 ⟨rfl, hb⟩; refine ⟨_, rfl, ?_⟩; have n0_ := Aside0.mk (Yv HB hb); clear HB; have HB := n0_; clear n0_; (try clear hb); (try clear hb2); (try clear hk); (try clear hi); (try simp only [errW_none, errW_some])) | ((with_reducible refine gate_dst (N := 12) rfl ?_); refine Kd.R_lit k26 _ 26 ?hg (N := 12) ?hd (xs := ([(⟨(⟨#[97, 98]⟩ : ByteArray), 2, false, (⟨#[120]⟩ : ByteArray)⟩ : S26), (⟨(⟨#[97, 99]⟩ : ByteArray), 1, true, (⟨#[]⟩ : ByteArray)⟩ : S26)] : List (S26))) (inner := [.string (⟨#[97, 98]⟩ : ByteArray), .int .i64 2, .bool false, .string (⟨#[120]⟩ : ByteArray), .string (⟨#[97, 99]⟩ : ByteArray), .int .i64 1, .bool true, .string (⟨#[]⟩ : ByteArray)]) (ok := fun _ => True) (okp := fun _ => True) ?hr ?hp (fun _ hk => hk) trivial (Below.refl _ _) (Nat.le_refl _) (by simp) ?_; (case hd => rfl); (case hg => rfl); (case hr => first | (go_simp; done) | (go_simp; rfl)); (case hp => exact (Reps.c4 (show Kd.M k26 _ _ _ (⟨(⟨#[97, 98]⟩ : ByteArray), 2, false, (⟨#[120]⟩ : ByteArray)⟩ : S26) [.string (⟨#[97, 98]⟩ : ByteArray), .int .i64 2, .bool false, .string (⟨#[120]⟩ : ByteArray)] from (k26_mkM _ _ _ (⟨(⟨#[97, 98]⟩ : ByteArray), 2, false, (⟨#[120]⟩ : ByteArray)⟩ : S26) )) (Reps.c4 (show Kd.M k26 _ _ _ (⟨(⟨#[97, 99]⟩ : ByteArray), 1, true, (⟨#[]⟩ : ByteArray)⟩ : S26) [.string (⟨#[97, 99]⟩ : ByteArray), .int .i64 1, .bool true, .string (⟨#[]⟩ : ByteArray)] from (k26_mkM _ _ _ (⟨(⟨#[97, 99]⟩ : ByteArray), 1, true, (⟨#[]⟩ : ByteArray)⟩ : S26) )) (Reps.none _ _)))); intro v204 w7 ho8 hb hg_ hnew_; clear hg_ hnew_; (first | rw [← Ny203.out] at ho8 | (simp only [Int.reduceToNat] at ho8; rw [← Ny203.out] at ho8)); have n0_ := Aside0.mk (Kd.R_lower ho8 (below_size (Yr HB))); have n1_ := Aside0.mk (Yv HB hb); clear HB; have HO205 := n0_; have HB := n1_; clear n0_ n1_; clear hb ho8; obtain ⟨Ao9, co9, eo9⟩ := Kd.R_slice HO205.out; subst eo9) | ((with_reducible refine gate_callee (f := 11) rfl ?_); refine goesL_ (some 15) rfl rfl Try.func11 (by kernel_rfl) rfl #[.slice Ao9 y203.length co9] rfl (by (try simp only [List.map_toArray, List.map_cons, List.map_nil]); first | done | rfl | (simp only [List.length_drop, List.length_take]; rfl)) ?_; (with_reducible refine (block_Encode.calls _ _ y203 t206 none _ ?side1 ?side2 A2.out).mono ?_); (case side1 => repeat (first | exact (Kd.R_reads' HO205.out).2.2 | (with_reducible refine Kd.C_alloc ?_ _) | (with_reducible refine Kd.C_drewN ?_ _) | (with_reducible refine Kd.C_drew ?_))); (case side2 => exact (Kd.R_reads' HO205.out).2.1); rintro e w10 ⟨rfl, hb⟩; refine ⟨_, rfl, ?_⟩; have n0_ := Aside0.mk (Kd.R_below (by (with_reducible repeat (first | apply Kd.R_alloc | apply Kd.R_drewN | apply Kd.R_drew)); exact HO205.out) hb); have n1_ := Aside0.mk (Yv HB hb); clear HO205; clear HB; have HO205 := n0_; have HB := n1_; clear n0_ n1_; (try clear hb); (try clear hb2); (try clear hk); (try clear hi); (try simp only [errW_none, errW_some])) | (go_at_call 10; (with_reducible refine (block_Sorted.calls k _ _ y203 t210 _ ?side1 ?side2 A5.out).mono ?_); (case side1 => repeat (first | exact (Kd.R_reads' HO205.out).2.2 | (with_reducible refine Kd.C_alloc ?_ _) | (with_reducible refine Kd.C_drewN ?_ _) | (with_reducible refine Kd.C_drew ?_))); (case side2 => exact (Kd.R_reads' HO205.out).2.1); rintro e w11 ⟨rfl, hb⟩; have n0_ := Aside0.mk (Kd.R_below (by (with_reducible repeat (first | apply Kd.R_alloc | apply Kd.R_drewN | apply Kd.R_drew)); exact HO205.out) hb); have n1_ := Aside0.mk (Yv HB hb); clear HO205; clear HB; have HO205 := n0_; have HB := n1_; clear n0_ n1_; (try clear hb); (try clear hb2); (try clear hk); (try clear hi)))
     go_ret
     first | (refine absurd c3b0 ?_; simp [*]; done) | (refine absurd c4b0 ?_; simp [*]; done) | exact ⟨by first | rfl | (simp [errW_none, errW_some] <;> rfl) | (simp [*, errW_none, errW_some] <;> rfl), Yr HB⟩
    ·
     have H1 : (some false) = some r := by rw [if_neg (show ¬ (some q209).isNone = true by simp)] at H; exact H
     clear H
     have H := H1
     clear H1
     try simp only [errW_none, errW_some]
     exact absurd ((Option.some.inj H).trans HRT_.out) (by decide)
   ·
    rw [if_neg c4] at H
    have c4b0 : (t206.toList == ([1, 2, 0, 1, 2, 97, 98, 1, 2, 0, 1, 1, 120, 1, 1, 1, 1, 99, 1, 1, 1, 1] : List UInt8)) = false := beq_eq_false_iff_ne.mpr c4
    have c4b1 : (t206.toList != ([1, 2, 0, 1, 2, 97, 98, 1, 2, 0, 1, 1, 120, 1, 1, 1, 1, 99, 1, 1, 1, 1] : List UInt8)) = true := bne_iff_ne.mpr c4
    exact absurd ((Option.some.inj H).trans HRT_.out) (by decide)
  ·
   have H1 : (some false) = some r := by rw [if_neg (show ¬ (some q208).isNone = true by simp)] at H; exact H
   clear H
   have H := H1
   clear H1
   try simp only [errW_none, errW_some]
   exact absurd ((Option.some.inj H).trans HRT_.out) (by decide)
 ·
  rw [if_neg c3] at H
  have c3b0 : (t201.toList == ([0] : List UInt8)) = false := beq_eq_false_iff_ne.mpr c3
  have c3b1 : (t201.toList != ([0] : List UInt8)) = true := bne_iff_ne.mpr c3
  exact absurd ((Option.some.inj H).trans HRT_.out) (by decide)


end Go.Proofs.Ytgfgdpmpbpofbaa.Print
