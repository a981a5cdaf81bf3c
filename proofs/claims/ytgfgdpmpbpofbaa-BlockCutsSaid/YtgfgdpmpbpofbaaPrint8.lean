-- Printed out of the translation by a program of this session's own. Not trusted: Lean checks it.
import Derived.Test.YtgfgdpmpbpofbaaPrint0
import Derived.Test.YtgfgdpmpbpofbaaPrint1
import Derived.Test.YtgfgdpmpbpofbaaPrint3
import Derived.Test.YtgfgdpmpbpofbaaHBlockEncode
namespace Go.Proofs.Ytgfgdpmpbpofbaa.Print
open Go.RowKit Go.Proofs.YtgfgdpmpbpofbaaW.PrintWords Go.Proofs.YtgfgdpmpbpofbaaW.PrintLast Go.Proofs.YtgfgdpmpbpofbaaW.PrintMore Go.Proofs.YtgfgdpmpbpofbaaX
attribute [local go_sem] max2_int min2_int max_two min_two max_three min_three max_four min_four   -- for this text's walks alone
set_option linter.unusedVariables false
set_option linter.unusedSimpArgs false

attribute [local go_sem high] eqA26
/-! ### palinodelaw12_examples: function 9 -/
def palinodelaw12_examples.f (k : Nat)  : Option (Bool) := (block_Encode.f ([] : List (S26))).bind fun bt201 => ((some (([(⟨(⟨#[97, 98]⟩ : ByteArray), 2, false, (⟨#[120]⟩ : ByteArray)⟩ : S26), (⟨(⟨#[97, 99]⟩ : ByteArray), 1, true, (⟨#[]⟩ : ByteArray)⟩ : S26)] : List (S26)) : List (S26))).bind fun y203 => ((block_Encode.f y203).bind fun bt206 => (if bt201.1.toList = ([0] : List UInt8) then (if bt201.2.isNone = true then (if bt206.1.toList = ([1, 2, 0, 1, 2, 97, 98, 1, 2, 0, 1, 1, 120, 1, 1, 1, 1, 99, 1, 1, 1, 1] : List UInt8) then (if bt206.2.isNone = true then ((block_Sorted.f k y203).bind fun t210 => (some t210)) else (some false)) else (some false)) else (some false)) else (some false))))
theorem palinodelaw12_examples.mono : ∀ k, LeO (palinodelaw12_examples.f k ) (palinodelaw12_examples.f (k + 1) ) := by
 intro  k
 unfold palinodelaw12_examples.f
 repeat' first
   | (with_reducible exact block_Sorted.mono _ _)
   | (with_reducible exact LeO.refl _)
   | (with_reducible exact LeO.none _)
   | (with_reducible refine LeO.ite ?_ ?_)
   | (with_reducible refine LeO.bind ?_ (fun _ => ?_))
   | exact block_Sorted.mono _ _
   | exact LeO.none _
   | refine LeO.ite ?_ ?_
   | refine LeO.bind ?_ (fun _ => ?_)
set_option maxHeartbeats 8000000 in
set_option maxRecDepth 100000 in
theorem palinodelaw12_examples.calls (k : Nat)  (r : Bool) (w : World) (h : palinodelaw12_examples.f k  = some r) (HRT_ : Aside0 (r = true) := by first | exact ⟨rfl⟩ | assumption) :
  Calls Try.prog 9 #[] w fun e w' => e = .returned (.bool r) ∧ Below w.heap.size w w' := by
 have hu26 := Try.underlying26
 have hu29 := Try.underlying29
 have hu47 := Try.underlying47
 have HB := Aside0.mk (Below.refl w.heap.size w)
 have H : ((block_Encode.f ([] : List (S26))).bind fun bt201 => ((some (([(⟨(⟨#[97, 98]⟩ : ByteArray), 2, false, (⟨#[120]⟩ : ByteArray)⟩ : S26), (⟨(⟨#[97, 99]⟩ : ByteArray), 1, true, (⟨#[]⟩ : ByteArray)⟩ : S26)] : List (S26)) : List (S26))).bind fun y203 => ((block_Encode.f y203).bind fun bt206 => (if bt201.1.toList = ([0] : List UInt8) then (if bt201.2.isNone = true then (if bt206.1.toList = ([1, 2, 0, 1, 2, 97, 98, 1, 2, 0, 1, 1, 120, 1, 1, 1, 1, 99, 1, 1, 1, 1] : List UInt8) then (if bt206.2.isNone = true then ((block_Sorted.f k y203).bind fun t210 => (some t210)) else (some false)) else (some false)) else (some false)) else (some false))))) = some r := h
 clear h
 replace H := Option.bind_eq_some_iff.mp H
 obtain ⟨⟨t201, t202⟩, A10, H⟩ := H
 replace H : ((some (([(⟨(⟨#[97, 98]⟩ : ByteArray), 2, false, (⟨#[120]⟩ : ByteArray)⟩ : S26), (⟨(⟨#[97, 99]⟩ : ByteArray), 1, true, (⟨#[]⟩ : ByteArray)⟩ : S26)] : List (S26)) : List (S26))).bind fun y203 => ((block_Encode.f y203).bind fun bt206 => (if t201.toList = ([0] : List UInt8) then (if t202.isNone = true then (if bt206.1.toList = ([1, 2, 0, 1, 2, 97, 98, 1, 2, 0, 1, 1, 120, 1, 1, 1, 1, 99, 1, 1, 1, 1] : List UInt8) then (if bt206.2.isNone = true then ((block_Sorted.f k y203).bind fun t210 => (some t210)) else (some false)) else (some false)) else (some false)) else (some false)))) = some r := H
 have A1 := Aside0.mk A10
 clear A10
 obtain ⟨y203, hy203⟩ : ∃ y_ : List (S26), y_ = (([(⟨(⟨#[97, 98]⟩ : ByteArray), 2, false, (⟨#[120]⟩ : ByteArray)⟩ : S26), (⟨(⟨#[97, 99]⟩ : ByteArray), 1, true, (⟨#[]⟩ : ByteArray)⟩ : S26)] : List (S26))) := ⟨_, rfl⟩
 replace H : ((block_Encode.f y203).bind fun bt206 => (if t201.toList = ([0] : List UInt8) then (if t202.isNone = true then (if bt206.1.toList = ([1, 2, 0, 1, 2, 97, 98, 1, 2, 0, 1, 1, 120, 1, 1, 1, 1, 99, 1, 1, 1, 1] : List UInt8) then (if bt206.2.isNone = true then ((block_Sorted.f k y203).bind fun t210 => (some t210)) else (some false)) else (some false)) else (some false)) else (some false))) = some r := by first | (rw [hy203]; with_reducible exact H) | (have H2_ := (Option.bind_some _ _).symm.trans H; rw [hy203]; with_reducible exact H2_) | (have H2_ := (Option.bind_some _ _).symm.trans H; with_reducible exact H2_) | with_reducible exact H | (rw [hy203]; exact H) | exact H
 have Ny203 := Aside0.mk hy203
 clear hy203
 replace H := Option.bind_eq_some_iff.mp H
 obtain ⟨⟨t206, t207⟩, A20, H⟩ := H
 replace H : (if t201.toList = ([0] : List UInt8) then (if t202.isNone = true then (if t206.toList = ([1, 2, 0, 1, 2, 97, 98, 1, 2, 0, 1, 1, 120, 1, 1, 1, 1, 99, 1, 1, 1, 1] : List UInt8) then (if t207.isNone = true then ((block_Sorted.f k y203).bind fun t210 => (some t210)) else (some false)) else (some false)) else (some false)) else (some false)) = some r := H
 have A2 := Aside0.mk A20
 clear A20
 by_cases c3 : t201.toList = ([0] : List UInt8)
 ·
  rw [if_pos c3] at H
  have c3b0 : (t201.toList == ([0] : List UInt8)) = true := beq_iff_eq.mpr c3
  have c3b1 : (t201.toList != ([0] : List UInt8)) = false := bne_eq_false_iff_eq.mpr c3
  clear c3
  rcases t202 with _ | q208
  ·
   have H1 : (if t206.toList = ([1, 2, 0, 1, 2, 97, 98, 1, 2, 0, 1, 1, 120, 1, 1, 1, 1, 99, 1, 1, 1, 1] : List UInt8) then (if t207.isNone = true then ((block_Sorted.f k y203).bind fun t210 => (some t210)) else (some false)) else (some false)) = some r := by rw [if_pos (show (none : Option Int).isNone = true by rfl)] at H; exact H
   clear H
   have H := H1
   clear H1
   try simp only [errW_none, errW_some]
   by_cases c4 : t206.toList = ([1, 2, 0, 1, 2, 97, 98, 1, 2, 0, 1, 1, 120, 1, 1, 1, 1, 99, 1, 1, 1, 1] : List UInt8)
   ·
    rw [if_pos c4] at H
    have c4b0 : (t206.toList == ([1, 2, 0, 1, 2, 97, 98, 1, 2, 0, 1, 1, 120, 1, 1, 1, 1, 99, 1, 1, 1, 1] : List UInt8)) = true := beq_iff_eq.mpr c4
    have c4b1 : (t206.toList != ([1, 2, 0, 1, 2, 97, 98, 1, 2, 0, 1, 1, 120, 1, 1, 1, 1, 99, 1, 1, 1, 1] : List UInt8)) = false := bne_eq_false_iff_eq.mpr c4
    clear c4
    rcases t207 with _ | q209
    ·
     have H1 : ((block_Sorted.f k y203).bind fun t210 => (some t210)) = some r := by rw [if_pos (show (none : Option Int).isNone = true by rfl)] at H; exact H
     clear H
     have H := H1
     clear H1
     try simp only [errW_none, errW_some]
     replace H := Option.bind_eq_some_iff.mp H
     obtain ⟨t210, A50, H⟩ := H
     replace H : (some t210) = some r := H
     have A5 := Aside0.mk A50
     clear A50
     obtain rfl := Option.some.inj H
     go_enter Try.func9, Try.ntmps9
     go_wp2_with (first | ((with_reducible refine gate_callee (f := 11) rfl ?_); refine goesL_ (some 7) rfl rfl Try.func11 (by kernel_rfl) rfl #[.slice none 0 0] rfl (by (try simp only [List.map_toArray, List.map_cons, List.map_nil]); first | done | rfl | (simp only [List.length_drop, List.length_take]; rfl)) ?_; (refine (block_Encode.calls _ _ ([] : List (S26)) t201 none _ ?side1 ?side2 A1.out).mono ?_); (case side1 => exact Kd.C_nil _ _); (case side2 => exact Nat.le_refl _); rintro e w6 ⟨rfl, hb⟩; refine ⟨_, rfl, ?_⟩; have n0_ := Aside0.mk (Yv HB hb); clear HB; have HB := n0_; clear n0_; (try clear hb); (try clear hb2); (try clear hk); (try clear hi); (try simp only [errW_none, errW_some])) | ((with_reducible refine gate_dst (N := 12) rfl ?_); refine Kd.R_lit k26 _ 26 ?hg (N := 12) ?hd (xs := ([(⟨(⟨#[97, 98]⟩ : ByteArray), 2, false, (⟨#[120]⟩ : ByteArray)⟩ : S26), (⟨(⟨#[97, 99]⟩ : ByteArray), 1, true, (⟨#[]⟩ : ByteArray)⟩ : S26)] : List (S26))) (inner := [.string (⟨#[97, 98]⟩ : ByteArray), .int .i64 2, .bool false, .string (⟨#[120]⟩ : ByteArray), .string (⟨#[97, 99]⟩ : ByteArray), .int .i64 1, .bool true, .string (⟨#[]⟩ : ByteArray)]) (ok := fun _ => True) (okp := fun _ => True) ?hr ?hp (fun _ hk => hk) trivial (Below.refl _ _) (Nat.le_refl _) (by simp) ?_; (case hd => rfl); (case hg => rfl); (case hr => first | (go_simp; done) | (go_simp; rfl)); (case hp => exact (Reps.c4 (show Kd.M k26 _ _ _ (⟨(⟨#[97, 98]⟩ : ByteArray), 2, false, (⟨#[120]⟩ : ByteArray)⟩ : S26) [.string (⟨#[97, 98]⟩ : ByteArray), .int .i64 2, .bool false, .string (⟨#[120]⟩ : ByteArray)] from (k26_mkM _ _ _ (⟨(⟨#[97, 98]⟩ : ByteArray), 2, false, (⟨#[120]⟩ : ByteArray)⟩ : S26) )) (Reps.c4 (show Kd.M k26 _ _ _ (⟨(⟨#[97, 99]⟩ : ByteArray), 1, true, (⟨#[]⟩ : ByteArray)⟩ : S26) [.string (⟨#[97, 99]⟩ : ByteArray), .int .i64 1, .bool true, .string (⟨#[]⟩ : ByteArray)] from (k26_mkM _ _ _ (⟨(⟨#[97, 99]⟩ : ByteArray), 1, true, (⟨#[]⟩ : ByteArray)⟩ : S26) )) (Reps.none _ _)))); intro v204 w7 ho8 hb hg_ hnew_; clear hg_ hnew_; (first | rw [← Ny203.out] at ho8 | (simp only [Int.reduceToNat] at ho8; rw [← Ny203.out] at ho8)); have n0_ := Aside0.mk (Kd.R_lower ho8 (below_size (Yr HB))); have n1_ := Aside0.mk (Yv HB hb); clear HB; have HO205 := n0_; have HB := n1_; clear n0_ n1_; clear hb ho8; obtain ⟨Ao9, co9, eo9⟩ := Kd.R_slice HO205.out; subst eo9) | ((with_reducible refine gate_callee (f := 11) rfl ?_); refine goesL_ (some 15) rfl rfl Try.func11 (by kernel_rfl) rfl #[.slice Ao9 y203.length co9] rfl (by (try simp only [List.map_toArray, List.map_cons, List.map_nil]); first | done | rfl | (simp only [List.length_drop, List.length_take]; rfl)) ?_; (with_reducible refine (block_Encode.calls _ _ y203 t206 none _ ?side1 ?side2 A2.out).mono ?_); (case side1 => repeat (first | exact (Kd.R_reads' HO205.out).2.2 | (with_reducible refine Kd.C_alloc ?_ _) | (with_reducible refine Kd.C_drewN ?_ _) | (with_reducible refine Kd.C_drew ?_))); (case side2 => exact (Kd.R_reads' HO205.out).2.1); rintro e w10 ⟨rfl, hb⟩; refine ⟨_, rfl, ?_⟩; have n0_ := Aside0.mk (Kd.R_below (by (with_reducible repeat (first | apply Kd.R_alloc | apply Kd.R_drewN | apply Kd.R_drew)); exact HO205.out) hb); have n1_ := Aside0.mk (Yv HB hb); clear HO205; clear HB; have HO205 := n0_; have HB := n1_; clear n0_ n1_; (try clear hb); (try clear hb2); (try clear hk); (try clear hi); (try simp only [errW_none, errW_some])) | (go_at_call 10; (with_reducible refine (block_Sorted.calls k _ _ y203 t210 _ ?side1 ?side2 A5.out).mono ?_); (case side1 => repeat (first | exact (Kd.R_reads' HO205.out).2.2 | (with_reducible refine Kd.C_alloc ?_ _) | (with_reducible refine Kd.C_drewN ?_ _) | (with_reducible refine Kd.C_drew ?_))); (case side2 => exact (Kd.R_reads' HO205.out).2.1); rintro e w11 ⟨rfl, hb⟩; have n0_ := Aside0.mk (Kd.R_below (by (with_reducible repeat (first | apply Kd.R_alloc | apply Kd.R_drewN | apply Kd.R_drew)); exact HO205.out) hb); have n1_ := Aside0.mk (Yv HB hb); clear HO205; clear HB; have HO205 := n0_; have HB := n1_; clear n0_ n1_; (try clear hb); (try clear hb2); (try clear hk); (try clear hi)))
     go_ret
     first | (refine absurd c3b0 ?_; simp [*]; done) | (refine absurd c4b0 ?_; simp [*]; done) | exact ⟨by first | rfl | (simp [errW_none, errW_some] <;> rfl) | (simp [*, errW_none, errW_some] <;> rfl), Yr HB⟩
    ·
     have H1 : (some false) = some r := by rw [if_neg (show ¬ (some q209).isNone = true by simp)] at H; exact H
     clear H
     have H := H1
     clear H1
     try simp only [errW_none, errW_some]
     exact absurd ((Option.some.inj H).trans HRT_.out) (by decide)
   ·
    rw [if_neg c4] at H
    have c4b0 : (t206.toList == ([1, 2, 0, 1, 2, 97, 98, 1, 2, 0, 1, 1, 120, 1, 1, 1, 1, 99, 1, 1, 1, 1] : List UInt8)) = false := beq_eq_false_iff_ne.mpr c4
    have c4b1 : (t206.toList != ([1, 2, 0, 1, 2, 97, 98, 1, 2, 0, 1, 1, 120, 1, 1, 1, 1, 99, 1, 1, 1, 1] : List UInt8)) = true := bne_iff_ne.mpr c4
    exact absurd ((Option.some.inj H).trans HRT_.out) (by decide)
  ·
   have H1 : (some false) = some r := by rw [if_neg (show ¬ (some q208).isNone = true by simp)] at H; exact H
   clear H
   have H := H1
   clear H1
   try simp only [errW_none, errW_some]
   exact absurd ((Option.some.inj H).trans HRT_.out) (by decide)
 ·
  rw [if_neg c3] at H
  have c3b0 : (t201.toList == ([0] : List UInt8)) = false := beq_eq_false_iff_ne.mpr c3
  have c3b1 : (t201.toList != ([0] : List UInt8)) = true := bne_iff_ne.mpr c3
  exact absurd ((Option.some.inj H).trans HRT_.out) (by decide)

/-! ### block_Find: function 12 -/
def block_Find.l0 : Nat → ByteArray → Int → List (S26) → Int → Int → Option (ByteArray × Int × Bool × ByteArray × Bool)
 | 0, _, _, _, _, _ => none
 | k + 1, x1, x2, x10, x11, x12 => if x12 < x11 then (if 0 ≤ x12 then (if x12 < (x10.length : Int) then (if ((rd_T26 x10 x12).f0).toList = x1.toList then (if ((rd_T26 x10 x12).f1) ≤ x2 then (some ((rd_T26 x10 x12).f0, (rd_T26 x10 x12).f1, (rd_T26 x10 x12).f2, (rd_T26 x10 x12).f3, true)) else (block_Find.l0 k x1 x2 x10 x11 (wrap64 (x12 + 1)))) else (block_Find.l0 k x1 x2 x10 x11 (wrap64 (x12 + 1)))) else (none)) else (none)) else (some ((⟨#[]⟩ : ByteArray), 0, false, (⟨#[]⟩ : ByteArray), false))
def block_Find.f (k : Nat) (l0 : List (S26)) (a1 : ByteArray) (a2 : Int) : Option (ByteArray × Int × Bool × ByteArray × Bool) := block_Find.l0 k a1 a2 l0 (l0.length : Int) 0
theorem block_Find.mono_l : ∀ k, (∀ y0 y1 y2 y3 y4, LeO (block_Find.l0 k y0 y1 y2 y3 y4) (block_Find.l0 (k + 1) y0 y1 y2 y3 y4))
 | 0 => fun _ _ _ _ _ r h => by simp [block_Find.l0] at h
 | k + 1 => by
  have ih0 := block_Find.mono_l k
  ·
   intro y0 y1 y2 y3 y4
   unfold block_Find.l0
   repeat' first
   | (with_reducible exact ih0 _ _ _ _ _)
   | (with_reducible exact LeO.refl _)
   | (with_reducible exact LeO.none _)
   | (with_reducible refine LeO.ite ?_ ?_)
   | (with_reducible refine LeO.bind ?_ (fun _ => ?_))
   | exact ih0 _ _ _ _ _
   | exact LeO.none _
   | refine LeO.ite ?_ ?_
   | refine LeO.bind ?_ (fun _ => ?_)
theorem block_Find.mono : ∀ a0 a1 a2 k, LeO (block_Find.f k a0 a1 a2) (block_Find.f (k + 1) a0 a1 a2) := by
 intro a0 a1 a2 k
 have ih0 := block_Find.mono_l k
 unfold block_Find.f
 repeat' first
   | (with_reducible exact ih0 _ _ _ _ _)
   | (with_reducible exact LeO.refl _)
   | (with_reducible exact LeO.none _)
   | (with_reducible refine LeO.ite ?_ ?_)
   | (with_reducible refine LeO.bind ?_ (fun _ => ?_))
   | exact ih0 _ _ _ _ _
   | exact LeO.none _
   | refine LeO.ite ?_ ?_
   | refine LeO.bind ?_ (fun _ => ?_)
set_option maxHeartbeats 8000000 in
set_option maxRecDepth 100000 in
theorem block_Find.calls (k : Nat) (A0 : Option Addr) (c0 : Nat) (l0 : List (S26)) (a1 : ByteArray) (a2 : Int) (r1 : ByteArray) (r2 : Int) (r3 : Bool) (r4 : ByteArray) (r5 : Bool) (w : World) (hr0 : Kd.C k26 w A0 l0.length l0) (hc0 : l0.length ≤ c0) (h : block_Find.f k l0 a1 a2 = some (r1, r2, r3, r4, r5)) :
  Calls Try.prog 12 #[.slice A0 l0.length c0, .string a1, .int .i64 a2] w fun e w' => e = .returned (.tuple #[.agg #[.string r1, .int .i64 r2, .bool r3, .string r4], .bool r5]) ∧ Below w.heap.size w w' := by
 have hu26 := Try.underlying26
 have HR0 := Aside0.mk hr0
 have HC0 := Aside0.mk hc0
 clear hr0 hc0
 have HB := Aside0.mk (Below.refl w.heap.size w)
 have H : (block_Find.l0 k a1 a2 l0 (l0.length : Int) 0) = some (r1, r2, r3, r4, r5) := h
 clear h
 have H' := Aside0.mk H
 clear H
 go_enter Try.func12, Try.ntmps12
 go_wp2_with (first | ((with_reducible refine gate_dst (N := 6) rfl ?_); refine box_event ?hg (N := 6) ?hd (cs := #[.string (⟨#[]⟩ : ByteArray), .int .i64 0, .bool false, .string (⟨#[]⟩ : ByteArray)]) (t := 26) ?hr ?_; (case hd => rfl); (case hg => rfl); (case hr => first | (go_simp; done) | (go_simp; rfl)); intro gb211 hg w4 hbox hb; have n0_ := Aside0.mk (Yv HB hb); have n1_ := Aside0.mk (hbox); have n2_ := Aside0.mk (Yg HB hg); have n3_ := Aside0.mk (Yg HB hg); clear HB; have HB := n0_; have BK211 := n1_; have GW211 := n2_; have GE211 := n3_; clear n0_ n1_ n2_ n3_; clear hb hbox hg))
 go_loopg [12] k (fun kq v12 w' => ∃ (x12_1 : Int) (x212000_1 : ByteArray) (x212001_1 : Int) (x212002_1 : Bool) (x212003_1 : ByteArray), v12 = .int .i64 x12_1 ∧ Aside0 (block_Find.l0 kq a1 a2 l0 (l0.length : Int) x12_1 = some (r1, r2, r3, r4, r5)) ∧ Aside0 (kq ≤ k) ∧ Aside0 (w'.heap[gb211]? = some (.cells #[.string x212000_1, .int .i64 x212001_1, .bool x212002_1, .string x212003_1] 26 (0, 0))) ∧ Aside0 (Below w.heap.size w w'))
 case atStart => exact ⟨(0), ((⟨#[]⟩ : ByteArray)), (0), (false), ((⟨#[]⟩ : ByteArray)), (by first | rfl | (simp; done) | (simp [*]; done)), H', ⟨Nat.le_refl _⟩, ⟨by (with_reducible repeat first | apply Zn | apply Zd | apply Za); exact BK211.out⟩, ⟨Yr HB⟩⟩
 case round =>
  clear H'
  try clear c1
  try clear p2
  obtain ⟨x12_1, x212000_1, x212001_1, x212002_1, x212003_1, rfl, HA, HK1, BK211, HB⟩ := hrel
  cases gk with
  | zero => exact absurd HA.out (by simp [block_Find.l0])
  | succ k1 =>
   have H := HA.out
   clear HA
   simp only [block_Find.l0] at H
   by_cases c5 : x12_1 < (l0.length : Int)
   ·
    rw [if_pos c5] at H
    have c5b0 : decide (x12_1 < (l0.length : Int)) = true := decide_eq_true c5
    clear c5
    by_cases c6 : 0 ≤ x12_1
    ·
     rw [if_pos c6] at H
     have c6b0 : decide (0 ≤ x12_1) = true := decide_eq_true c6
     clear c6
     by_cases c7 : x12_1 < (l0.length : Int)
     ·
      rw [if_pos c7] at H
      have c7b0 : decide (x12_1 < (l0.length : Int)) = true := decide_eq_true c7
      clear c7
      by_cases c8 : ((rd_T26 l0 x12_1).f0).toList = a1.toList
      ·
       rw [if_pos c8] at H
       have c8b0 : (((rd_T26 l0 x12_1).f0).toList == a1.toList) = true := beq_iff_eq.mpr c8
       have c8b1 : (((rd_T26 l0 x12_1).f0).toList != a1.toList) = false := bne_eq_false_iff_eq.mpr c8
       clear c8
       by_cases c9 : ((rd_T26 l0 x12_1).f1) ≤ a2
       ·
        rw [if_pos c9] at H
        have c9b0 : decide (((rd_T26 l0 x12_1).f1) ≤ a2) = true := decide_eq_true c9
        clear c9
        simp only [Option.some.injEq, Prod.mk.injEq] at H
        obtain ⟨rfl, rfl, rfl, rfl, rfl⟩ := H
        have p212 : 0 ≤ (x12_1 : Int) := of_decide_eq_true (by first | (with_reducible assumption) | assumption)
        have q212 : x12_1 < (l0.length : Int) := of_decide_eq_true (by first | (with_reducible assumption) | assumption)
        obtain ⟨ad212, e212, hx212_0, hx212_1, hx212_2, hx212_3⟩ := at_T26 HR0.out x12_1 p212 q212
        cases e212
        replace hx212_0 := (HB.out.cell (World.block_lt_of_cell? w _ hx212_0)).trans hx212_0
        replace hx212_1 := (HB.out.cell (World.block_lt_of_cell? w _ hx212_1)).trans hx212_1
        replace hx212_2 := (HB.out.cell (World.block_lt_of_cell? w _ hx212_2)).trans hx212_2
        replace hx212_3 := (HB.out.cell (World.block_lt_of_cell? w _ hx212_3)).trans hx212_3
        replace p212 := eq_true p212
        replace q212 := eq_true q212
        go_wp2_with (first | ((with_reducible refine gate_dst (N := 9) rfl ?_); refine box_event ?hg (N := 9) ?hd (cs := #[.string (⟨#[]⟩ : ByteArray), .int .i64 0, .bool false, .string (⟨#[]⟩ : ByteArray)]) (t := 26) ?hr ?_; (case hd => rfl); (case hg => rfl); (case hr => first | (go_simp; done) | (go_simp; rfl)); intro gb213 hg w10 hbox hb; have n0_ := Aside0.mk (Zv BK211 hb); have n1_ := Aside0.mk (Yv HB hb); have n2_ := Aside0.mk (hbox); have n3_ := Aside0.mk (Yg HB hg); have n4_ := Aside0.mk (Yg HB hg); have n5_ := Aside0.mk (Zl BK211 hg); have n6_ := Aside0.mk (Zg BK211 hg); clear BK211; clear HB; have BK211 := n0_; have HB := n1_; have BK213 := n2_; have GW213 := n3_; have GE213 := n4_; have NB211_213 := n5_; have NB213_211 := n6_; clear n0_ n1_ n2_ n3_ n4_ n5_ n6_; clear hb hbox hg; obtain ⟨hnb11, hnc11⟩ := Zo NB213_211; obtain ⟨⟨hcz12_0, hcz12_1, hcz12_2, hcz12_3⟩, hfz12_0, hfz12_1, hfz12_2, hfz12_3⟩ := Zk4 BK213; obtain ⟨⟨hcz13_0, hcz13_1, hcz13_2, hcz13_3⟩, hfz13_0, hfz13_1, hfz13_2, hfz13_3⟩ := Zk4 BK211))
        refine bodyPost_ret (results_ct rfl _ _ gb211 26 #[.string ((rd_T26 l0 x12_1).f0), .int .i64 ((rd_T26 l0 x12_1).f1), .bool ((rd_T26 l0 x12_1).f2), .string ((rd_T26 l0 x12_1).f3)] (0, 0) _ rfl (by (with_reducible repeat first | apply Zn | apply Zd | apply Za); refine Zp (cs := #[.string ((rd_T26 l0 x12_1).f0), .int .i64 ((rd_T26 l0 x12_1).f1), .bool ((rd_T26 l0 x12_1).f2), .string x212003_1]) ?_ 3 _ rfl; (with_reducible repeat first | apply Zn | apply Zd | apply Za); refine Zp (cs := #[.string ((rd_T26 l0 x12_1).f0), .int .i64 ((rd_T26 l0 x12_1).f1), .bool x212002_1, .string x212003_1]) ?_ 2 _ rfl; (with_reducible repeat first | apply Zn | apply Zd | apply Za); refine Zp (cs := #[.string ((rd_T26 l0 x12_1).f0), .int .i64 x212001_1, .bool x212002_1, .string x212003_1]) ?_ 1 _ rfl; (with_reducible repeat first | apply Zn | apply Zd | apply Za); refine Zp (cs := #[.string x212000_1, .int .i64 x212001_1, .bool x212002_1, .string x212003_1]) ?_ 0 _ rfl; (with_reducible repeat first | apply Zn | apply Zd | apply Za); refine Zq ?_ NB211_213.out _; (with_reducible repeat first | apply Zn | apply Zd | apply Za); refine Zq ?_ NB211_213.out _; (with_reducible repeat first | apply Zn | apply Zd | apply Za); refine Zq ?_ NB211_213.out _; (with_reducible repeat first | apply Zn | apply Zd | apply Za); refine Zq ?_ NB211_213.out _; (with_reducible repeat first | apply Zn | apply Zd | apply Za); exact BK211.out) Try.underlying26 rfl (by kernel_rfl)) rfl ?_
        exact ⟨by first | rfl | (simp [errW_none, errW_some] <;> rfl) | (simp [*, errW_none, errW_some] <;> rfl), Yr HB⟩
       ·
        rw [if_neg c9] at H
        have c9b0 : decide (((rd_T26 l0 x12_1).f1) ≤ a2) = false := decide_eq_false c9
        clear c9
        have H' := Aside0.mk H
        clear H
        have p212 : 0 ≤ (x12_1 : Int) := of_decide_eq_true (by first | (with_reducible assumption) | assumption)
        have q212 : x12_1 < (l0.length : Int) := of_decide_eq_true (by first | (with_reducible assumption) | assumption)
        obtain ⟨ad212, e212, hx212_0, hx212_1, hx212_2, hx212_3⟩ := at_T26 HR0.out x12_1 p212 q212
        cases e212
        replace hx212_0 := (HB.out.cell (World.block_lt_of_cell? w _ hx212_0)).trans hx212_0
        replace hx212_1 := (HB.out.cell (World.block_lt_of_cell? w _ hx212_1)).trans hx212_1
        replace hx212_2 := (HB.out.cell (World.block_lt_of_cell? w _ hx212_2)).trans hx212_2
        replace hx212_3 := (HB.out.cell (World.block_lt_of_cell? w _ hx212_3)).trans hx212_3
        replace p212 := eq_true p212
        replace q212 := eq_true q212
        go_wp2_with (first | ((with_reducible refine gate_dst (N := 9) rfl ?_); refine box_event ?hg (N := 9) ?hd (cs := #[.string (⟨#[]⟩ : ByteArray), .int .i64 0, .bool false, .string (⟨#[]⟩ : ByteArray)]) (t := 26) ?hr ?_; (case hd => rfl); (case hg => rfl); (case hr => first | (go_simp; done) | (go_simp; rfl)); intro gb213 hg w14 hbox hb; have n0_ := Aside0.mk (Zv BK211 hb); have n1_ := Aside0.mk (Yv HB hb); have n2_ := Aside0.mk (hbox); have n3_ := Aside0.mk (Yg HB hg); have n4_ := Aside0.mk (Yg HB hg); have n5_ := Aside0.mk (Zl BK211 hg); have n6_ := Aside0.mk (Zg BK211 hg); clear BK211; clear HB; have BK211 := n0_; have HB := n1_; have BK213 := n2_; have GW213 := n3_; have GE213 := n4_; have NB211_213 := n5_; have NB213_211 := n6_; clear n0_ n1_ n2_ n3_ n4_ n5_ n6_; clear hb hbox hg; obtain ⟨hnb15, hnc15⟩ := Zo NB213_211; obtain ⟨⟨hcz16_0, hcz16_1, hcz16_2, hcz16_3⟩, hfz16_0, hfz16_1, hfz16_2, hfz16_3⟩ := Zk4 BK213))
        go_roundg k1
        case measure => have := HK1.out; omega
        case rel => exact ⟨(wrap64 (x12_1 + 1)), (x212000_1), (x212001_1), (x212002_1), (x212003_1), (by first | rfl | (simp; done) | (simp [*]; done)), H', ⟨by have := HK1.out; omega⟩, ⟨by (with_reducible repeat first | apply Zn | apply Zd | apply Za); refine Zq ?_ NB211_213.out _; (with_reducible repeat first | apply Zn | apply Zd | apply Za); refine Zq ?_ NB211_213.out _; (with_reducible repeat first | apply Zn | apply Zd | apply Za); refine Zq ?_ NB211_213.out _; (with_reducible repeat first | apply Zn | apply Zd | apply Za); refine Zq ?_ NB211_213.out _; (with_reducible repeat first | apply Zn | apply Zd | apply Za); exact BK211.out⟩, ⟨Yr HB⟩⟩
      ·
       rw [if_neg c8] at H
       have c8b0 : (((rd_T26 l0 x12_1).f0).toList == a1.toList) = false := beq_eq_false_iff_ne.mpr c8
       have c8b1 : (((rd_T26 l0 x12_1).f0).toList != a1.toList) = true := bne_iff_ne.mpr c8
       have H' := Aside0.mk H
       clear H
       have p212 : 0 ≤ (x12_1 : Int) := of_decide_eq_true (by first | (with_reducible assumption) | assumption)
       have q212 : x12_1 < (l0.length : Int) := of_decide_eq_true (by first | (with_reducible assumption) | assumption)
       obtain ⟨ad212, e212, hx212_0, hx212_1, hx212_2, hx212_3⟩ := at_T26 HR0.out x12_1 p212 q212
       cases e212
       replace hx212_0 := (HB.out.cell (World.block_lt_of_cell? w _ hx212_0)).trans hx212_0
       replace hx212_1 := (HB.out.cell (World.block_lt_of_cell? w _ hx212_1)).trans hx212_1
       replace hx212_2 := (HB.out.cell (World.block_lt_of_cell? w _ hx212_2)).trans hx212_2
       replace hx212_3 := (HB.out.cell (World.block_lt_of_cell? w _ hx212_3)).trans hx212_3
       replace p212 := eq_true p212
       replace q212 := eq_true q212
       go_wp2_with (first | ((with_reducible refine gate_dst (N := 9) rfl ?_); refine box_event ?hg (N := 9) ?hd (cs := #[.string (⟨#[]⟩ : ByteArray), .int .i64 0, .bool false, .string (⟨#[]⟩ : ByteArray)]) (t := 26) ?hr ?_; (case hd => rfl); (case hg => rfl); (case hr => first | (go_simp; done) | (go_simp; rfl)); intro gb213 hg w17 hbox hb; have n0_ := Aside0.mk (Zv BK211 hb); have n1_ := Aside0.mk (Yv HB hb); have n2_ := Aside0.mk (hbox); have n3_ := Aside0.mk (Yg HB hg); have n4_ := Aside0.mk (Yg HB hg); have n5_ := Aside0.mk (Zl BK211 hg); have n6_ := Aside0.mk (Zg BK211 hg); clear BK211; clear HB; have BK211 := n0_; have HB := n1_; have BK213 := n2_; have GW213 := n3_; have GE213 := n4_; have NB211_213 := n5_; have NB213_211 := n6_; clear n0_ n1_ n2_ n3_ n4_ n5_ n6_; clear hb hbox hg; obtain ⟨hnb18, hnc18⟩ := Zo NB213_211; obtain ⟨⟨hcz19_0, hcz19_1, hcz19_2, hcz19_3⟩, hfz19_0, hfz19_1, hfz19_2, hfz19_3⟩ := Zk4 BK213))
       go_roundg k1
       case measure => have := HK1.out; omega
       case rel => exact ⟨(wrap64 (x12_1 + 1)), (x212000_1), (x212001_1), (x212002_1), (x212003_1), (by first | rfl | (simp; done) | (simp [*]; done)), H', ⟨by have := HK1.out; omega⟩, ⟨by (with_reducible repeat first | apply Zn | apply Zd | apply Za); refine Zq ?_ NB211_213.out _; (with_reducible repeat first | apply Zn | apply Zd | apply Za); refine Zq ?_ NB211_213.out _; (with_reducible repeat first | apply Zn | apply Zd | apply Za); refine Zq ?_ NB211_213.out _; (with_reducible repeat first | apply Zn | apply Zd | apply Za); refine Zq ?_ NB211_213.out _; (with_reducible repeat first | apply Zn | apply Zd | apply Za); exact BK211.out⟩, ⟨Yr HB⟩⟩
     ·
      rw [if_neg c7] at H
      exact absurd H (by simp)
    ·
     rw [if_neg c6] at H
     exact absurd H (by simp)
   ·
    rw [if_neg c5] at H
    have c5b0 : decide (x12_1 < (l0.length : Int)) = false := decide_eq_false c5
    clear c5
    simp only [Option.some.injEq, Prod.mk.injEq] at H
    obtain ⟨rfl, rfl, rfl, rfl, rfl⟩ := H
    obtain ⟨⟨hcz20_0, hcz20_1, hcz20_2, hcz20_3⟩, hfz20_0, hfz20_1, hfz20_2, hfz20_3⟩ := Zk4 BK211
    go_wp2
    refine bodyPost_ret (results_ct rfl _ _ gb211 26 #[.string (⟨#[]⟩ : ByteArray), .int .i64 0, .bool false, .string (⟨#[]⟩ : ByteArray)] (0, 0) _ rfl (by (with_reducible repeat first | apply Zn | apply Zd | apply Za); refine Zp (cs := #[.string (⟨#[]⟩ : ByteArray), .int .i64 0, .bool false, .string x212003_1]) ?_ 3 _ rfl; (with_reducible repeat first | apply Zn | apply Zd | apply Za); refine Zp (cs := #[.string (⟨#[]⟩ : ByteArray), .int .i64 0, .bool x212002_1, .string x212003_1]) ?_ 2 _ rfl; (with_reducible repeat first | apply Zn | apply Zd | apply Za); refine Zp (cs := #[.string (⟨#[]⟩ : ByteArray), .int .i64 x212001_1, .bool x212002_1, .string x212003_1]) ?_ 1 _ rfl; (with_reducible repeat first | apply Zn | apply Zd | apply Za); refine Zp (cs := #[.string x212000_1, .int .i64 x212001_1, .bool x212002_1, .string x212003_1]) ?_ 0 _ rfl; (with_reducible repeat first | apply Zn | apply Zd | apply Za); exact BK211.out) Try.underlying26 rfl (by kernel_rfl)) rfl ?_
    exact ⟨by first | rfl | (simp [errW_none, errW_some] <;> rfl) | (simp [*, errW_none, errW_some] <;> rfl), Yr HB⟩

/-! ### palinoderef10_Find: function 13 -/
def palinoderef10_Find.l0 : Nat → List (S26) → ByteArray → Int → Int → Option (ByteArray × Int × Bool × ByteArray × Bool)
 | 0, _, _, _, _ => none
 | k + 1, x0, x1, x2, x8 => if x8 < (x0.length : Int) then (if 0 ≤ x8 then (if ((rd_T26 x0 x8).f0).toList = x1.toList then (if ((rd_T26 x0 x8).f1) ≤ x2 then (some ((rd_T26 x0 x8).f0, (rd_T26 x0 x8).f1, (rd_T26 x0 x8).f2, (rd_T26 x0 x8).f3, true)) else (palinoderef10_Find.l0 k x0 x1 x2 (wrap64 (x8 + 1)))) else (palinoderef10_Find.l0 k x0 x1 x2 (wrap64 (x8 + 1)))) else (none)) else (some ((⟨#[]⟩ : ByteArray), 0, false, (⟨#[]⟩ : ByteArray), false))
def palinoderef10_Find.f (k : Nat) (l0 : List (S26)) (a1 : ByteArray) (a2 : Int) : Option (ByteArray × Int × Bool × ByteArray × Bool) := palinoderef10_Find.l0 k l0 a1 a2 0
theorem palinoderef10_Find.mono_l : ∀ k, (∀ y0 y1 y2 y3, LeO (palinoderef10_Find.l0 k y0 y1 y2 y3) (palinoderef10_Find.l0 (k + 1) y0 y1 y2 y3))
 | 0 => fun _ _ _ _ r h => by simp [palinoderef10_Find.l0] at h
 | k + 1 => by
  have ih0 := palinoderef10_Find.mono_l k
  ·
   intro y0 y1 y2 y3
   unfold palinoderef10_Find.l0
   repeat' first
   | (with_reducible exact ih0 _ _ _ _)
   | (with_reducible exact LeO.refl _)
   | (with_reducible exact LeO.none _)
   | (with_reducible refine LeO.ite ?_ ?_)
   | (with_reducible refine LeO.bind ?_ (fun _ => ?_))
   | exact ih0 _ _ _ _
   | exact LeO.none _
   | refine LeO.ite ?_ ?_
   | refine LeO.bind ?_ (fun _ => ?_)
theorem palinoderef10_Find.mono : ∀ a0 a1 a2 k, LeO (palinoderef10_Find.f k a0 a1 a2) (palinoderef10_Find.f (k + 1) a0 a1 a2) := by
 intro a0 a1 a2 k
 have ih0 := palinoderef10_Find.mono_l k
 unfold palinoderef10_Find.f
 repeat' first
   | (with_reducible exact ih0 _ _ _ _)
   | (with_reducible exact LeO.refl _)
   | (with_reducible exact LeO.none _)
   | (with_reducible refine LeO.ite ?_ ?_)
   | (with_reducible refine LeO.bind ?_ (fun _ => ?_))
   | exact ih0 _ _ _ _
   | exact LeO.none _
   | refine LeO.ite ?_ ?_
   | refine LeO.bind ?_ (fun _ => ?_)
set_option maxHeartbeats 8000000 in
set_option maxRecDepth 100000 in
theorem palinoderef10_Find.calls (k : Nat) (A0 : Option Addr) (c0 : Nat) (l0 : List (S26)) (a1 : ByteArray) (a2 : Int) (r1 : ByteArray) (r2 : Int) (r3 : Bool) (r4 : ByteArray) (r5 : Bool) (w : World) (hr0 : Kd.C k26 w A0 l0.length l0) (hc0 : l0.length ≤ c0) (h : palinoderef10_Find.f k l0 a1 a2 = some (r1, r2, r3, r4, r5)) :
  Calls Try.prog 13 #[.slice A0 l0.length c0, .string a1, .int .i64 a2] w fun e w' => e = .returned (.tuple #[.agg #[.string r1, .int .i64 r2, .bool r3, .string r4], .bool r5]) ∧ Below w.heap.size w w' := by
 have hu26 := Try.underlying26
 have HR0 := Aside0.mk hr0
 have HC0 := Aside0.mk hc0
 clear hr0 hc0
 have HB := Aside0.mk (Below.refl w.heap.size w)
 have H : (palinoderef10_Find.l0 k l0 a1 a2 0) = some (r1, r2, r3, r4, r5) := h
 clear h
 have H' := Aside0.mk H
 clear H
 go_enter Try.func13, Try.ntmps13
 go_wp2_with (first | ((with_reducible refine gate_dst (N := 6) rfl ?_); refine box_event ?hg (N := 6) ?hd (cs := #[.string (⟨#[]⟩ : ByteArray), .int .i64 0, .bool false, .string (⟨#[]⟩ : ByteArray)]) (t := 26) ?hr ?_; (case hd => rfl); (case hg => rfl); (case hr => first | (go_simp; done) | (go_simp; rfl)); intro gb214 hg w4 hbox hb; have n0_ := Aside0.mk (Yv HB hb); have n1_ := Aside0.mk (hbox); have n2_ := Aside0.mk (Yg HB hg); have n3_ := Aside0.mk (Yg HB hg); clear HB; have HB := n0_; have BK214 := n1_; have GW214 := n2_; have GE214 := n3_; clear n0_ n1_ n2_ n3_; clear hb hbox hg))
 go_loopg [8] k (fun kq v8 w' => ∃ (x8_1 : Int) (x215000_1 : ByteArray) (x215001_1 : Int) (x215002_1 : Bool) (x215003_1 : ByteArray), v8 = .int .i64 x8_1 ∧ Aside0 (palinoderef10_Find.l0 kq l0 a1 a2 x8_1 = some (r1, r2, r3, r4, r5)) ∧ Aside0 (kq ≤ k) ∧ Aside0 (w'.heap[gb214]? = some (.cells #[.string x215000_1, .int .i64 x215001_1, .bool x215002_1, .string x215003_1] 26 (0, 0))) ∧ Aside0 (Below w.heap.size w w'))
 case atStart => exact ⟨(0), ((⟨#[]⟩ : ByteArray)), (0), (false), ((⟨#[]⟩ : ByteArray)), (by first | rfl | (simp; done) | (simp [*]; done)), H', ⟨Nat.le_refl _⟩, ⟨by (with_reducible repeat first | apply Zn | apply Zd | apply Za); exact BK214.out⟩, ⟨Yr HB⟩⟩
 case round =>
  clear H'
  try clear c1
  try clear p2
  obtain ⟨x8_1, x215000_1, x215001_1, x215002_1, x215003_1, rfl, HA, HK1, BK214, HB⟩ := hrel
  cases gk with
  | zero => exact absurd HA.out (by simp [palinoderef10_Find.l0])
  | succ k1 =>
   have H := HA.out
   clear HA
   simp only [palinoderef10_Find.l0] at H
   by_cases c5 : x8_1 < (l0.length : Int)
   ·
    rw [if_pos c5] at H
    have c5b0 : decide (x8_1 < (l0.length : Int)) = true := decide_eq_true c5
    clear c5
    by_cases c6 : 0 ≤ x8_1
    ·
     rw [if_pos c6] at H
     have c6b0 : decide (0 ≤ x8_1) = true := decide_eq_true c6
     clear c6
     by_cases c7 : ((rd_T26 l0 x8_1).f0).toList = a1.toList
     ·
      rw [if_pos c7] at H
      have c7b0 : (((rd_T26 l0 x8_1).f0).toList == a1.toList) = true := beq_iff_eq.mpr c7
      have c7b1 : (((rd_T26 l0 x8_1).f0).toList != a1.toList) = false := bne_eq_false_iff_eq.mpr c7
      clear c7
      by_cases c8 : ((rd_T26 l0 x8_1).f1) ≤ a2
      ·
       rw [if_pos c8] at H
       have c8b0 : decide (((rd_T26 l0 x8_1).f1) ≤ a2) = true := decide_eq_true c8
       clear c8
       simp only [Option.some.injEq, Prod.mk.injEq] at H
       obtain ⟨rfl, rfl, rfl, rfl, rfl⟩ := H
       have p215 : 0 ≤ (x8_1 : Int) := of_decide_eq_true (by first | (with_reducible assumption) | assumption)
       have q215 : x8_1 < (l0.length : Int) := of_decide_eq_true (by first | (with_reducible assumption) | assumption)
       obtain ⟨ad215, e215, hx215_0, hx215_1, hx215_2, hx215_3⟩ := at_T26 HR0.out x8_1 p215 q215
       cases e215
       replace hx215_0 := (HB.out.cell (World.block_lt_of_cell? w _ hx215_0)).trans hx215_0
       replace hx215_1 := (HB.out.cell (World.block_lt_of_cell? w _ hx215_1)).trans hx215_1
       replace hx215_2 := (HB.out.cell (World.block_lt_of_cell? w _ hx215_2)).trans hx215_2
       replace hx215_3 := (HB.out.cell (World.block_lt_of_cell? w _ hx215_3)).trans hx215_3
       replace p215 := eq_true p215
       replace q215 := eq_true q215
       have p216 : 0 ≤ (x8_1 : Int) := of_decide_eq_true (by first | (with_reducible assumption) | assumption)
       have q216 : x8_1 < (l0.length : Int) := of_decide_eq_true (by first | (with_reducible assumption) | assumption)
       obtain ⟨ad216, e216, hx216_0, hx216_1, hx216_2, hx216_3⟩ := at_T26 HR0.out x8_1 p216 q216
       obtain rfl : ad215 = ad216 := (by injection e216)
       replace hx216_0 := (HB.out.cell (World.block_lt_of_cell? w _ hx216_0)).trans hx216_0
       replace hx216_1 := (HB.out.cell (World.block_lt_of_cell? w _ hx216_1)).trans hx216_1
       replace hx216_2 := (HB.out.cell (World.block_lt_of_cell? w _ hx216_2)).trans hx216_2
       replace hx216_3 := (HB.out.cell (World.block_lt_of_cell? w _ hx216_3)).trans hx216_3
       replace p216 := eq_true p216
       replace q216 := eq_true q216
       have p217 : 0 ≤ (x8_1 : Int) := of_decide_eq_true (by first | (with_reducible assumption) | assumption)
       have q217 : x8_1 < (l0.length : Int) := of_decide_eq_true (by first | (with_reducible assumption) | assumption)
       obtain ⟨ad217, e217, hx217_0, hx217_1, hx217_2, hx217_3⟩ := at_T26 HR0.out x8_1 p217 q217
       obtain rfl : ad215 = ad217 := (by injection e217)
       replace hx217_0 := (HB.out.cell (World.block_lt_of_cell? w _ hx217_0)).trans hx217_0
       replace hx217_1 := (HB.out.cell (World.block_lt_of_cell? w _ hx217_1)).trans hx217_1
       replace hx217_2 := (HB.out.cell (World.block_lt_of_cell? w _ hx217_2)).trans hx217_2
       replace hx217_3 := (HB.out.cell (World.block_lt_of_cell? w _ hx217_3)).trans hx217_3
       replace p217 := eq_true p217
       replace q217 := eq_true q217
       obtain ⟨⟨hcz9_0, hcz9_1, hcz9_2, hcz9_3⟩, hfz9_0, hfz9_1, hfz9_2, hfz9_3⟩ := Zk4 BK214
       go_wp2
       refine bodyPost_ret (results_ct rfl _ _ gb214 26 #[.string ((rd_T26 l0 x8_1).f0), .int .i64 ((rd_T26 l0 x8_1).f1), .bool ((rd_T26 l0 x8_1).f2), .string ((rd_T26 l0 x8_1).f3)] (0, 0) _ rfl (by (with_reducible repeat first | apply Zn | apply Zd | apply Za); refine Zp (cs := #[.string ((rd_T26 l0 x8_1).f0), .int .i64 ((rd_T26 l0 x8_1).f1), .bool ((rd_T26 l0 x8_1).f2), .string x215003_1]) ?_ 3 _ rfl; (with_reducible repeat first | apply Zn | apply Zd | apply Za); refine Zp (cs := #[.string ((rd_T26 l0 x8_1).f0), .int .i64 ((rd_T26 l0 x8_1).f1), .bool x215002_1, .string x215003_1]) ?_ 2 _ rfl; (with_reducible repeat first | apply Zn | apply Zd | apply Za); refine Zp (cs := #[.string ((rd_T26 l0 x8_1).f0), .int .i64 x215001_1, .bool x215002_1, .string x215003_1]) ?_ 1 _ rfl; (with_reducible repeat first | apply Zn | apply Zd | apply Za); refine Zp (cs := #[.string x215000_1, .int .i64 x215001_1, .bool x215002_1, .string x215003_1]) ?_ 0 _ rfl; (with_reducible repeat first | apply Zn | apply Zd | apply Za); exact BK214.out) Try.underlying26 rfl (by kernel_rfl)) rfl ?_
       exact ⟨by first | rfl | (simp [errW_none, errW_some] <;> rfl) | (simp [*, errW_none, errW_some] <;> rfl), Yr HB⟩
      ·
       rw [if_neg c8] at H
       have c8b0 : decide (((rd_T26 l0 x8_1).f1) ≤ a2) = false := decide_eq_false c8
       clear c8
       have H' := Aside0.mk H
       clear H
       have p215 : 0 ≤ (x8_1 : Int) := of_decide_eq_true (by first | (with_reducible assumption) | assumption)
       have q215 : x8_1 < (l0.length : Int) := of_decide_eq_true (by first | (with_reducible assumption) | assumption)
       obtain ⟨ad215, e215, hx215_0, hx215_1, hx215_2, hx215_3⟩ := at_T26 HR0.out x8_1 p215 q215
       cases e215
       replace hx215_0 := (HB.out.cell (World.block_lt_of_cell? w _ hx215_0)).trans hx215_0
       replace hx215_1 := (HB.out.cell (World.block_lt_of_cell? w _ hx215_1)).trans hx215_1
       replace hx215_2 := (HB.out.cell (World.block_lt_of_cell? w _ hx215_2)).trans hx215_2
       replace hx215_3 := (HB.out.cell (World.block_lt_of_cell? w _ hx215_3)).trans hx215_3
       replace p215 := eq_true p215
       replace q215 := eq_true q215
       have p216 : 0 ≤ (x8_1 : Int) := of_decide_eq_true (by first | (with_reducible assumption) | assumption)
       have q216 : x8_1 < (l0.length : Int) := of_decide_eq_true (by first | (with_reducible assumption) | assumption)
       obtain ⟨ad216, e216, hx216_0, hx216_1, hx216_2, hx216_3⟩ := at_T26 HR0.out x8_1 p216 q216
       obtain rfl : ad215 = ad216 := (by injection e216)
       replace hx216_0 := (HB.out.cell (World.block_lt_of_cell? w _ hx216_0)).trans hx216_0
       replace hx216_1 := (HB.out.cell (World.block_lt_of_cell? w _ hx216_1)).trans hx216_1
       replace hx216_2 := (HB.out.cell (World.block_lt_of_cell? w _ hx216_2)).trans hx216_2
       replace hx216_3 := (HB.out.cell (World.block_lt_of_cell? w _ hx216_3)).trans hx216_3
       replace p216 := eq_true p216
       replace q216 := eq_true q216
       go_wp2
       go_roundg k1
       case measure => have := HK1.out; omega
       case rel => exact ⟨(wrap64 (x8_1 + 1)), (x215000_1), (x215001_1), (x215002_1), (x215003_1), (by first | rfl | (simp; done) | (simp [*]; done)), H', ⟨by have := HK1.out; omega⟩, ⟨by (with_reducible repeat first | apply Zn | apply Zd | apply Za); exact BK214.out⟩, ⟨Yr HB⟩⟩
     ·
      rw [if_neg c7] at H
      have c7b0 : (((rd_T26 l0 x8_1).f0).toList == a1.toList) = false := beq_eq_false_iff_ne.mpr c7
      have c7b1 : (((rd_T26 l0 x8_1).f0).toList != a1.toList) = true := bne_iff_ne.mpr c7
      have H' := Aside0.mk H
      clear H
      have p215 : 0 ≤ (x8_1 : Int) := of_decide_eq_true (by first | (with_reducible assumption) | assumption)
      have q215 : x8_1 < (l0.length : Int) := of_decide_eq_true (by first | (with_reducible assumption) | assumption)
      obtain ⟨ad215, e215, hx215_0, hx215_1, hx215_2, hx215_3⟩ := at_T26 HR0.out x8_1 p215 q215
      cases e215
      replace hx215_0 := (HB.out.cell (World.block_lt_of_cell? w _ hx215_0)).trans hx215_0
      replace hx215_1 := (HB.out.cell (World.block_lt_of_cell? w _ hx215_1)).trans hx215_1
      replace hx215_2 := (HB.out.cell (World.block_lt_of_cell? w _ hx215_2)).trans hx215_2
      replace hx215_3 := (HB.out.cell (World.block_lt_of_cell? w _ hx215_3)).trans hx215_3
      replace p215 := eq_true p215
      replace q215 := eq_true q215
      go_wp2
      go_roundg k1
      case measure => have := HK1.out; omega
      case rel => exact ⟨(wrap64 (x8_1 + 1)), (x215000_1), (x215001_1), (x215002_1), (x215003_1), (by first | rfl | (simp; done) | (simp [*]; done)), H', ⟨by have := HK1.out; omega⟩, ⟨by (with_reducible repeat first | apply Zn | apply Zd | apply Za); exact BK214.out⟩, ⟨Yr HB⟩⟩
    ·
     rw [if_neg c6] at H
     exact absurd H (by simp)
   ·
    rw [if_neg c5] at H
    have c5b0 : decide (x8_1 < (l0.length : Int)) = false := decide_eq_false c5
    clear c5
    simp only [Option.some.injEq, Prod.mk.injEq] at H
    obtain ⟨rfl, rfl, rfl, rfl, rfl⟩ := H
    obtain ⟨⟨hcz10_0, hcz10_1, hcz10_2, hcz10_3⟩, hfz10_0, hfz10_1, hfz10_2, hfz10_3⟩ := Zk4 BK214
    go_wp2
    refine bodyPost_ret (results_ct rfl _ _ gb214 26 #[.string (⟨#[]⟩ : ByteArray), .int .i64 0, .bool false, .string (⟨#[]⟩ : ByteArray)] (0, 0) _ rfl (by (with_reducible repeat first | apply Zn | apply Zd | apply Za); refine Zp (cs := #[.string (⟨#[]⟩ : ByteArray), .int .i64 0, .bool false, .string x215003_1]) ?_ 3 _ rfl; (with_reducible repeat first | apply Zn | apply Zd | apply Za); refine Zp (cs := #[.string (⟨#[]⟩ : ByteArray), .int .i64 0, .bool x215002_1, .string x215003_1]) ?_ 2 _ rfl; (with_reducible repeat first | apply Zn | apply Zd | apply Za); refine Zp (cs := #[.string (⟨#[]⟩ : ByteArray), .int .i64 x215001_1, .bool x215002_1, .string x215003_1]) ?_ 1 _ rfl; (with_reducible repeat first | apply Zn | apply Zd | apply Za); refine Zp (cs := #[.string x215000_1, .int .i64 x215001_1, .bool x215002_1, .string x215003_1]) ?_ 0 _ rfl; (with_reducible repeat first | apply Zn | apply Zd | apply Za); exact BK214.out) Try.underlying26 rfl (by kernel_rfl)) rfl ?_
    exact ⟨by first | rfl | (simp [errW_none, errW_some] <;> rfl) | (simp [*, errW_none, errW_some] <;> rfl), Yr HB⟩

/-! ### palinodelaw12_BlockFinds: function 5 -/
def palinodelaw12_BlockFinds.f (k : Nat) (l0 : List (S26)) (a1 : ByteArray) (a2 : Int) : Option (Bool) := (palinodelaw12_examples.f k).bind fun t218 => ((block_Find.f k l0 a1 a2).bind fun bt219 => ((palinoderef10_Find.f k l0 a1 a2).bind fun bt225 => (if t218 = true then (if (bt219.1.toList == bt225.1.toList && (bt219.2.1 == bt225.2.1 && (bt219.2.2.1 == bt225.2.2.1 && (bt219.2.2.2.1.toList == bt225.2.2.2.1.toList)))) = true then (some (bt219.2.2.2.2 == bt225.2.2.2.2)) else (some false)) else (some false))))
theorem palinodelaw12_BlockFinds.mono : ∀ a0 a1 a2 k, LeO (palinodelaw12_BlockFinds.f k a0 a1 a2) (palinodelaw12_BlockFinds.f (k + 1) a0 a1 a2) := by
 intro a0 a1 a2 k
 unfold palinodelaw12_BlockFinds.f
 repeat' first
   | (with_reducible exact block_Find.mono _ _ _ _)
   | (with_reducible exact palinodelaw12_examples.mono _)
   | (with_reducible exact palinoderef10_Find.mono _ _ _ _)
   | (with_reducible exact LeO.refl _)
   | (with_reducible exact LeO.none _)
   | (with_reducible refine LeO.ite ?_ ?_)
   | (with_reducible refine LeO.bind ?_ (fun _ => ?_))
   | exact block_Find.mono _ _ _ _
   | exact palinodelaw12_examples.mono _
   | exact palinoderef10_Find.mono _ _ _ _
   | exact LeO.none _
   | refine LeO.ite ?_ ?_
   | refine LeO.bind ?_ (fun _ => ?_)
set_option maxHeartbeats 8000000 in
set_option maxRecDepth 100000 in
theorem palinodelaw12_BlockFinds.calls (k : Nat) (A0 : Option Addr) (c0 : Nat) (l0 : List (S26)) (a1 : ByteArray) (a2 : Int) (r : Bool) (w : World) (hr0 : Kd.C k26 w A0 l0.length l0) (hc0 : l0.length ≤ c0) (h : palinodelaw12_BlockFinds.f k l0 a1 a2 = some r) (HEX_ : Aside0 (∀ k_ r_, palinodelaw12_examples.f k_ = some r_ → r_ = true)) (HRT_ : Aside0 (r = true) := by first | exact ⟨rfl⟩ | assumption) :
  Calls Try.prog 5 #[.slice A0 l0.length c0, .string a1, .int .i64 a2] w fun e w' => e = .returned (.bool r) ∧ Below w.heap.size w w' := by
 have hu26 := Try.underlying26
 have HR0 := Aside0.mk hr0
 have HC0 := Aside0.mk hc0
 clear hr0 hc0
 have HB := Aside0.mk (Below.refl w.heap.size w)
 have H : ((palinodelaw12_examples.f k).bind fun t218 => ((block_Find.f k l0 a1 a2).bind fun bt219 => ((palinoderef10_Find.f k l0 a1 a2).bind fun bt225 => (if t218 = true then (if (bt219.1.toList == bt225.1.toList && (bt219.2.1 == bt225.2.1 && (bt219.2.2.1 == bt225.2.2.1 && (bt219.2.2.2.1.toList == bt225.2.2.2.1.toList)))) = true then (some (bt219.2.2.2.2 == bt225.2.2.2.2)) else (some false)) else (some false))))) = some r := h
 clear h
 replace H := Option.bind_eq_some_iff.mp H
 obtain ⟨t218, A40, H⟩ := H
 replace H : ((block_Find.f k l0 a1 a2).bind fun bt219 => ((palinoderef10_Find.f k l0 a1 a2).bind fun bt225 => (if t218 = true then (if (bt219.1.toList == bt225.1.toList && (bt219.2.1 == bt225.2.1 && (bt219.2.2.1 == bt225.2.2.1 && (bt219.2.2.2.1.toList == bt225.2.2.2.1.toList)))) = true then (some (bt219.2.2.2.2 == bt225.2.2.2.2)) else (some false)) else (some false)))) = some r := H
 have A4 := Aside0.mk A40
 have HTA4_ : Aside0 (t218 = true) := ⟨HEX_.out _ _ A40⟩
 clear A40
 replace H := Option.bind_eq_some_iff.mp H
 obtain ⟨⟨t219, t220, t221, t222, t223⟩, A50, H⟩ := H
 replace H : ((palinoderef10_Find.f k l0 a1 a2).bind fun bt225 => (if t218 = true then (if (t219.toList == bt225.1.toList && (t220 == bt225.2.1 && (t221 == bt225.2.2.1 && (t222.toList == bt225.2.2.2.1.toList)))) = true then (some (t223 == bt225.2.2.2.2)) else (some false)) else (some false))) = some r := H
 have A5 := Aside0.mk A50
 clear A50
 replace H := Option.bind_eq_some_iff.mp H
 obtain ⟨⟨t225, t226, t227, t228, t229⟩, A60, H⟩ := H
 replace H : (if t218 = true then (if (t219.toList == t225.toList && (t220 == t226 && (t221 == t227 && (t222.toList == t228.toList)))) = true then (some (t223 == t229)) else (some false)) else (some false)) = some r := H
 have A6 := Aside0.mk A60
 clear A60
 by_cases c7 : t218 = true
 ·
  subst c7
  have H1 : (if (t219.toList == t225.toList && (t220 == t226 && (t221 == t227 && (t222.toList == t228.toList)))) = true then (some (t223 == t229)) else (some false)) = some r := by rw [if_pos rfl] at H; exact H
  clear H
  have H := H1
  clear H1
  by_cases c8 : (t219.toList == t225.toList && (t220 == t226 && (t221 == t227 && (t222.toList == t228.toList)))) = true
  ·
   rw [if_pos c8] at H
   have c8b0 : (t219.toList == t225.toList && (t220 == t226 && (t221 == t227 && (t222.toList == t228.toList)))) = true := c8
   (try (have c8b1 : decide (t219.toList = t225.toList && (t220 == t226 && (t221 == t227 && (t222.toList == t228.toList)))) = true := by simpa using c8))
   (try (have c8b2 : (t219.toList == t225.toList && (t220 == t226 && (t221 == t227 && (t222.toList == t228.toList)))) = true := by simpa using c8))
   clear c8
   obtain rfl := Option.some.inj H
   go_enter Try.func5, Try.ntmps5
   go_wp2_with (first | ((with_reducible refine gate_callee (f := 9) rfl ?_); refine goesL_ (some 12) rfl rfl Try.func9 (by kernel_rfl) rfl #[] rfl (by (try simp only [List.map_toArray, List.map_cons, List.map_nil]); first | done | rfl | (simp only [List.length_drop, List.length_take]; rfl)) ?_; (with_reducible refine (palinodelaw12_examples.calls k  true _ A4.out).mono ?_); rintro e w9 ⟨rfl, hb⟩; refine ⟨_, rfl, ?_⟩; have n0_ := Aside0.mk (Yv HB hb); clear HB; have HB := n0_; clear n0_; (try clear hb); (try clear hb2); (try clear hk); (try clear hi)) | ((with_reducible refine gate_callee (f := 12) rfl ?_); refine goesL_ (some 17) rfl rfl Try.func12 (by kernel_rfl) rfl #[.slice A0 l0.length c0, .string a1, .int .i64 a2] rfl (by (try simp only [List.map_toArray, List.map_cons, List.map_nil]); first | done | rfl | (simp only [List.length_drop, List.length_take]; rfl)) ?_; (with_reducible refine (block_Find.calls k _ _ l0 a1 a2 t219 t220 t221 t222 t223 _ ?side1 ?side2 A5.out).mono ?_); (case side1 => repeat (first | exact (Kd.C_below HR0.out HB.out) | (with_reducible refine Kd.C_alloc ?_ _) | (with_reducible refine Kd.C_drewN ?_ _) | (with_reducible refine Kd.C_drew ?_))); (case side2 => exact HC0.out); rintro e w10 ⟨rfl, hb⟩; refine ⟨_, rfl, ?_⟩; have n0_ := Aside0.mk (Yv HB hb); clear HB; have HB := n0_; clear n0_; (try clear hb); (try clear hb2); (try clear hk); (try clear hi)) | ((with_reducible refine gate_dst (N := 8) rfl ?_); refine box_event ?hg (N := 8) ?hd (cs := #[.string (⟨#[]⟩ : ByteArray), .int .i64 0, .bool false, .string (⟨#[]⟩ : ByteArray)]) (t := 26) ?hr ?_; (case hd => rfl); (case hg => rfl); (case hr => first | (go_simp; done) | (go_simp; rfl)); intro gb224 hg w11 hbox hb; have n0_ := Aside0.mk (Yv HB hb); have n1_ := Aside0.mk (hbox); have n2_ := Aside0.mk (Yg HB hg); have n3_ := Aside0.mk (Yg HB hg); clear HB; have HB := n0_; have BK224 := n1_; have GW224 := n2_; have GE224 := n3_; clear n0_ n1_ n2_ n3_; clear hb hbox hg; obtain ⟨⟨hcz12_0, hcz12_1, hcz12_2, hcz12_3⟩, hfz12_0, hfz12_1, hfz12_2, hfz12_3⟩ := Zk4 BK224) | ((with_reducible refine gate_callee (f := 13) rfl ?_); refine goesL_ (some 24) rfl rfl Try.func13 (by kernel_rfl) rfl #[.slice A0 l0.length c0, .string a1, .int .i64 a2] rfl (by (try simp only [List.map_toArray, List.map_cons, List.map_nil]); first | done | rfl | (simp only [List.length_drop, List.length_take]; rfl)) ?_; (with_reducible refine (palinoderef10_Find.calls k _ _ l0 a1 a2 t225 t226 t227 t228 t229 _ ?side1 ?side2 A6.out).mono ?_); (case side1 => exact Kd.C_below HR0.out (Yr HB)); (case side2 => exact HC0.out); rintro e w13 ⟨rfl, hb⟩; refine ⟨_, rfl, ?_⟩; have n0_ := Aside0.mk (Zb (g := gb224) (o := .cells #[.string t219, .int .i64 t220, .bool t221, .string t222] 26 (0, 0)) (by (with_reducible repeat first | apply Zn | apply Zd | apply Za); refine Zp (cs := #[.string t219, .int .i64 t220, .bool t221, .string (⟨#[]⟩ : ByteArray)]) ?_ 3 _ rfl; (with_reducible repeat first | apply Zn | apply Zd | apply Za); refine Zp (cs := #[.string t219, .int .i64 t220, .bool false, .string (⟨#[]⟩ : ByteArray)]) ?_ 2 _ rfl; (with_reducible repeat first | apply Zn | apply Zd | apply Za); refine Zp (cs := #[.string t219, .int .i64 0, .bool false, .string (⟨#[]⟩ : ByteArray)]) ?_ 1 _ rfl; (with_reducible repeat first | apply Zn | apply Zd | apply Za); refine Zp (cs := #[.string (⟨#[]⟩ : ByteArray), .int .i64 0, .bool false, .string (⟨#[]⟩ : ByteArray)]) ?_ 0 _ rfl; (with_reducible repeat first | apply Zn | apply Zd | apply Za); exact BK224.out) hb); have n1_ := Aside0.mk (Yv HB hb); clear BK224; clear HB; have BK224 := n0_; have HB := n1_; clear n0_ n1_; (try clear hb); (try clear hb2); (try clear hk); (try clear hi)) | ((with_reducible refine gate_dst (N := 10) rfl ?_); refine box_event ?hg (N := 10) ?hd (cs := #[.string (⟨#[]⟩ : ByteArray), .int .i64 0, .bool false, .string (⟨#[]⟩ : ByteArray)]) (t := 26) ?hr ?_; (case hd => rfl); (case hg => rfl); (case hr => first | (go_simp; done) | (go_simp; rfl)); intro gb230 hg w14 hbox hb; have n0_ := Aside0.mk (Zv BK224 hb); have n1_ := Aside0.mk (Yv HB hb); have n2_ := Aside0.mk (hbox); have n3_ := Aside0.mk (Yg HB hg); have n4_ := Aside0.mk (Yg HB hg); have n5_ := Aside0.mk (Zl BK224 hg); have n6_ := Aside0.mk (Zg BK224 hg); clear BK224; clear HB; have BK224 := n0_; have HB := n1_; have BK230 := n2_; have GW230 := n3_; have GE230 := n4_; have NB224_230 := n5_; have NB230_224 := n6_; clear n0_ n1_ n2_ n3_ n4_ n5_ n6_; clear hb hbox hg; obtain ⟨hnb15, hnc15⟩ := Zo NB230_224; obtain ⟨⟨hcz16_0, hcz16_1, hcz16_2, hcz16_3⟩, hfz16_0, hfz16_1, hfz16_2, hfz16_3⟩ := Zk4 BK230; obtain ⟨⟨hcz17_0, hcz17_1, hcz17_2, hcz17_3⟩, hfz17_0, hfz17_1, hfz17_2, hfz17_3⟩ := Zk4 BK224))
   go_ret
   exact ⟨by first | rfl | (simp [errW_none, errW_some] <;> rfl) | (simp [*, errW_none, errW_some] <;> rfl), Yr HB⟩
  ·
   rw [if_neg c8] at H
   have c8b0 : (t219.toList == t225.toList && (t220 == t226 && (t221 == t227 && (t222.toList == t228.toList)))) = false := by simpa using c8
   (try (have c8b1 : decide (t219.toList = t225.toList && (t220 == t226 && (t221 == t227 && (t222.toList == t228.toList)))) = false := by simpa using c8))
   (try (have c8b2 : (t219.toList == t225.toList && (t220 == t226 && (t221 == t227 && (t222.toList == t228.toList)))) = false := by simpa using c8))
   (try (have c8b3 : ¬ (t219.toList = t225.toList && (t220 == t226 && (t221 == t227 && (t222.toList == t228.toList)))) := by simpa using c8))
   clear c8
   exact absurd ((Option.some.inj H).trans HRT_.out) (by decide)
 ·
  replace c7 := Bool.eq_false_iff.mpr c7
  subst c7
  have H1 : (some false) = some r := by rw [if_neg (show ¬ (false = true) by decide)] at H; exact H
  clear H
  have H := H1
  clear H1
  exact absurd ((Option.some.inj H).trans HRT_.out) (by decide)

/-- THE ONE PURE STATEMENT of palinodelaw12_BlockFinds. -/
def palinodelaw12_BlockFinds.Pure : Prop := (∀ k_ r_, palinodelaw12_examples.f k_ = some r_ → r_ = true) ∧ ∀ (l0 : List (S26)) (a1 : ByteArray) (a2 : Int), (l0.length ≤ maxLen ∧ l0.length * 48 ≤ 140737488351232 ∧ ∀ x_ ∈ l0, V26 x_) → a1.size ≤ 140737488351232 → (Lit.int .i64 a2).wf = true → ∃ k, palinodelaw12_BlockFinds.f k l0 a1 a2 = some true
theorem palinodelaw12_BlockFinds.walk (P : palinodelaw12_BlockFinds.Pure) (A0 : Option Addr) (c0 : Nat) (l0 : List (S26)) (a1 : ByteArray) (a2 : Int) (w : World) (hr0 : Kd.C k26 w A0 l0.length l0) (hc0 : l0.length ≤ c0) (v0 : (l0.length ≤ maxLen ∧ l0.length * 48 ≤ 140737488351232 ∧ ∀ x_ ∈ l0, V26 x_)) (v1 : a1.size ≤ 140737488351232) (v2 : (Lit.int .i64 a2).wf = true) :
  Calls Try.prog 5 #[.slice A0 l0.length c0, .string a1, .int .i64 a2] w fun e w' => e = .returned (.bool true) ∧ Below w.heap.size w w' := by
 obtain ⟨k, h⟩ := P.2 l0 a1 a2 v0 v1 v2
 refine (palinodelaw12_BlockFinds.calls k A0 c0 l0 a1 a2 true w hr0 hc0 h ⟨P.1⟩).mono ?_
 rintro e w' ⟨rfl, hd⟩
 exact ⟨rfl, hd⟩

end Go.Proofs.Ytgfgdpmpbpofbaa.Print
