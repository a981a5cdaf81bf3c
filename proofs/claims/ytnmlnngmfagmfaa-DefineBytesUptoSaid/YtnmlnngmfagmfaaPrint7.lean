-- Printed out of the translation by a program of this session's own. Not trusted: Lean checks it.
import Derived.Test.YtnmlnngmfagmfaaPrint0
import Derived.Test.YtnmlnngmfagmfaaPrint2
import Derived.Test.YtnmlnngmfagmfaaPrint5
import Derived.Test.YtnmlnngmfagmfaaHDefineDecode
import Derived.Test.YtnmlnngmfagmfaaHDefineName
namespace Go.Proofs.Ytnmlnngmfagmfaa.Print
open Go.RowKit Go.Proofs.YtnmlnngmfagmfaaW.PrintWords Go.Proofs.YtnmlnngmfagmfaaW.PrintLast Go.Proofs.YtnmlnngmfagmfaaW.PrintMore Go.Proofs.YtnmlnngmfagmfaaX
attribute [local go_sem] max2_int min2_int max_two min_two max_three min_three max_four min_four   -- for this text's walks alone
set_option linter.unusedVariables false
set_option linter.unusedSimpArgs false

/-! ### palinodelaw18_is: function 20 -/
def palinodelaw18_is.f (a0 : Option Int) (a1 : Int) : Option (Bool) := if a1 = 0 then (if a0.isNone = true then (some true) else (some false)) else (if a0.isNone = true then (some false) else (some ((a0.getD 0) == a1)))
set_option maxHeartbeats 8000000 in
set_option maxRecDepth 100000 in
theorem palinodelaw18_is.calls (a0 : Option Int) (a1 : Int) (r : Bool) (w : World) (h : palinodelaw18_is.f a0 a1 = some r) :
  Calls Try.prog 20 #[errW a0, .int .i64 a1] w fun e w' => e = .returned (.bool r) ∧ Drawn0 w w' := by
 have hu31 := Try.underlying31
 have hu48 := Try.underlying48
 have hta0 : ∀ (W : World), (Instr.typeAssert .nilIface 31 48 true).run Try.prog W = .ok (.tuple #[.int .i64 0, .bool false]) W := fun W => by kernel_rfl
 have hta : ∀ (v : Value) (W : World), (Instr.typeAssert (.iface 48 v) 31 48 true).run Try.prog W = .ok (.tuple #[v, .bool true]) W := fun v W => by rfl
 have H : (if a1 = 0 then (if a0.isNone = true then (some true) else (some false)) else (if a0.isNone = true then (some false) else (some ((a0.getD 0) == a1)))) = some r := h
 clear h
 by_cases c3 : a1 = 0
 ·
  rw [if_pos c3] at H
  have c3b0 : (a1 == 0) = true := beq_iff_eq.mpr c3
  have c3b1 : (a1 != 0) = false := bne_eq_false_iff_eq.mpr c3
  clear c3
  rcases a0 with _ | q222
  ·
   have H1 : (some true) = some r := by rw [if_pos (show (none : Option Int).isNone = true by rfl)] at H; exact H
   clear H
   have H := H1
   clear H1
   simp only [errW_none, errW_some]
   obtain rfl := Option.some.inj H
   go_enter Try.func20, Try.ntmps20
   go_wp2
   go_ret
   exact ⟨by first | rfl | (simp; done) | (simp [*]; done), by repeat (first | exact Drawn0.refl _ | apply Drawn0.step)⟩
  ·
   have H1 : (some false) = some r := by rw [if_neg (show ¬ (some q222).isNone = true by simp)] at H; exact H
   clear H
   have H := H1
   clear H1
   simp only [errW_none, errW_some]
   obtain rfl := Option.some.inj H
   go_enter Try.func20, Try.ntmps20
   go_wp2
   go_ret
   exact ⟨by first | rfl | (simp; done) | (simp [*]; done), by repeat (first | exact Drawn0.refl _ | apply Drawn0.step)⟩
 ·
  rw [if_neg c3] at H
  have c3b0 : (a1 == 0) = false := beq_eq_false_iff_ne.mpr c3
  have c3b1 : (a1 != 0) = true := bne_iff_ne.mpr c3
  rcases a0 with _ | q223
  ·
   have H1 : (some false) = some r := by rw [if_pos (show (none : Option Int).isNone = true by rfl)] at H; exact H
   clear H
   have H := H1
   clear H1
   simp only [errW_none, errW_some]
   obtain rfl := Option.some.inj H
   go_enter Try.func20, Try.ntmps20
   go_wp2
   go_ret
   exact ⟨by first | rfl | (simp; done) | (simp [*]; done), by repeat (first | exact Drawn0.refl _ | apply Drawn0.step)⟩
  ·
   have H1 : (some (q223 == a1)) = some r := by rw [if_neg (show ¬ (some q223).isNone = true by simp)] at H; exact H
   clear H
   have H := H1
   clear H1
   simp only [errW_none, errW_some]
   obtain rfl := Option.some.inj H
   go_enter Try.func20, Try.ntmps20
   go_wp2
   go_ret
   exact ⟨by first | rfl | (simp; done) | (simp [*]; done), by repeat (first | exact Drawn0.refl _ | apply Drawn0.step)⟩

/-! ### palinodelaw18_examples: function 8 -/
def palinodelaw18_examples.f (k : Nat)  : Option (Bool) := (define_Encode.f k (⟨#[112, 97, 121]⟩ : ByteArray) (([(⟨2, 30⟩ : S43)] : List (S43)))).bind fun bt227 => ((define_Tries.f k (⟨#[112, 97, 121]⟩ : ByteArray) (([(⟨2, 30⟩ : S43), (⟨0, 5⟩ : S43)] : List (S43)))).bind fun t232 => ((define_Decode.f (⟨#[]⟩ : ByteArray)).bind fun bt233 => (if bt227.1.toList = ([1, 3, 112, 97, 121, 1, 1, 1, 2, 1, 30] : List UInt8) then (if bt227.2.isNone = true then ((define_Name.f (⟨#[97, 95, 98]⟩ : ByteArray)).bind fun t240 => (if t240 = true then (some false) else (if t232 = 8 then ((palinodelaw18_is.f bt233.2.2 3).bind fun t241 => (some t241)) else (some false)))) else (some false)) else (some false))))
theorem palinodelaw18_examples.mono : ∀ k, LeO (palinodelaw18_examples.f k ) (palinodelaw18_examples.f (k + 1) ) := by
 intro  k
 unfold palinodelaw18_examples.f
 repeat' first
   | (with_reducible exact define_Encode.mono _ _ _)
   | (with_reducible exact define_Tries.mono _ _ _)
   | (with_reducible exact LeO.refl _)
   | (with_reducible exact LeO.none _)
   | (with_reducible refine LeO.ite ?_ ?_)
   | (with_reducible refine LeO.bind ?_ (fun _ => ?_))
   | exact define_Encode.mono _ _ _
   | exact define_Tries.mono _ _ _
   | exact LeO.none _
   | refine LeO.ite ?_ ?_
   | refine LeO.bind ?_ (fun _ => ?_)
set_option maxHeartbeats 8000000 in
set_option maxRecDepth 100000 in
theorem palinodelaw18_examples.calls (k : Nat)  (r : Bool) (w : World) (h : palinodelaw18_examples.f k  = some r) (HRT_ : Aside0 (r = true) := by first | exact ⟨rfl⟩ | assumption) :
  Calls Try.prog 8 #[] w fun e w' => e = .returned (.bool r) ∧ Below w.heap.size w w' := by
 have hu43 := Try.underlying43
 have hu24 := Try.underlying24
 have hu31 := Try.underlying31
 have hu48 := Try.underlying48
 have HB := Aside0.mk (Below.refl w.heap.size w)
 have H : ((define_Encode.f k (⟨#[112, 97, 121]⟩ : ByteArray) (([(⟨2, 30⟩ : S43)] : List (S43)))).bind fun bt227 => ((define_Tries.f k (⟨#[112, 97, 121]⟩ : ByteArray) (([(⟨2, 30⟩ : S43), (⟨0, 5⟩ : S43)] : List (S43)))).bind fun t232 => ((define_Decode.f (⟨#[]⟩ : ByteArray)).bind fun bt233 => (if bt227.1.toList = ([1, 3, 112, 97, 121, 1, 1, 1, 2, 1, 30] : List UInt8) then (if bt227.2.isNone = true then ((define_Name.f (⟨#[97, 95, 98]⟩ : ByteArray)).bind fun t240 => (if t240 = true then (some false) else (if t232 = 8 then ((palinodelaw18_is.f bt233.2.2 3).bind fun t241 => (some t241)) else (some false)))) else (some false)) else (some false))))) = some r := h
 clear h
 obtain ⟨y224, hy224⟩ : ∃ y_ : List (S43), y_ = (([(⟨2, 30⟩ : S43)] : List (S43))) := ⟨_, rfl⟩
 replace H : ((define_Encode.f k (⟨#[112, 97, 121]⟩ : ByteArray) y224).bind fun bt227 => ((define_Tries.f k (⟨#[112, 97, 121]⟩ : ByteArray) (([(⟨2, 30⟩ : S43), (⟨0, 5⟩ : S43)] : List (S43)))).bind fun t232 => ((define_Decode.f (⟨#[]⟩ : ByteArray)).bind fun bt233 => (if bt227.1.toList = ([1, 3, 112, 97, 121, 1, 1, 1, 2, 1, 30] : List UInt8) then (if bt227.2.isNone = true then ((define_Name.f (⟨#[97, 95, 98]⟩ : ByteArray)).bind fun t240 => (if t240 = true then (some false) else (if t232 = 8 then ((palinodelaw18_is.f bt233.2.2 3).bind fun t241 => (some t241)) else (some false)))) else (some false)) else (some false))))) = some r := by first | (rw [hy224]; with_reducible exact H) | (have H2_ := (Option.bind_some _ _).symm.trans H; rw [hy224]; with_reducible exact H2_) | (have H2_ := (Option.bind_some _ _).symm.trans H; with_reducible exact H2_) | with_reducible exact H | (rw [hy224]; exact H) | exact H
 have Ny224 := Aside0.mk hy224
 clear hy224
 replace H := Option.bind_eq_some_iff.mp H
 obtain ⟨⟨t227, t228⟩, A10, H⟩ := H
 replace H : ((define_Tries.f k (⟨#[112, 97, 121]⟩ : ByteArray) (([(⟨2, 30⟩ : S43), (⟨0, 5⟩ : S43)] : List (S43)))).bind fun t232 => ((define_Decode.f (⟨#[]⟩ : ByteArray)).bind fun bt233 => (if t227.toList = ([1, 3, 112, 97, 121, 1, 1, 1, 2, 1, 30] : List UInt8) then (if t228.isNone = true then ((define_Name.f (⟨#[97, 95, 98]⟩ : ByteArray)).bind fun t240 => (if t240 = true then (some false) else (if t232 = 8 then ((palinodelaw18_is.f bt233.2.2 3).bind fun t241 => (some t241)) else (some false)))) else (some false)) else (some false)))) = some r := H
 have A1 := Aside0.mk A10
 clear A10
 obtain ⟨y229, hy229⟩ : ∃ y_ : List (S43), y_ = (([(⟨2, 30⟩ : S43), (⟨0, 5⟩ : S43)] : List (S43))) := ⟨_, rfl⟩
 replace H : ((define_Tries.f k (⟨#[112, 97, 121]⟩ : ByteArray) y229).bind fun t232 => ((define_Decode.f (⟨#[]⟩ : ByteArray)).bind fun bt233 => (if t227.toList = ([1, 3, 112, 97, 121, 1, 1, 1, 2, 1, 30] : List UInt8) then (if t228.isNone = true then ((define_Name.f (⟨#[97, 95, 98]⟩ : ByteArray)).bind fun t240 => (if t240 = true then (some false) else (if t232 = 8 then ((palinodelaw18_is.f bt233.2.2 3).bind fun t241 => (some t241)) else (some false)))) else (some false)) else (some false)))) = some r := by first | (rw [hy229]; with_reducible exact H) | (have H2_ := (Option.bind_some _ _).symm.trans H; rw [hy229]; with_reducible exact H2_) | (have H2_ := (Option.bind_some _ _).symm.trans H; with_reducible exact H2_) | with_reducible exact H | (rw [hy229]; exact H) | exact H
 have Ny229 := Aside0.mk hy229
 clear hy229
 replace H := Option.bind_eq_some_iff.mp H
 obtain ⟨t232, A20, H⟩ := H
 replace H : ((define_Decode.f (⟨#[]⟩ : ByteArray)).bind fun bt233 => (if t227.toList = ([1, 3, 112, 97, 121, 1, 1, 1, 2, 1, 30] : List UInt8) then (if t228.isNone = true then ((define_Name.f (⟨#[97, 95, 98]⟩ : ByteArray)).bind fun t240 => (if t240 = true then (some false) else (if t232 = 8 then ((palinodelaw18_is.f bt233.2.2 3).bind fun t241 => (some t241)) else (some false)))) else (some false)) else (some false))) = some r := H
 have A2 := Aside0.mk A20
 clear A20
 replace H := Option.bind_eq_some_iff.mp H
 obtain ⟨⟨t233, t234, t237⟩, A30, H⟩ := H
 replace H : (if t227.toList = ([1, 3, 112, 97, 121, 1, 1, 1, 2, 1, 30] : List UInt8) then (if t228.isNone = true then ((define_Name.f (⟨#[97, 95, 98]⟩ : ByteArray)).bind fun t240 => (if t240 = true then (some false) else (if t232 = 8 then ((palinodelaw18_is.f t237 3).bind fun t241 => (some t241)) else (some false)))) else (some false)) else (some false)) = some r := H
 have A3 := Aside0.mk A30
 clear A30
 by_cases c4 : t227.toList = ([1, 3, 112, 97, 121, 1, 1, 1, 2, 1, 30] : List UInt8)
 ·
  rw [if_pos c4] at H
  have c4b0 : (t227.toList == ([1, 3, 112, 97, 121, 1, 1, 1, 2, 1, 30] : List UInt8)) = true := beq_iff_eq.mpr c4
  have c4b1 : (t227.toList != ([1, 3, 112, 97, 121, 1, 1, 1, 2, 1, 30] : List UInt8)) = false := bne_eq_false_iff_eq.mpr c4
  clear c4
  rcases t228 with _ | q239
  ·
   have H1 : ((define_Name.f (⟨#[97, 95, 98]⟩ : ByteArray)).bind fun t240 => (if t240 = true then (some false) else (if t232 = 8 then ((palinodelaw18_is.f t237 3).bind fun t241 => (some t241)) else (some false)))) = some r := by rw [if_pos (show (none : Option Int).isNone = true by rfl)] at H; exact H
   clear H
   have H := H1
   clear H1
   try simp only [errW_none, errW_some]
   replace H := Option.bind_eq_some_iff.mp H
   obtain ⟨t240, A50, H⟩ := H
   replace H : (if t240 = true then (some false) else (if t232 = 8 then ((palinodelaw18_is.f t237 3).bind fun t241 => (some t241)) else (some false))) = some r := H
   have A5 := Aside0.mk A50
   clear A50
   by_cases c6 : t240 = true
   ·
    subst c6
    have H1 : (some false) = some r := by rw [if_pos rfl] at H; exact H
    clear H
    have H := H1
    clear H1
    exact absurd ((Option.some.inj H).trans HRT_.out) (by decide)
   ·
    replace c6 := Bool.eq_false_iff.mpr c6
    subst c6
    have H1 : (if t232 = 8 then ((palinodelaw18_is.f t237 3).bind fun t241 => (some t241)) else (some false)) = some r := by rw [if_neg (show ¬ (false = true) by decide)] at H; exact H
    clear H
    have H := H1
    clear H1
    by_cases c7 : t232 = 8
    ·
     rw [if_pos c7] at H
     have c7b0 : (t232 == 8) = true := beq_iff_eq.mpr c7
     have c7b1 : (t232 != 8) = false := bne_eq_false_iff_eq.mpr c7
     clear c7
     replace H := Option.bind_eq_some_iff.mp H
     obtain ⟨t241, A80, H⟩ := H
     replace H : (some t241) = some r := H
     have A8 := Aside0.mk A80
     clear A80
     obtain rfl := Option.some.inj H
     go_enter Try.func8, Try.ntmps8
     go_wp2_with (first | ((with_reducible refine gate_dst (N := 8) rfl ?_); refine Kd.R_lit k43 _ 43 ?hg (N := 8) ?hd (xs := ([(⟨2, 30⟩ : S43)] : List (S43))) (inner := [.int .i64 2, .int .i64 30]) (ok := fun _ => True) (okp := fun _ => True) ?hr ?hp (fun _ hk => hk) trivial (Below.refl _ _) (Nat.le_refl _) (by simp) ?_; (case hd => rfl); (case hg => rfl); (case hr => first | (go_simp; done) | (go_simp; rfl)); (case hp => exact (Reps.c2 (show Kd.M k43 _ _ _ (⟨2, 30⟩ : S43) [.int .i64 2, .int .i64 30] from (k43_mkM _ _ _ (⟨2, 30⟩ : S43) )) (Reps.none _ _))); intro v225 w9 ho10 hb hg_ hnew_; clear hg_ hnew_; (first | rw [← Ny224.out] at ho10 | (simp only [Int.reduceToNat] at ho10; rw [← Ny224.out] at ho10)); have n0_ := Aside0.mk (Kd.R_lower ho10 (below_size (Yr HB))); have n1_ := Aside0.mk (Yv HB hb); clear HB; have HO226 := n0_; have HB := n1_; clear n0_ n1_; clear hb ho10; obtain ⟨Ao11, co11, eo11⟩ := Kd.R_slice HO226.out; subst eo11) | ((with_reducible refine gate_callee (f := 15) rfl ?_); refine goesL_ (some 10) rfl rfl Try.func15 (by kernel_rfl) rfl #[.agg #[.string (⟨#[112, 97, 121]⟩ : ByteArray), .slice Ao11 y224.length co11]] rfl (by (try simp only [List.map_toArray, List.map_cons, List.map_nil]); first | done | rfl | (simp only [List.length_drop, List.length_take]; rfl)) ?_; (with_reducible refine (define_Encode.calls k (⟨#[112, 97, 121]⟩ : ByteArray) _ _ y224 t227 none _ ?side1 ?side2 A1.out).mono ?_); (case side1 => repeat (first | exact (Kd.R_reads' HO226.out).2.2 | (with_reducible refine Kd.C_alloc ?_ _) | (with_reducible refine Kd.C_drewN ?_ _) | (with_reducible refine Kd.C_drew ?_))); (case side2 => exact (Kd.R_reads' HO226.out).2.1); rintro e w12 ⟨rfl, hb⟩; refine ⟨_, rfl, ?_⟩; have n0_ := Aside0.mk (Kd.R_below (by (with_reducible repeat (first | apply Kd.R_alloc | apply Kd.R_drewN | apply Kd.R_drew)); exact HO226.out) hb); have n1_ := Aside0.mk (Yv HB hb); clear HO226; clear HB; have HO226 := n0_; have HB := n1_; clear n0_ n1_; (try clear hb); (try clear hb2); (try clear hk); (try clear hi); (try simp only [errW_none, errW_some])) | ((with_reducible refine gate_dst (N := 15) rfl ?_); refine Kd.R_lit k43 _ 43 ?hg (N := 15) ?hd (xs := ([(⟨2, 30⟩ : S43), (⟨0, 5⟩ : S43)] : List (S43))) (inner := [.int .i64 2, .int .i64 30, .int .i64 0, .int .i64 5]) (ok := fun _ => True) (okp := fun _ => True) ?hr ?hp (fun _ hk => hk) trivial (Below.refl _ _) (Nat.le_refl _) (by simp) ?_; (case hd => rfl); (case hg => rfl); (case hr => first | (go_simp; done) | (go_simp; rfl)); (case hp => exact (Reps.c2 (show Kd.M k43 _ _ _ (⟨2, 30⟩ : S43) [.int .i64 2, .int .i64 30] from (k43_mkM _ _ _ (⟨2, 30⟩ : S43) )) (Reps.c2 (show Kd.M k43 _ _ _ (⟨0, 5⟩ : S43) [.int .i64 0, .int .i64 5] from (k43_mkM _ _ _ (⟨0, 5⟩ : S43) )) (Reps.none _ _)))); intro v230 w13 ho14 hb hg_ hnew_; clear hg_ hnew_; (first | rw [← Ny229.out] at ho14 | (simp only [Int.reduceToNat] at ho14; rw [← Ny229.out] at ho14)); have n0_ := Aside0.mk (Kd.R_elder' (by (with_reducible repeat (first | apply Kd.R_alloc | apply Kd.R_drewN | apply Kd.R_drew)); exact HO226.out) (Kd.R_base ho14) hb); have n1_ := Aside0.mk (Kd.R_lower (Kd.R_new' ho14 (Kd.R_lt (by (with_reducible repeat (first | apply Kd.R_alloc | apply Kd.R_drewN | apply Kd.R_drew)); exact HO226.out))) (below_size (Yr HB))); have n2_ := Aside0.mk (Yv HB hb); clear HO226; clear HB; have HO226 := n0_; have HO231 := n1_; have HB := n2_; clear n0_ n1_ n2_; clear hb ho14; obtain ⟨Ao15, co15, eo15⟩ := Kd.R_slice HO231.out; subst eo15) | ((with_reducible refine gate_callee (f := 13) rfl ?_); refine goesL_ (some 17) rfl rfl Try.func13 (by kernel_rfl) rfl #[.agg #[.string (⟨#[112, 97, 121]⟩ : ByteArray), .slice Ao15 y229.length co15]] rfl (by (try simp only [List.map_toArray, List.map_cons, List.map_nil]); first | done | rfl | (simp only [List.length_drop, List.length_take]; rfl)) ?_; (with_reducible refine (define_Tries.calls k (⟨#[112, 97, 121]⟩ : ByteArray) _ _ y229 t232 _ ?side1 ?side2 A2.out).mono ?_); (case side1 => repeat (first | exact (Kd.R_reads' HO231.out).2.2 | (with_reducible refine Kd.C_alloc ?_ _) | (with_reducible refine Kd.C_drewN ?_ _) | (with_reducible refine Kd.C_drew ?_))); (case side2 => exact (Kd.R_reads' HO231.out).2.1); rintro e w16 ⟨rfl, hb⟩; refine ⟨_, rfl, ?_⟩; have n0_ := Aside0.mk (Kd.R_below (by (with_reducible repeat (first | apply Kd.R_alloc | apply Kd.R_drewN | apply Kd.R_drew)); exact HO226.out) hb); have n1_ := Aside0.mk (Kd.R_below (by (with_reducible repeat (first | apply Kd.R_alloc | apply Kd.R_drewN | apply Kd.R_drew)); exact HO231.out) hb); have n2_ := Aside0.mk (Yv HB hb); clear HO226; clear HO231; clear HB; have HO226 := n0_; have HO231 := n1_; have HB := n2_; clear n0_ n1_ n2_; (try clear hb); (try clear hb2); (try clear hk); (try clear hi)) | ((with_reducible refine gate_callee (f := 18) rfl ?_); refine goesL_ (some 19) rfl rfl Try.func18 (by kernel_rfl) rfl #[.string (⟨#[]⟩ : ByteArray)] rfl (by (try simp only [List.map_toArray, List.map_cons, List.map_nil]); first | done | rfl | (simp only [List.length_drop, List.length_take]; rfl)) ?_; (with_reducible refine (define_Decode.calls (⟨#[]⟩ : ByteArray) t233 t234 t237 _ A3.out).mono ?_); rintro e w17 ⟨v235, rfl, ho0, hb⟩; refine ⟨_, rfl, ?_⟩; have n0_ := Aside0.mk (Kd.R_elder' (by (with_reducible repeat (first | apply Kd.R_alloc | apply Kd.R_drewN | apply Kd.R_drew)); exact HO226.out) (Kd.R_base ho0) hb); have n1_ := Aside0.mk (Kd.R_elder' (by (with_reducible repeat (first | apply Kd.R_alloc | apply Kd.R_drewN | apply Kd.R_drew)); exact HO231.out) (Kd.R_base ho0) hb); have n2_ := Aside0.mk (Kd.R_lower (Kd.R_new' (Kd.R_new' ho0 (Kd.R_lt (by (with_reducible repeat (first | apply Kd.R_alloc | apply Kd.R_drewN | apply Kd.R_drew)); exact HO226.out))) (Kd.R_lt (by (with_reducible repeat (first | apply Kd.R_alloc | apply Kd.R_drewN | apply Kd.R_drew)); exact HO231.out))) (below_size (Yr HB))); have n3_ := Aside0.mk (Yv HB hb); clear HO226; clear HO231; clear HB; have HO226 := n0_; have HO231 := n1_; have HO236 := n2_; have HB := n3_; clear n0_ n1_ n2_ n3_; (try clear hb); (try clear hb2); (try clear hk); (try clear hi); (try clear ho0); (try simp only [errW_none, errW_some])) | ((with_reducible refine gate_dst (N := 4) rfl ?_); refine box_event ?hg (N := 4) ?hd (cs := #[.string (⟨#[]⟩ : ByteArray), .slice none 0 0]) (t := 24) ?hr ?_; (case hd => rfl); (case hg => rfl); (case hr => first | (go_simp; done) | (go_simp; rfl)); intro gb238 hg w18 hbox hb; have n0_ := Aside0.mk (Kd.R_below (by (with_reducible repeat (first | apply Kd.R_alloc | apply Kd.R_drewN | apply Kd.R_drew)); exact HO226.out) hb); have n1_ := Aside0.mk (Kd.R_below (by (with_reducible repeat (first | apply Kd.R_alloc | apply Kd.R_drewN | apply Kd.R_drew)); exact HO231.out) hb); have n2_ := Aside0.mk (Kd.R_below (by (with_reducible repeat (first | apply Kd.R_alloc | apply Kd.R_drewN | apply Kd.R_drew)); exact HO236.out) hb); have n3_ := Aside0.mk (Yv HB hb); have n4_ := Aside0.mk (hbox); have n5_ := Aside0.mk (Yg HB hg); have n6_ := Aside0.mk (Yg HB hg); clear HO226; clear HO231; clear HO236; clear HB; have HO226 := n0_; have HO231 := n1_; have HO236 := n2_; have HB := n3_; have BK238 := n4_; have GW238 := n5_; have GE238 := n6_; clear n0_ n1_ n2_ n3_ n4_ n5_ n6_; clear hb hbox hg; obtain ⟨⟨hcz19_0, hcz19_1⟩, hfz19_0, hfz19_1⟩ := Zk2 BK238; obtain ⟨Ao20, co20, eo20⟩ := Kd.R_slice HO236.out; subst eo20) | (go_at_call 9; (with_reducible refine (define_Name.calls (⟨#[97, 95, 98]⟩ : ByteArray) false _ A5.out).mono ?_); rintro e w21 ⟨rfl, hb⟩; have n0_ := Aside0.mk (Kd.R_below (by (with_reducible repeat (first | apply Kd.R_alloc | apply Kd.R_drewN | apply Kd.R_drew)); exact (Kd.R_mono (Kd.R_far (p := ⟨gb238, 1, none⟩) (Kd.R_far (p := ⟨gb238, 0, none⟩) (Kd.R_types HO226.out BK238.out (by decide)) (fun _ hk => hk.2) (.string t233)) (fun _ hk => hk.2) (.slice Ao20 t234.length co20)) (fun _ h_ => h_.1))) hb); have n1_ := Aside0.mk (Kd.R_below (by (with_reducible repeat (first | apply Kd.R_alloc | apply Kd.R_drewN | apply Kd.R_drew)); exact (Kd.R_mono (Kd.R_far (p := ⟨gb238, 1, none⟩) (Kd.R_far (p := ⟨gb238, 0, none⟩) (Kd.R_types HO231.out BK238.out (by decide)) (fun _ hk => hk.2) (.string t233)) (fun _ hk => hk.2) (.slice Ao20 t234.length co20)) (fun _ h_ => h_.1))) hb); have n2_ := Aside0.mk (Kd.R_below (by (with_reducible repeat (first | apply Kd.R_alloc | apply Kd.R_drewN | apply Kd.R_drew)); exact (Kd.R_mono (Kd.R_far (p := ⟨gb238, 1, none⟩) (Kd.R_far (p := ⟨gb238, 0, none⟩) (Kd.R_types HO236.out BK238.out (by decide)) (fun _ hk => hk.2) (.string t233)) (fun _ hk => hk.2) (.slice Ao20 t234.length co20)) (fun _ h_ => h_.1))) hb); have n3_ := Aside0.mk (Zb (g := gb238) (o := .cells #[.string t233, .slice Ao20 t234.length co20] 24 (0, 0)) (by (with_reducible repeat first | apply Zn | apply Zd | apply Za); refine Zp (cs := #[.string t233, .slice none 0 0]) ?_ 1 _ rfl; (with_reducible repeat first | apply Zn | apply Zd | apply Za); refine Zp (cs := #[.string (⟨#[]⟩ : ByteArray), .slice none 0 0]) ?_ 0 _ rfl; (with_reducible repeat first | apply Zn | apply Zd | apply Za); exact BK238.out) hb); have n4_ := Aside0.mk (Yv HB hb); clear HO226; clear HO231; clear HO236; clear BK238; clear HB; have HO226 := n0_; have HO231 := n1_; have HO236 := n2_; have BK238 := n3_; have HB := n4_; clear n0_ n1_ n2_ n3_ n4_; (try clear hb); (try clear hb2); (try clear hk); (try clear hi); have CA8 := fun W => palinodelaw18_is.calls t237 3 t241 W A8.out; try simp only [errW_none, errW_some] at CA8) | (go_at_call 20; (with_reducible refine (CA8 _).mono ?_); rintro e w' ⟨rfl, ⟨nd, rfl⟩⟩))
     go_ret
     first | (refine absurd c4b0 ?_; simp [*]; done) | exact ⟨by first | rfl | (simp [errW_none, errW_some] <;> rfl) | (simp [*, errW_none, errW_some] <;> rfl), Yr HB⟩
    ·
     rw [if_neg c7] at H
     have c7b0 : (t232 == 8) = false := beq_eq_false_iff_ne.mpr c7
     have c7b1 : (t232 != 8) = true := bne_iff_ne.mpr c7
     exact absurd ((Option.some.inj H).trans HRT_.out) (by decide)
  ·
   have H1 : (some false) = some r := by rw [if_neg (show ¬ (some q239).isNone = true by simp)] at H; exact H
   clear H
   have H := H1
   clear H1
   try simp only [errW_none, errW_some]
   exact absurd ((Option.some.inj H).trans HRT_.out) (by decide)
 ·
  rw [if_neg c4] at H
  have c4b0 : (t227.toList == ([1, 3, 112, 97, 121, 1, 1, 1, 2, 1, 30] : List UInt8)) = false := beq_eq_false_iff_ne.mpr c4
  have c4b1 : (t227.toList != ([1, 3, 112, 97, 121, 1, 1, 1, 2, 1, 30] : List UInt8)) = true := bne_iff_ne.mpr c4
  exact absurd ((Option.some.inj H).trans HRT_.out) (by decide)

/-! ### palinoderef18_Name: function 10 -/
def palinoderef18_Name.l0 : Nat → ByteArray → Int → Option (Bool)
 | 0, _, _ => none
 | k + 1, x0, x3 => if x3 < (x0.size : Int) then (if 0 ≤ x3 then (if (bt x0 x3) < 97 then (if (bt x0 x3) < 48 then (if (bt x0 x3) = 45 then (palinoderef18_Name.l0 k x0 (wrap64 (x3 + 1))) else (some false)) else (if (bt x0 x3) > 57 then (if (bt x0 x3) = 45 then (palinoderef18_Name.l0 k x0 (wrap64 (x3 + 1))) else (some false)) else (palinoderef18_Name.l0 k x0 (wrap64 (x3 + 1))))) else (if (bt x0 x3) > 122 then (if (bt x0 x3) < 48 then (if (bt x0 x3) = 45 then (palinoderef18_Name.l0 k x0 (wrap64 (x3 + 1))) else (some false)) else (if (bt x0 x3) > 57 then (if (bt x0 x3) = 45 then (palinoderef18_Name.l0 k x0 (wrap64 (x3 + 1))) else (some false)) else (palinoderef18_Name.l0 k x0 (wrap64 (x3 + 1))))) else (palinoderef18_Name.l0 k x0 (wrap64 (x3 + 1))))) else (none)) else (if (x0.size : Int) ≥ 1 then (some (decide ((x0.size : Int) ≤ 20))) else (some false))
def palinoderef18_Name.f (k : Nat) (a0 : ByteArray) : Option (Bool) := palinoderef18_Name.l0 k a0 0
theorem palinoderef18_Name.mono_l : ∀ k, (∀ y0 y1, LeO (palinoderef18_Name.l0 k y0 y1) (palinoderef18_Name.l0 (k + 1) y0 y1))
 | 0 => fun _ _ r h => by simp [palinoderef18_Name.l0] at h
 | k + 1 => by
  have ih0 := palinoderef18_Name.mono_l k
  ·
   intro y0 y1
   unfold palinoderef18_Name.l0
   repeat' first
   | (with_reducible exact ih0 _ _)
   | (with_reducible exact LeO.refl _)
   | (with_reducible exact LeO.none _)
   | (with_reducible refine LeO.ite ?_ ?_)
   | (with_reducible refine LeO.bind ?_ (fun _ => ?_))
   | exact ih0 _ _
   | exact LeO.none _
   | refine LeO.ite ?_ ?_
   | refine LeO.bind ?_ (fun _ => ?_)
theorem palinoderef18_Name.mono : ∀ a0 k, LeO (palinoderef18_Name.f k a0) (palinoderef18_Name.f (k + 1) a0) := by
 intro a0 k
 have ih0 := palinoderef18_Name.mono_l k
 unfold palinoderef18_Name.f
 repeat' first
   | (with_reducible exact ih0 _ _)
   | (with_reducible exact LeO.refl _)
   | (with_reducible exact LeO.none _)
   | (with_reducible refine LeO.ite ?_ ?_)
   | (with_reducible refine LeO.bind ?_ (fun _ => ?_))
   | exact ih0 _ _
   | exact LeO.none _
   | refine LeO.ite ?_ ?_
   | refine LeO.bind ?_ (fun _ => ?_)
set_option maxHeartbeats 8000000 in
set_option maxRecDepth 100000 in
theorem palinoderef18_Name.calls (k : Nat) (a0 : ByteArray) (r : Bool) (w : World) (h : palinoderef18_Name.f k a0 = some r) :
  Calls Try.prog 10 #[.string a0] w fun e w' => e = .returned (.bool r) ∧ Drawn0 w w' := by
 have H : (palinoderef18_Name.l0 k a0 0) = some r := h
 clear h
 have H' := Aside0.mk H
 clear H
 go_enter Try.func10, Try.ntmps10
 go_wp2
 go_loopg [3] k (fun kq v3 w' => ∃ (x3_1 : Int), v3 = .int .i64 x3_1 ∧ Aside0 (palinoderef18_Name.l0 kq a0 x3_1 = some r) ∧ Aside0 (kq ≤ k) ∧ Drawn0 w w')
 case atStart => exact ⟨(0), (by first | rfl | (simp; done) | (simp [*]; done)), H', ⟨Nat.le_refl _⟩, by repeat (first | exact Drawn0.refl _ | apply Drawn0.step)⟩
 case round =>
  clear H'
  try clear c1
  obtain ⟨x3_1, rfl, HA, HK1, ⟨m1, rfl⟩⟩ := hrel
  cases gk with
  | zero => exact absurd HA.out (by simp [palinoderef18_Name.l0])
  | succ k1 =>
   have H := HA.out
   clear HA
   simp only [palinoderef18_Name.l0] at H
   by_cases c2 : x3_1 < (a0.size : Int)
   ·
    rw [if_pos c2] at H
    have c2b0 : decide (x3_1 < (a0.size : Int)) = true := decide_eq_true c2
    clear c2
    by_cases c3 : 0 ≤ x3_1
    ·
     rw [if_pos c3] at H
     have c3b0 : decide (0 ≤ x3_1) = true := decide_eq_true c3
     clear c3
     by_cases c5 : (bt a0 x3_1) < 97
     ·
      rw [if_pos c5] at H
      have c5b0 : decide ((bt a0 x3_1) < 97) = true := decide_eq_true c5
      clear c5
      by_cases c6 : (bt a0 x3_1) < 48
      ·
       rw [if_pos c6] at H
       have c6b0 : decide ((bt a0 x3_1) < 48) = true := decide_eq_true c6
       clear c6
       by_cases c7 : (bt a0 x3_1) = 45
       ·
        rw [if_pos c7] at H
        have c7b0 : ((bt a0 x3_1) == 45) = true := beq_iff_eq.mpr c7
        have c7b1 : ((bt a0 x3_1) != 45) = false := bne_eq_false_iff_eq.mpr c7
        clear c7
        have H' := Aside0.mk H
        clear H
        have p4 : 0 ≤ (x3_1 : Int) := of_decide_eq_true (by first | (with_reducible assumption) | assumption)
        have q4 : x3_1 < (a0.size : Int) := of_decide_eq_true (by first | (with_reducible assumption) | assumption)
        have hx4 := bt_at a0 x3_1
        replace p4 := eq_true p4
        replace q4 := eq_true q4
        go_wp2
        go_roundg k1
        case measure => have := HK1.out; omega
        case rel => exact ⟨(wrap64 (x3_1 + 1)), (by first | rfl | (simp; done) | (simp [*]; done)), H', ⟨by have := HK1.out; omega⟩, by repeat (first | exact Drawn0.refl _ | apply Drawn0.step)⟩
       ·
        rw [if_neg c7] at H
        have c7b0 : ((bt a0 x3_1) == 45) = false := beq_eq_false_iff_ne.mpr c7
        have c7b1 : ((bt a0 x3_1) != 45) = true := bne_iff_ne.mpr c7
        obtain rfl := Option.some.inj H
        have p4 : 0 ≤ (x3_1 : Int) := of_decide_eq_true (by first | (with_reducible assumption) | assumption)
        have q4 : x3_1 < (a0.size : Int) := of_decide_eq_true (by first | (with_reducible assumption) | assumption)
        have hx4 := bt_at a0 x3_1
        replace p4 := eq_true p4
        replace q4 := eq_true q4
        go_wp2
        go_ret
        exact ⟨by first | rfl | (simp; done) | (simp [*]; done), by repeat (first | exact Drawn0.refl _ | apply Drawn0.step)⟩
      ·
       rw [if_neg c6] at H
       have c6b0 : decide ((bt a0 x3_1) < 48) = false := decide_eq_false c6
       clear c6
       by_cases c8 : (bt a0 x3_1) > 57
       ·
        rw [if_pos c8] at H
        have c8b0 : decide (57 < (bt a0 x3_1)) = true := decide_eq_true c8
        clear c8
        by_cases c9 : (bt a0 x3_1) = 45
        ·
         rw [if_pos c9] at H
         have c9b0 : ((bt a0 x3_1) == 45) = true := beq_iff_eq.mpr c9
         have c9b1 : ((bt a0 x3_1) != 45) = false := bne_eq_false_iff_eq.mpr c9
         clear c9
         have H' := Aside0.mk H
         clear H
         have p4 : 0 ≤ (x3_1 : Int) := of_decide_eq_true (by first | (with_reducible assumption) | assumption)
         have q4 : x3_1 < (a0.size : Int) := of_decide_eq_true (by first | (with_reducible assumption) | assumption)
         have hx4 := bt_at a0 x3_1
         replace p4 := eq_true p4
         replace q4 := eq_true q4
         go_wp2
         go_roundg k1
         case measure => have := HK1.out; omega
         case rel => exact ⟨(wrap64 (x3_1 + 1)), (by first | rfl | (simp; done) | (simp [*]; done)), H', ⟨by have := HK1.out; omega⟩, by repeat (first | exact Drawn0.refl _ | apply Drawn0.step)⟩
        ·
         rw [if_neg c9] at H
         have c9b0 : ((bt a0 x3_1) == 45) = false := beq_eq_false_iff_ne.mpr c9
         have c9b1 : ((bt a0 x3_1) != 45) = true := bne_iff_ne.mpr c9
         obtain rfl := Option.some.inj H
         have p4 : 0 ≤ (x3_1 : Int) := of_decide_eq_true (by first | (with_reducible assumption) | assumption)
         have q4 : x3_1 < (a0.size : Int) := of_decide_eq_true (by first | (with_reducible assumption) | assumption)
         have hx4 := bt_at a0 x3_1
         replace p4 := eq_true p4
         replace q4 := eq_true q4
         go_wp2
         go_ret
         exact ⟨by first | rfl | (simp; done) | (simp [*]; done), by repeat (first | exact Drawn0.refl _ | apply Drawn0.step)⟩
       ·
        rw [if_neg c8] at H
        have c8b0 : decide (57 < (bt a0 x3_1)) = false := decide_eq_false c8
        clear c8
        have H' := Aside0.mk H
        clear H
        have p4 : 0 ≤ (x3_1 : Int) := of_decide_eq_true (by first | (with_reducible assumption) | assumption)
        have q4 : x3_1 < (a0.size : Int) := of_decide_eq_true (by first | (with_reducible assumption) | assumption)
        have hx4 := bt_at a0 x3_1
        replace p4 := eq_true p4
        replace q4 := eq_true q4
        go_wp2
        go_roundg k1
        case measure => have := HK1.out; omega
        case rel => exact ⟨(wrap64 (x3_1 + 1)), (by first | rfl | (simp; done) | (simp [*]; done)), H', ⟨by have := HK1.out; omega⟩, by repeat (first | exact Drawn0.refl _ | apply Drawn0.step)⟩
     ·
      rw [if_neg c5] at H
      have c5b0 : decide ((bt a0 x3_1) < 97) = false := decide_eq_false c5
      clear c5
      by_cases c10 : (bt a0 x3_1) > 122
      ·
       rw [if_pos c10] at H
       have c10b0 : decide (122 < (bt a0 x3_1)) = true := decide_eq_true c10
       clear c10
       by_cases c11 : (bt a0 x3_1) < 48
       ·
        rw [if_pos c11] at H
        have c11b0 : decide ((bt a0 x3_1) < 48) = true := decide_eq_true c11
        clear c11
        by_cases c12 : (bt a0 x3_1) = 45
        ·
         rw [if_pos c12] at H
         have c12b0 : ((bt a0 x3_1) == 45) = true := beq_iff_eq.mpr c12
         have c12b1 : ((bt a0 x3_1) != 45) = false := bne_eq_false_iff_eq.mpr c12
         clear c12
         have H' := Aside0.mk H
         clear H
         have p4 : 0 ≤ (x3_1 : Int) := of_decide_eq_true (by first | (with_reducible assumption) | assumption)
         have q4 : x3_1 < (a0.size : Int) := of_decide_eq_true (by first | (with_reducible assumption) | assumption)
         have hx4 := bt_at a0 x3_1
         replace p4 := eq_true p4
         replace q4 := eq_true q4
         go_wp2
         go_roundg k1
         case measure => have := HK1.out; omega
         case rel => exact ⟨(wrap64 (x3_1 + 1)), (by first | rfl | (simp; done) | (simp [*]; done)), H', ⟨by have := HK1.out; omega⟩, by repeat (first | exact Drawn0.refl _ | apply Drawn0.step)⟩
        ·
         rw [if_neg c12] at H
         have c12b0 : ((bt a0 x3_1) == 45) = false := beq_eq_false_iff_ne.mpr c12
         have c12b1 : ((bt a0 x3_1) != 45) = true := bne_iff_ne.mpr c12
         obtain rfl := Option.some.inj H
         have p4 : 0 ≤ (x3_1 : Int) := of_decide_eq_true (by first | (with_reducible assumption) | assumption)
         have q4 : x3_1 < (a0.size : Int) := of_decide_eq_true (by first | (with_reducible assumption) | assumption)
         have hx4 := bt_at a0 x3_1
         replace p4 := eq_true p4
         replace q4 := eq_true q4
         go_wp2
         go_ret
         exact ⟨by first | rfl | (simp; done) | (simp [*]; done), by repeat (first | exact Drawn0.refl _ | apply Drawn0.step)⟩
       ·
        rw [if_neg c11] at H
        have c11b0 : decide ((bt a0 x3_1) < 48) = false := decide_eq_false c11
        clear c11
        by_cases c13 : (bt a0 x3_1) > 57
        ·
         rw [if_pos c13] at H
         have c13b0 : decide (57 < (bt a0 x3_1)) = true := decide_eq_true c13
         clear c13
         by_cases c14 : (bt a0 x3_1) = 45
         ·
          rw [if_pos c14] at H
          have c14b0 : ((bt a0 x3_1) == 45) = true := beq_iff_eq.mpr c14
          have c14b1 : ((bt a0 x3_1) != 45) = false := bne_eq_false_iff_eq.mpr c14
          clear c14
          have H' := Aside0.mk H
          clear H
          have p4 : 0 ≤ (x3_1 : Int) := of_decide_eq_true (by first | (with_reducible assumption) | assumption)
          have q4 : x3_1 < (a0.size : Int) := of_decide_eq_true (by first | (with_reducible assumption) | assumption)
          have hx4 := bt_at a0 x3_1
          replace p4 := eq_true p4
          replace q4 := eq_true q4
          go_wp2
          go_roundg k1
          case measure => have := HK1.out; omega
          case rel => exact ⟨(wrap64 (x3_1 + 1)), (by first | rfl | (simp; done) | (simp [*]; done)), H', ⟨by have := HK1.out; omega⟩, by repeat (first | exact Drawn0.refl _ | apply Drawn0.step)⟩
         ·
          rw [if_neg c14] at H
          have c14b0 : ((bt a0 x3_1) == 45) = false := beq_eq_false_iff_ne.mpr c14
          have c14b1 : ((bt a0 x3_1) != 45) = true := bne_iff_ne.mpr c14
          obtain rfl := Option.some.inj H
          have p4 : 0 ≤ (x3_1 : Int) := of_decide_eq_true (by first | (with_reducible assumption) | assumption)
          have q4 : x3_1 < (a0.size : Int) := of_decide_eq_true (by first | (with_reducible assumption) | assumption)
          have hx4 := bt_at a0 x3_1
          replace p4 := eq_true p4
          replace q4 := eq_true q4
          go_wp2
          go_ret
          exact ⟨by first | rfl | (simp; done) | (simp [*]; done), by repeat (first | exact Drawn0.refl _ | apply Drawn0.step)⟩
        ·
         rw [if_neg c13] at H
         have c13b0 : decide (57 < (bt a0 x3_1)) = false := decide_eq_false c13
         clear c13
         have H' := Aside0.mk H
         clear H
         have p4 : 0 ≤ (x3_1 : Int) := of_decide_eq_true (by first | (with_reducible assumption) | assumption)
         have q4 : x3_1 < (a0.size : Int) := of_decide_eq_true (by first | (with_reducible assumption) | assumption)
         have hx4 := bt_at a0 x3_1
         replace p4 := eq_true p4
         replace q4 := eq_true q4
         go_wp2
         go_roundg k1
         case measure => have := HK1.out; omega
         case rel => exact ⟨(wrap64 (x3_1 + 1)), (by first | rfl | (simp; done) | (simp [*]; done)), H', ⟨by have := HK1.out; omega⟩, by repeat (first | exact Drawn0.refl _ | apply Drawn0.step)⟩
      ·
       rw [if_neg c10] at H
       have c10b0 : decide (122 < (bt a0 x3_1)) = false := decide_eq_false c10
       clear c10
       have H' := Aside0.mk H
       clear H
       have p4 : 0 ≤ (x3_1 : Int) := of_decide_eq_true (by first | (with_reducible assumption) | assumption)
       have q4 : x3_1 < (a0.size : Int) := of_decide_eq_true (by first | (with_reducible assumption) | assumption)
       have hx4 := bt_at a0 x3_1
       replace p4 := eq_true p4
       replace q4 := eq_true q4
       go_wp2
       go_roundg k1
       case measure => have := HK1.out; omega
       case rel => exact ⟨(wrap64 (x3_1 + 1)), (by first | rfl | (simp; done) | (simp [*]; done)), H', ⟨by have := HK1.out; omega⟩, by repeat (first | exact Drawn0.refl _ | apply Drawn0.step)⟩
    ·
     rw [if_neg c3] at H
     exact absurd H (by simp)
   ·
    rw [if_neg c2] at H
    have c2b0 : decide (x3_1 < (a0.size : Int)) = false := decide_eq_false c2
    clear c2
    by_cases c15 : (a0.size : Int) ≥ 1
    ·
     rw [if_pos c15] at H
     have c15b0 : decide (1 ≤ (a0.size : Int)) = true := decide_eq_true c15
     have c15b1 : decide (1 ≤ a0.size) = true := decide_eq_true (by omega)
     clear c15
     obtain rfl := Option.some.inj H
     go_wp2
     go_ret
     exact ⟨by first | rfl | (simp; done) | (simp [*]; done), by repeat (first | exact Drawn0.refl _ | apply Drawn0.step)⟩
    ·
     rw [if_neg c15] at H
     have c15b0 : decide (1 ≤ (a0.size : Int)) = false := decide_eq_false c15
     have c15b1 : decide (1 ≤ a0.size) = false := decide_eq_false (by omega)
     clear c15
     obtain rfl := Option.some.inj H
     go_wp2
     go_ret
     exact ⟨by first | rfl | (simp; done) | (simp [*]; done), by repeat (first | exact Drawn0.refl _ | apply Drawn0.step)⟩

/-! ### palinoderef18_Right: function 12 -/
mutual
def palinoderef18_Right.j0 : Nat → Bool → ByteArray → List (S43) → Option (Bool)
 | 0, _, _, _ => none
 | k + 1, x22, x243000, x243001 => if x22 = true then (some false) else (palinoderef18_Right.l0 k 0 x243000 x243001)
def palinoderef18_Right.l0 : Nat → Int → ByteArray → List (S43) → Option (Bool)
 | 0, _, _, _ => none
 | k + 1, x4, x243000, x243001 => if x4 < (x243001.length : Int) then (if 0 ≤ x4 then (if ((rd_T43 x243001 x4).f0) < 0 then (some false) else (if ((rd_T43 x243001 x4).f0) > 5 then (some false) else (if ((rd_T43 x243001 x4).f1) < 1 then (some false) else (if ((rd_T43 x243001 x4).f1) > 10000 then (some false) else (palinoderef18_Right.l0 k (wrap64 (x4 + 1)) x243000 x243001))))) else (none)) else (some true)
end
def palinoderef18_Right.f (k : Nat) (a0_0 : ByteArray) (l0_1 : List (S43)) : Option (Bool) := (palinoderef18_Name.f k a0_0).bind fun t243 => (if t243 = true then (if (l0_1.length : Int) < 1 then (palinoderef18_Right.j0 k true a0_0 l0_1) else (palinoderef18_Right.j0 k (decide ((l0_1.length : Int) > 6)) a0_0 l0_1)) else (palinoderef18_Right.j0 k true a0_0 l0_1))
theorem palinoderef18_Right.mono_l : ∀ k, (∀ y0 y1 y2, LeO (palinoderef18_Right.j0 k y0 y1 y2) (palinoderef18_Right.j0 (k + 1) y0 y1 y2)) ∧ (∀ y0 y1 y2, LeO (palinoderef18_Right.l0 k y0 y1 y2) (palinoderef18_Right.l0 (k + 1) y0 y1 y2))
 | 0 => ⟨fun _ _ _ r h => by simp [palinoderef18_Right.j0] at h, fun _ _ _ r h => by simp [palinoderef18_Right.l0] at h⟩
 | k + 1 => by
  obtain ⟨ih0, ih1⟩ := palinoderef18_Right.mono_l k
  refine ⟨?_, ?_⟩
  ·
   intro y0 y1 y2
   unfold palinoderef18_Right.j0
   repeat' first
   | (with_reducible exact ih0 _ _ _)
   | (with_reducible exact ih1 _ _ _)
   | (with_reducible exact palinoderef18_Name.mono _ _)
   | (with_reducible exact LeO.refl _)
   | (with_reducible exact LeO.none _)
   | (with_reducible refine LeO.ite ?_ ?_)
   | (with_reducible refine LeO.bind ?_ (fun _ => ?_))
   | exact ih0 _ _ _
   | exact ih1 _ _ _
   | exact palinoderef18_Name.mono _ _
   | exact LeO.none _
   | refine LeO.ite ?_ ?_
   | refine LeO.bind ?_ (fun _ => ?_)
  ·
   intro y0 y1 y2
   unfold palinoderef18_Right.l0
   repeat' first
   | (with_reducible exact ih0 _ _ _)
   | (with_reducible exact ih1 _ _ _)
   | (with_reducible exact palinoderef18_Name.mono _ _)
   | (with_reducible exact LeO.refl _)
   | (with_reducible exact LeO.none _)
   | (with_reducible refine LeO.ite ?_ ?_)
   | (with_reducible refine LeO.bind ?_ (fun _ => ?_))
   | exact ih0 _ _ _
   | exact ih1 _ _ _
   | exact palinoderef18_Name.mono _ _
   | exact LeO.none _
   | refine LeO.ite ?_ ?_
   | refine LeO.bind ?_ (fun _ => ?_)
theorem palinoderef18_Right.mono : ∀ a0 a1 k, LeO (palinoderef18_Right.f k a0 a1) (palinoderef18_Right.f (k + 1) a0 a1) := by
 intro a0 a1 k
 obtain ⟨ih0, ih1⟩ := palinoderef18_Right.mono_l k
 unfold palinoderef18_Right.f
 repeat' first
   | (with_reducible exact ih0 _ _ _)
   | (with_reducible exact ih1 _ _ _)
   | (with_reducible exact palinoderef18_Name.mono _ _)
   | (with_reducible exact LeO.refl _)
   | (with_reducible exact LeO.none _)
   | (with_reducible refine LeO.ite ?_ ?_)
   | (with_reducible refine LeO.bind ?_ (fun _ => ?_))
   | exact ih0 _ _ _
   | exact ih1 _ _ _
   | exact palinoderef18_Name.mono _ _
   | exact LeO.none _
   | refine LeO.ite ?_ ?_
   | refine LeO.bind ?_ (fun _ => ?_)
set_option maxHeartbeats 8000000 in
set_option maxRecDepth 100000 in
theorem palinoderef18_Right.calls (k : Nat) (a0_0 : ByteArray) (A0_1 : Option Addr) (c0_1 : Nat) (l0_1 : List (S43)) (r : Bool) (w : World) (hr0_1 : Kd.C k43 w A0_1 l0_1.length l0_1) (hc0_1 : l0_1.length ≤ c0_1) (h : palinoderef18_Right.f k a0_0 l0_1 = some r) :
  Calls Try.prog 12 #[.agg #[.string a0_0, .slice A0_1 l0_1.length c0_1]] w fun e w' => e = .returned (.bool r) ∧ Below w.heap.size w w' := by
 have hu24 := Try.underlying24
 have hu43 := Try.underlying43
 have HR0_1 := Aside0.mk hr0_1
 have HC0_1 := Aside0.mk hc0_1
 clear hr0_1 hc0_1
 have HB := Aside0.mk (Below.refl w.heap.size w)
 have H : ((palinoderef18_Name.f k a0_0).bind fun t243 => (if t243 = true then (if (l0_1.length : Int) < 1 then (palinoderef18_Right.j0 k true a0_0 l0_1) else (palinoderef18_Right.j0 k (decide ((l0_1.length : Int) > 6)) a0_0 l0_1)) else (palinoderef18_Right.j0 k true a0_0 l0_1))) = some r := h
 clear h
 replace H := Option.bind_eq_some_iff.mp H
 obtain ⟨t243, A20, H⟩ := H
 replace H : (if t243 = true then (if (l0_1.length : Int) < 1 then (palinoderef18_Right.j0 k true a0_0 l0_1) else (palinoderef18_Right.j0 k (decide ((l0_1.length : Int) > 6)) a0_0 l0_1)) else (palinoderef18_Right.j0 k true a0_0 l0_1)) = some r := H
 have A2 := Aside0.mk A20
 clear A20
 have HC3 := Aside0.mk H
 clear H
 go_enter Try.func12, Try.ntmps12
 go_upto_region 2 with (first | ((with_reducible refine gate_dst (N := 1) rfl ?_); (try (refine gate_guard (by rfl) ?_; dsimp only)); refine box_event ?hg (N := 1) ?hd (cs := #[.string a0_0, .slice A0_1 l0_1.length c0_1]) (t := 24) ?hr ?_; (case hd => rfl); (case hg => rfl); (case hr => first | (go_simp; done) | (go_simp; rfl)); intro gb242 hg w4 hbox hb; have n0_ := Aside0.mk (Yv HB hb); have n1_ := Aside0.mk (hbox); have n2_ := Aside0.mk (Yg HB hg); have n3_ := Aside0.mk (Yg HB hg); clear HB; have HB := n0_; have BK242 := n1_; have GW242 := n2_; have GE242 := n3_; clear n0_ n1_ n2_ n3_; clear hb hbox hg; obtain ⟨⟨hcz5_0, hcz5_1⟩, hfz5_0, hfz5_1⟩ := Zk2 BK242) | ((with_reducible refine gate_callee (f := 10) rfl ?_); refine goesL_ (some 8) rfl rfl Try.func10 (by kernel_rfl) rfl #[.string a0_0] rfl (by (try simp only [List.map_toArray, List.map_cons, List.map_nil]); first | done | rfl | (simp only [List.length_drop, List.length_take]; rfl)) ?_; (with_reducible refine (palinoderef18_Name.calls k a0_0 t243 _ A2.out).mono ?_); rintro e w' ⟨rfl, ⟨nd, rfl⟩⟩; refine ⟨_, rfl, ?_⟩))
 (try simp only [Act.put, List.setIfInBounds_toArray, List.set_cons_zero, List.set_cons_succ])
 go_cut [22] (fun v22 wc => ∃ (kq : Nat) (x22_2 : Bool), v22 = .bool x22_2 ∧ Aside0 (palinoderef18_Right.j0 kq x22_2 a0_0 l0_1 = some r) ∧ Aside0 (kq ≤ k) ∧ Aside0 (wc.heap[gb242]? = some (.cells #[.string a0_0, (.slice A0_1 l0_1.length c0_1)] 24 (0, 0))) ∧ Aside0 (Below w.heap.size w wc))
 case first =>
  have H := HC3.out
  clear HC3
  by_cases c6 : t243 = true
  ·
   subst c6
   have H1 : (if (l0_1.length : Int) < 1 then (palinoderef18_Right.j0 k true a0_0 l0_1) else (palinoderef18_Right.j0 k (decide ((l0_1.length : Int) > 6)) a0_0 l0_1)) = some r := by rw [if_pos rfl] at H; exact H
   clear H
   have H := H1
   clear H1
   by_cases c7 : (l0_1.length : Int) < 1
   ·
    rw [if_pos c7] at H
    have c7b0 : decide ((l0_1.length : Int) < 1) = true := decide_eq_true c7
    have c7b1 : decide (l0_1.length < 1) = true := decide_eq_true (by omega)
    clear c7
    (first | rw [c7b0] | (simp only [i64_w, i32_w]; rw [c7b0]) | skip)
    have H' := Aside0.mk H
    clear H
    obtain ⟨⟨hcz8_0, hcz8_1⟩, hfz8_0, hfz8_1⟩ := Zk2 BK242
    go_wp2
    go_meet
    case rel => exact ⟨_, (true), (by first | rfl | (simp; done) | (simp [*]; done)), H', ⟨by first | omega | exact Nat.le_refl _⟩, ⟨by (with_reducible repeat first | apply Zn | apply Zd | apply Za); exact BK242.out⟩, ⟨Yr HB⟩⟩
   ·
    rw [if_neg c7] at H
    have c7b0 : decide ((l0_1.length : Int) < 1) = false := decide_eq_false c7
    have c7b1 : decide (l0_1.length < 1) = false := decide_eq_false (by omega)
    clear c7
    (first | rw [c7b0] | (simp only [i64_w, i32_w]; rw [c7b0]) | skip)
    have H' := Aside0.mk H
    clear H
    obtain ⟨⟨hcz9_0, hcz9_1⟩, hfz9_0, hfz9_1⟩ := Zk2 BK242
    go_wp2
    go_meet
    case rel => exact ⟨_, (decide ((l0_1.length : Int) > 6)), (by first | rfl | (simp; done) | (simp [*]; done)), H', ⟨by first | omega | exact Nat.le_refl _⟩, ⟨by (with_reducible repeat first | apply Zn | apply Zd | apply Za); exact BK242.out⟩, ⟨Yr HB⟩⟩
  ·
   replace c6 := Bool.eq_false_iff.mpr c6
   subst c6
   have H1 : (palinoderef18_Right.j0 k true a0_0 l0_1) = some r := by rw [if_neg (show ¬ (false = true) by decide)] at H; exact H
   clear H
   have H := H1
   clear H1
   have H' := Aside0.mk H
   clear H
   go_wp2
   go_meet
   case rel => exact ⟨_, (true), (by first | rfl | (simp; done) | (simp [*]; done)), H', ⟨by first | omega | exact Nat.le_refl _⟩, ⟨by (with_reducible repeat first | apply Zn | apply Zd | apply Za); exact BK242.out⟩, ⟨Yr HB⟩⟩
 case rest =>
  clear HC3
  try clear c1
  try clear p2
  try clear c6
  try clear c7
  try clear c7b0
  try clear c7b1
  try clear hcz5_0
  try clear hcz5_1
  try clear hcz8_0
  try clear hcz8_1
  try clear hcz9_0
  try clear hcz9_1
  try clear hfz5_0
  try clear hfz5_1
  try clear hfz8_0
  try clear hfz8_1
  try clear hfz9_0
  try clear hfz9_1
  obtain ⟨kq, x22_2, rfl, HA, HJ2, BK242, HB⟩ := hcut
  cases kq with
  | zero => exact absurd HA.out (by simp [palinoderef18_Right.j0])
  | succ kj2 =>
   have H := HA.out
   clear HA
   simp only [palinoderef18_Right.j0] at H
   by_cases c10 : x22_2 = true
   ·
    subst c10
    have H1 : (some false) = some r := by rw [if_pos rfl] at H; exact H
    clear H
    have H := H1
    clear H1
    obtain rfl := Option.some.inj H
    go_wp2
    go_ret
    exact ⟨by first | rfl | (simp [errW_none, errW_some] <;> rfl) | (simp [*, errW_none, errW_some] <;> rfl), Yr HB⟩
   ·
    replace c10 := Bool.eq_false_iff.mpr c10
    subst c10
    have H1 : (palinoderef18_Right.l0 kj2 0 a0_0 l0_1) = some r := by rw [if_neg (show ¬ (false = true) by decide)] at H; exact H
    clear H
    have H := H1
    clear H1
    have H' := Aside0.mk H
    clear H
    go_wp2
    go_loopg [4] kj2 (fun kq v4 w' => ∃ (x4_2 : Int), v4 = .int .i64 x4_2 ∧ Aside0 (palinoderef18_Right.l0 kq x4_2 a0_0 l0_1 = some r) ∧ Aside0 (kq ≤ kj2) ∧ Aside0 (w'.heap[gb242]? = some (.cells #[.string a0_0, (.slice A0_1 l0_1.length c0_1)] 24 (0, 0))) ∧ Aside0 (Below w.heap.size w w'))
    case atStart => exact ⟨(0), (by first | rfl | (simp; done) | (simp [*]; done)), H', ⟨Nat.le_refl _⟩, ⟨by (with_reducible repeat first | apply Zn | apply Zd | apply Za); exact BK242.out⟩, ⟨Yr HB⟩⟩
    case round =>
     clear H'
     try clear c1
     try clear p2
     try clear c6
     try clear c7
     try clear c7b0
     try clear c7b1
     try clear c10
     try clear hcz5_0
     try clear hcz5_1
     try clear hcz8_0
     try clear hcz8_1
     try clear hcz9_0
     try clear hcz9_1
     try clear hfz5_0
     try clear hfz5_1
     try clear hfz8_0
     try clear hfz8_1
     try clear hfz9_0
     try clear hfz9_1
     try clear p2
     obtain ⟨x4_2, rfl, HA, HK2, BK242, HB⟩ := hrel
     cases gk with
     | zero => exact absurd HA.out (by simp [palinoderef18_Right.l0])
     | succ k2 =>
      have H := HA.out
      clear HA
      simp only [palinoderef18_Right.l0] at H
      by_cases c11 : x4_2 < (l0_1.length : Int)
      ·
       rw [if_pos c11] at H
       have c11b0 : decide (x4_2 < (l0_1.length : Int)) = true := decide_eq_true c11
       clear c11
       by_cases c12 : 0 ≤ x4_2
       ·
        rw [if_pos c12] at H
        have c12b0 : decide (0 ≤ x4_2) = true := decide_eq_true c12
        clear c12
        by_cases c13 : ((rd_T43 l0_1 x4_2).f0) < 0
        ·
         rw [if_pos c13] at H
         have c13b0 : decide (((rd_T43 l0_1 x4_2).f0) < 0) = true := decide_eq_true c13
         clear c13
         obtain rfl := Option.some.inj H
         obtain ⟨⟨hcz14_0, hcz14_1⟩, hfz14_0, hfz14_1⟩ := Zk2 BK242
         have p244 : 0 ≤ (x4_2 : Int) := of_decide_eq_true (by first | (with_reducible assumption) | assumption)
         have q244 : x4_2 < (l0_1.length : Int) := of_decide_eq_true (by first | (with_reducible assumption) | assumption)
         obtain ⟨ad244, e244, hx244_0, hx244_1⟩ := at_T43 HR0_1.out x4_2 p244 q244
         cases e244
         replace hx244_0 := (HB.out.cell (World.block_lt_of_cell? w _ hx244_0)).trans hx244_0
         replace hx244_1 := (HB.out.cell (World.block_lt_of_cell? w _ hx244_1)).trans hx244_1
         replace p244 := eq_true p244
         replace q244 := eq_true q244
         go_wp2_with (first | ((with_reducible refine gate_dst (N := 5) rfl ?_); (try (refine gate_guard (by rfl) ?_; dsimp only)); refine box_event ?hg (N := 5) ?hd (cs := #[.int .i64 0, .int .i64 0]) (t := 43) ?hr ?_; (case hd => rfl); (case hg => rfl); (case hr => first | (go_simp; done) | (go_simp; rfl)); intro gb245 hg w15 hbox hb; have n0_ := Aside0.mk (Zv BK242 hb); have n1_ := Aside0.mk (Yv HB hb); have n2_ := Aside0.mk (hbox); have n3_ := Aside0.mk (Yg HB hg); have n4_ := Aside0.mk (Yg HB hg); have n5_ := Aside0.mk (Zl BK242 hg); have n6_ := Aside0.mk (Zg BK242 hg); clear BK242; clear HB; have BK242 := n0_; have HB := n1_; have BK245 := n2_; have GW245 := n3_; have GE245 := n4_; have NB242_245 := n5_; have NB245_242 := n6_; clear n0_ n1_ n2_ n3_ n4_ n5_ n6_; clear hb hbox hg; obtain ⟨hnb16, hnc16⟩ := Zo NB245_242; obtain ⟨⟨hcz17_0, hcz17_1⟩, hfz17_0, hfz17_1⟩ := Zk2 BK245))
         go_ret
         exact ⟨by first | rfl | (simp [errW_none, errW_some] <;> rfl) | (simp [*, errW_none, errW_some] <;> rfl), Yr HB⟩
        ·
         rw [if_neg c13] at H
         have c13b0 : decide (((rd_T43 l0_1 x4_2).f0) < 0) = false := decide_eq_false c13
         clear c13
         by_cases c18 : ((rd_T43 l0_1 x4_2).f0) > 5
         ·
          rw [if_pos c18] at H
          have c18b0 : decide (5 < ((rd_T43 l0_1 x4_2).f0)) = true := decide_eq_true c18
          clear c18
          obtain rfl := Option.some.inj H
          obtain ⟨⟨hcz19_0, hcz19_1⟩, hfz19_0, hfz19_1⟩ := Zk2 BK242
          have p244 : 0 ≤ (x4_2 : Int) := of_decide_eq_true (by first | (with_reducible assumption) | assumption)
          have q244 : x4_2 < (l0_1.length : Int) := of_decide_eq_true (by first | (with_reducible assumption) | assumption)
          obtain ⟨ad244, e244, hx244_0, hx244_1⟩ := at_T43 HR0_1.out x4_2 p244 q244
          cases e244
          replace hx244_0 := (HB.out.cell (World.block_lt_of_cell? w _ hx244_0)).trans hx244_0
          replace hx244_1 := (HB.out.cell (World.block_lt_of_cell? w _ hx244_1)).trans hx244_1
          replace p244 := eq_true p244
          replace q244 := eq_true q244
          go_wp2_with (first | ((with_reducible refine gate_dst (N := 5) rfl ?_); (try (refine gate_guard (by rfl) ?_; dsimp only)); refine box_event ?hg (N := 5) ?hd (cs := #[.int .i64 0, .int .i64 0]) (t := 43) ?hr ?_; (case hd => rfl); (case hg => rfl); (case hr => first | (go_simp; done) | (go_simp; rfl)); intro gb245 hg w20 hbox hb; have n0_ := Aside0.mk (Zv BK242 hb); have n1_ := Aside0.mk (Yv HB hb); have n2_ := Aside0.mk (hbox); have n3_ := Aside0.mk (Yg HB hg); have n4_ := Aside0.mk (Yg HB hg); have n5_ := Aside0.mk (Zl BK242 hg); have n6_ := Aside0.mk (Zg BK242 hg); clear BK242; clear HB; have BK242 := n0_; have HB := n1_; have BK245 := n2_; have GW245 := n3_; have GE245 := n4_; have NB242_245 := n5_; have NB245_242 := n6_; clear n0_ n1_ n2_ n3_ n4_ n5_ n6_; clear hb hbox hg; obtain ⟨hnb21, hnc21⟩ := Zo NB245_242; obtain ⟨⟨hcz22_0, hcz22_1⟩, hfz22_0, hfz22_1⟩ := Zk2 BK245))
          go_ret
          exact ⟨by first | rfl | (simp [errW_none, errW_some] <;> rfl) | (simp [*, errW_none, errW_some] <;> rfl), Yr HB⟩
         ·
          rw [if_neg c18] at H
          have c18b0 : decide (5 < ((rd_T43 l0_1 x4_2).f0)) = false := decide_eq_false c18
          clear c18
          by_cases c23 : ((rd_T43 l0_1 x4_2).f1) < 1
          ·
           rw [if_pos c23] at H
           have c23b0 : decide (((rd_T43 l0_1 x4_2).f1) < 1) = true := decide_eq_true c23
           clear c23
           obtain rfl := Option.some.inj H
           obtain ⟨⟨hcz24_0, hcz24_1⟩, hfz24_0, hfz24_1⟩ := Zk2 BK242
           have p244 : 0 ≤ (x4_2 : Int) := of_decide_eq_true (by first | (with_reducible assumption) | assumption)
           have q244 : x4_2 < (l0_1.length : Int) := of_decide_eq_true (by first | (with_reducible assumption) | assumption)
           obtain ⟨ad244, e244, hx244_0, hx244_1⟩ := at_T43 HR0_1.out x4_2 p244 q244
           cases e244
           replace hx244_0 := (HB.out.cell (World.block_lt_of_cell? w _ hx244_0)).trans hx244_0
           replace hx244_1 := (HB.out.cell (World.block_lt_of_cell? w _ hx244_1)).trans hx244_1
           replace p244 := eq_true p244
           replace q244 := eq_true q244
           go_wp2_with (first | ((with_reducible refine gate_dst (N := 5) rfl ?_); (try (refine gate_guard (by rfl) ?_; dsimp only)); refine box_event ?hg (N := 5) ?hd (cs := #[.int .i64 0, .int .i64 0]) (t := 43) ?hr ?_; (case hd => rfl); (case hg => rfl); (case hr => first | (go_simp; done) | (go_simp; rfl)); intro gb245 hg w25 hbox hb; have n0_ := Aside0.mk (Zv BK242 hb); have n1_ := Aside0.mk (Yv HB hb); have n2_ := Aside0.mk (hbox); have n3_ := Aside0.mk (Yg HB hg); have n4_ := Aside0.mk (Yg HB hg); have n5_ := Aside0.mk (Zl BK242 hg); have n6_ := Aside0.mk (Zg BK242 hg); clear BK242; clear HB; have BK242 := n0_; have HB := n1_; have BK245 := n2_; have GW245 := n3_; have GE245 := n4_; have NB242_245 := n5_; have NB245_242 := n6_; clear n0_ n1_ n2_ n3_ n4_ n5_ n6_; clear hb hbox hg; obtain ⟨hnb26, hnc26⟩ := Zo NB245_242; obtain ⟨⟨hcz27_0, hcz27_1⟩, hfz27_0, hfz27_1⟩ := Zk2 BK245))
           go_ret
           exact ⟨by first | rfl | (simp [errW_none, errW_some] <;> rfl) | (simp [*, errW_none, errW_some] <;> rfl), Yr HB⟩
          ·
           rw [if_neg c23] at H
           have c23b0 : decide (((rd_T43 l0_1 x4_2).f1) < 1) = false := decide_eq_false c23
           clear c23
           by_cases c28 : ((rd_T43 l0_1 x4_2).f1) > 10000
           ·
            rw [if_pos c28] at H
            have c28b0 : decide (10000 < ((rd_T43 l0_1 x4_2).f1)) = true := decide_eq_true c28
            clear c28
            obtain rfl := Option.some.inj H
            obtain ⟨⟨hcz29_0, hcz29_1⟩, hfz29_0, hfz29_1⟩ := Zk2 BK242
            have p244 : 0 ≤ (x4_2 : Int) := of_decide_eq_true (by first | (with_reducible assumption) | assumption)
            have q244 : x4_2 < (l0_1.length : Int) := of_decide_eq_true (by first | (with_reducible assumption) | assumption)
            obtain ⟨ad244, e244, hx244_0, hx244_1⟩ := at_T43 HR0_1.out x4_2 p244 q244
            cases e244
            replace hx244_0 := (HB.out.cell (World.block_lt_of_cell? w _ hx244_0)).trans hx244_0
            replace hx244_1 := (HB.out.cell (World.block_lt_of_cell? w _ hx244_1)).trans hx244_1
            replace p244 := eq_true p244
            replace q244 := eq_true q244
            go_wp2_with (first | ((with_reducible refine gate_dst (N := 5) rfl ?_); (try (refine gate_guard (by rfl) ?_; dsimp only)); refine box_event ?hg (N := 5) ?hd (cs := #[.int .i64 0, .int .i64 0]) (t := 43) ?hr ?_; (case hd => rfl); (case hg => rfl); (case hr => first | (go_simp; done) | (go_simp; rfl)); intro gb245 hg w30 hbox hb; have n0_ := Aside0.mk (Zv BK242 hb); have n1_ := Aside0.mk (Yv HB hb); have n2_ := Aside0.mk (hbox); have n3_ := Aside0.mk (Yg HB hg); have n4_ := Aside0.mk (Yg HB hg); have n5_ := Aside0.mk (Zl BK242 hg); have n6_ := Aside0.mk (Zg BK242 hg); clear BK242; clear HB; have BK242 := n0_; have HB := n1_; have BK245 := n2_; have GW245 := n3_; have GE245 := n4_; have NB242_245 := n5_; have NB245_242 := n6_; clear n0_ n1_ n2_ n3_ n4_ n5_ n6_; clear hb hbox hg; obtain ⟨hnb31, hnc31⟩ := Zo NB245_242; obtain ⟨⟨hcz32_0, hcz32_1⟩, hfz32_0, hfz32_1⟩ := Zk2 BK245))
            go_ret
            exact ⟨by first | rfl | (simp [errW_none, errW_some] <;> rfl) | (simp [*, errW_none, errW_some] <;> rfl), Yr HB⟩
           ·
            rw [if_neg c28] at H
            have c28b0 : decide (10000 < ((rd_T43 l0_1 x4_2).f1)) = false := decide_eq_false c28
            clear c28
            have H' := Aside0.mk H
            clear H
            obtain ⟨⟨hcz33_0, hcz33_1⟩, hfz33_0, hfz33_1⟩ := Zk2 BK242
            have p244 : 0 ≤ (x4_2 : Int) := of_decide_eq_true (by first | (with_reducible assumption) | assumption)
            have q244 : x4_2 < (l0_1.length : Int) := of_decide_eq_true (by first | (with_reducible assumption) | assumption)
            obtain ⟨ad244, e244, hx244_0, hx244_1⟩ := at_T43 HR0_1.out x4_2 p244 q244
            cases e244
            replace hx244_0 := (HB.out.cell (World.block_lt_of_cell? w _ hx244_0)).trans hx244_0
            replace hx244_1 := (HB.out.cell (World.block_lt_of_cell? w _ hx244_1)).trans hx244_1
            replace p244 := eq_true p244
            replace q244 := eq_true q244
            go_wp2_with (first | ((with_reducible refine gate_dst (N := 5) rfl ?_); (try (refine gate_guard (by rfl) ?_; dsimp only)); refine box_event ?hg (N := 5) ?hd (cs := #[.int .i64 0, .int .i64 0]) (t := 43) ?hr ?_; (case hd => rfl); (case hg => rfl); (case hr => first | (go_simp; done) | (go_simp; rfl)); intro gb245 hg w34 hbox hb; have n0_ := Aside0.mk (Zv BK242 hb); have n1_ := Aside0.mk (Yv HB hb); have n2_ := Aside0.mk (hbox); have n3_ := Aside0.mk (Yg HB hg); have n4_ := Aside0.mk (Yg HB hg); have n5_ := Aside0.mk (Zl BK242 hg); have n6_ := Aside0.mk (Zg BK242 hg); clear BK242; clear HB; have BK242 := n0_; have HB := n1_; have BK245 := n2_; have GW245 := n3_; have GE245 := n4_; have NB242_245 := n5_; have NB245_242 := n6_; clear n0_ n1_ n2_ n3_ n4_ n5_ n6_; clear hb hbox hg; obtain ⟨hnb35, hnc35⟩ := Zo NB245_242; obtain ⟨⟨hcz36_0, hcz36_1⟩, hfz36_0, hfz36_1⟩ := Zk2 BK245))
            go_roundg k2
            case measure => have := HJ2.out; have := HK2.out; omega
            case rel => exact ⟨(wrap64 (x4_2 + 1)), (by first | rfl | (simp; done) | (simp [*]; done)), H', ⟨by have := HJ2.out; have := HK2.out; omega⟩, ⟨by (with_reducible repeat first | apply Zn | apply Zd | apply Za); refine Zq ?_ NB242_245.out _; (with_reducible repeat first | apply Zn | apply Zd | apply Za); refine Zq ?_ NB242_245.out _; (with_reducible repeat first | apply Zn | apply Zd | apply Za); exact BK242.out⟩, ⟨Yr HB⟩⟩
       ·
        rw [if_neg c12] at H
        exact absurd H (by simp)
      ·
       rw [if_neg c11] at H
       have c11b0 : decide (x4_2 < (l0_1.length : Int)) = false := decide_eq_false c11
       clear c11
       obtain rfl := Option.some.inj H
       obtain ⟨⟨hcz37_0, hcz37_1⟩, hfz37_0, hfz37_1⟩ := Zk2 BK242
       go_wp2
       go_ret
       exact ⟨by first | rfl | (simp [errW_none, errW_some] <;> rfl) | (simp [*, errW_none, errW_some] <;> rfl), Yr HB⟩

end Go.Proofs.Ytnmlnngmfagmfaa.Print
