-- Printed out of the translation by a program of this session's own. Not trusted: Lean checks it.
import Derived.Test.YthdjeekfnlagmaaPrint0
import Derived.Test.YthdjeekfnlagmaaPrint2
import Derived.Test.YthdjeekfnlagmaaPrint3
import Derived.Test.YthdjeekfnlagmaaPrint4
import Derived.Test.YthdjeekfnlagmaaPrint5
import Derived.Test.YthdjeekfnlagmaaHPackReadNum
namespace Go.Proofs.Ythdjeekfnlagmaa.Print
open Go.RowKit Go.Proofs.YthdjeekfnlagmaaW.PrintWords Go.Proofs.YthdjeekfnlagmaaW.PrintLast Go.Proofs.YthdjeekfnlagmaaW.PrintMore Go.Proofs.YthdjeekfnlagmaaX
attribute [local go_sem] max2_int min2_int max_two min_two max_three min_three max_four min_four   -- for this text's walks alone
set_option linter.unusedVariables false
set_option linter.unusedSimpArgs false

/-! ### palinodelaw01_PackNumbers: function 3 -/
def palinodelaw01_PackNumbers.f (k : Nat) (a0 : Int) (a1 : ByteArray) : Option (Bool) := (palinodelaw01_examples.f k).bind fun t218 => ((pack_Num.f k a0).bind fun bt219 => ((palinoderef01_Num.f k a0).bind fun bt221 => ((pack_ReadNum.f a1).bind fun bt223 => ((palinoderef01_ReadNum.f k a1).bind fun bt226 => (if t218 = true then (if bt219.1.toList = bt221.1.toList then (if bt221.2 = true then (if bt219.2.isNone = true then (if bt223.1 = bt226.1 then (if bt223.2.1.toList = bt226.2.1.toList then ((palinodelaw01_is.f bt223.2.2 bt226.2.2).bind fun t230 => (some t230)) else (some false)) else (some false)) else (some false)) else ((palinodelaw01_is.f bt219.2 1).bind fun t231 => (if t231 = true then (if bt223.1 = bt226.1 then (if bt223.2.1.toList = bt226.2.1.toList then ((palinodelaw01_is.f bt223.2.2 bt226.2.2).bind fun t232 => (some t232)) else (some false)) else (some false)) else (some false)))) else (some false)) else (some false))))))
theorem palinodelaw01_PackNumbers.mono : ∀ a0 a1 k, LeO (palinodelaw01_PackNumbers.f k a0 a1) (palinodelaw01_PackNumbers.f (k + 1) a0 a1) := by
 intro a0 a1 k
 unfold palinodelaw01_PackNumbers.f
 repeat' first
   | (with_reducible exact pack_Num.mono _ _)
   | (with_reducible exact palinodelaw01_examples.mono _)
   | (with_reducible exact palinoderef01_Num.mono _ _)
   | (with_reducible exact palinoderef01_ReadNum.mono _ _)
   | (with_reducible exact LeO.refl _)
   | (with_reducible exact LeO.none _)
   | (with_reducible refine LeO.ite ?_ ?_)
   | (with_reducible refine LeO.bind ?_ (fun _ => ?_))
   | exact pack_Num.mono _ _
   | exact palinodelaw01_examples.mono _
   | exact palinoderef01_Num.mono _ _
   | exact palinoderef01_ReadNum.mono _ _
   | exact LeO.none _
   | refine LeO.ite ?_ ?_
   | refine LeO.bind ?_ (fun _ => ?_)
set_option maxHeartbeats 8000000 in
set_option maxRecDepth 100000 in
theorem palinodelaw01_PackNumbers.calls (k : Nat) (a0 : Int) (a1 : ByteArray) (r : Bool) (w : World) (h : palinodelaw01_PackNumbers.f k a0 a1 = some r) (HEX_ : Aside0 (∀ k_ r_, palinodelaw01_examples.f k_ = some r_ → r_ = true)) (HRT_ : Aside0 (r = true) := by first | exact ⟨rfl⟩ | assumption) :
  Calls Try.prog 3 #[.int .i64 a0, .string a1] w fun e w' => e = .returned (.bool r) ∧ Below w.heap.size w w' := by
 have hu24 := Try.underlying24
 have hu54 := Try.underlying54
 have HB := Aside0.mk (Below.refl w.heap.size w)
 have H : ((palinodelaw01_examples.f k).bind fun t218 => ((pack_Num.f k a0).bind fun bt219 => ((palinoderef01_Num.f k a0).bind fun bt221 => ((pack_ReadNum.f a1).bind fun bt223 => ((palinoderef01_ReadNum.f k a1).bind fun bt226 => (if t218 = true then (if bt219.1.toList = bt221.1.toList then (if bt221.2 = true then (if bt219.2.isNone = true then (if bt223.1 = bt226.1 then (if bt223.2.1.toList = bt226.2.1.toList then ((palinodelaw01_is.f bt223.2.2 bt226.2.2).bind fun t230 => (some t230)) else (some false)) else (some false)) else (some false)) else ((palinodelaw01_is.f bt219.2 1).bind fun t231 => (if t231 = true then (if bt223.1 = bt226.1 then (if bt223.2.1.toList = bt226.2.1.toList then ((palinodelaw01_is.f bt223.2.2 bt226.2.2).bind fun t232 => (some t232)) else (some false)) else (some false)) else (some false)))) else (some false)) else (some false))))))) = some r := h
 clear h
 replace H := Option.bind_eq_some_iff.mp H
 obtain ⟨t218, A30, H⟩ := H
 replace H : ((pack_Num.f k a0).bind fun bt219 => ((palinoderef01_Num.f k a0).bind fun bt221 => ((pack_ReadNum.f a1).bind fun bt223 => ((palinoderef01_ReadNum.f k a1).bind fun bt226 => (if t218 = true then (if bt219.1.toList = bt221.1.toList then (if bt221.2 = true then (if bt219.2.isNone = true then (if bt223.1 = bt226.1 then (if bt223.2.1.toList = bt226.2.1.toList then ((palinodelaw01_is.f bt223.2.2 bt226.2.2).bind fun t230 => (some t230)) else (some false)) else (some false)) else (some false)) else ((palinodelaw01_is.f bt219.2 1).bind fun t231 => (if t231 = true then (if bt223.1 = bt226.1 then (if bt223.2.1.toList = bt226.2.1.toList then ((palinodelaw01_is.f bt223.2.2 bt226.2.2).bind fun t232 => (some t232)) else (some false)) else (some false)) else (some false)))) else (some false)) else (some false)))))) = some r := H
 have A3 := Aside0.mk A30
 have HTA3_ : Aside0 (t218 = true) := ⟨HEX_.out _ _ A30⟩
 clear A30
 replace H := Option.bind_eq_some_iff.mp H
 obtain ⟨⟨t219, t220⟩, A40, H⟩ := H
 replace H : ((palinoderef01_Num.f k a0).bind fun bt221 => ((pack_ReadNum.f a1).bind fun bt223 => ((palinoderef01_ReadNum.f k a1).bind fun bt226 => (if t218 = true then (if t219.toList = bt221.1.toList then (if bt221.2 = true then (if t220.isNone = true then (if bt223.1 = bt226.1 then (if bt223.2.1.toList = bt226.2.1.toList then ((palinodelaw01_is.f bt223.2.2 bt226.2.2).bind fun t230 => (some t230)) else (some false)) else (some false)) else (some false)) else ((palinodelaw01_is.f t220 1).bind fun t231 => (if t231 = true then (if bt223.1 = bt226.1 then (if bt223.2.1.toList = bt226.2.1.toList then ((palinodelaw01_is.f bt223.2.2 bt226.2.2).bind fun t232 => (some t232)) else (some false)) else (some false)) else (some false)))) else (some false)) else (some false))))) = some r := H
 have A4 := Aside0.mk A40
 clear A40
 replace H := Option.bind_eq_some_iff.mp H
 obtain ⟨⟨t221, t222⟩, A50, H⟩ := H
 replace H : ((pack_ReadNum.f a1).bind fun bt223 => ((palinoderef01_ReadNum.f k a1).bind fun bt226 => (if t218 = true then (if t219.toList = t221.toList then (if t222 = true then (if t220.isNone = true then (if bt223.1 = bt226.1 then (if bt223.2.1.toList = bt226.2.1.toList then ((palinodelaw01_is.f bt223.2.2 bt226.2.2).bind fun t230 => (some t230)) else (some false)) else (some false)) else (some false)) else ((palinodelaw01_is.f t220 1).bind fun t231 => (if t231 = true then (if bt223.1 = bt226.1 then (if bt223.2.1.toList = bt226.2.1.toList then ((palinodelaw01_is.f bt223.2.2 bt226.2.2).bind fun t232 => (some t232)) else (some false)) else (some false)) else (some false)))) else (some false)) else (some false)))) = some r := H
 have A5 := Aside0.mk A50
 clear A50
 replace H := Option.bind_eq_some_iff.mp H
 obtain ⟨⟨t223, t224, t225⟩, A60, H⟩ := H
 replace H : ((palinoderef01_ReadNum.f k a1).bind fun bt226 => (if t218 = true then (if t219.toList = t221.toList then (if t222 = true then (if t220.isNone = true then (if t223 = bt226.1 then (if t224.toList = bt226.2.1.toList then ((palinodelaw01_is.f t225 bt226.2.2).bind fun t230 => (some t230)) else (some false)) else (some false)) else (some false)) else ((palinodelaw01_is.f t220 1).bind fun t231 => (if t231 = true then (if t223 = bt226.1 then (if t224.toList = bt226.2.1.toList then ((palinodelaw01_is.f t225 bt226.2.2).bind fun t232 => (some t232)) else (some false)) else (some false)) else (some false)))) else (some false)) else (some false))) = some r := H
 have A6 := Aside0.mk A60
 clear A60
 replace H := Option.bind_eq_some_iff.mp H
 obtain ⟨⟨t226, t227, t228⟩, A70, H⟩ := H
 replace H : (if t218 = true then (if t219.toList = t221.toList then (if t222 = true then (if t220.isNone = true then (if t223 = t226 then (if t224.toList = t227.toList then ((palinodelaw01_is.f t225 t228).bind fun t230 => (some t230)) else (some false)) else (some false)) else (some false)) else ((palinodelaw01_is.f t220 1).bind fun t231 => (if t231 = true then (if t223 = t226 then (if t224.toList = t227.toList then ((palinodelaw01_is.f t225 t228).bind fun t232 => (some t232)) else (some false)) else (some false)) else (some false)))) else (some false)) else (some false)) = some r := H
 have A7 := Aside0.mk A70
 clear A70
 by_cases c8 : t218 = true
 ·
  subst c8
  have H1 : (if t219.toList = t221.toList then (if t222 = true then (if t220.isNone = true then (if t223 = t226 then (if t224.toList = t227.toList then ((palinodelaw01_is.f t225 t228).bind fun t230 => (some t230)) else (some false)) else (some false)) else (some false)) else ((palinodelaw01_is.f t220 1).bind fun t231 => (if t231 = true then (if t223 = t226 then (if t224.toList = t227.toList then ((palinodelaw01_is.f t225 t228).bind fun t232 => (some t232)) else (some false)) else (some false)) else (some false)))) else (some false)) = some r := by rw [if_pos rfl] at H; exact H
  clear H
  have H := H1
  clear H1
  by_cases c9 : t219.toList = t221.toList
  ·
   rw [if_pos c9] at H
   have c9b0 : (t219.toList == t221.toList) = true := beq_iff_eq.mpr c9
   have c9b1 : (t219.toList != t221.toList) = false := bne_eq_false_iff_eq.mpr c9
   clear c9
   by_cases c10 : t222 = true
   ·
    subst c10
    have H1 : (if t220.isNone = true then (if t223 = t226 then (if t224.toList = t227.toList then ((palinodelaw01_is.f t225 t228).bind fun t230 => (some t230)) else (some false)) else (some false)) else (some false)) = some r := by rw [if_pos rfl] at H; exact H
    clear H
    have H := H1
    clear H1
    rcases t220 with _ | q229
    ·
     have H1 : (if t223 = t226 then (if t224.toList = t227.toList then ((palinodelaw01_is.f t225 t228).bind fun t230 => (some t230)) else (some false)) else (some false)) = some r := by rw [if_pos (show (none : Option Int).isNone = true by rfl)] at H; exact H
     clear H
     have H := H1
     clear H1
     try simp only [errW_none, errW_some]
     by_cases c11 : t223 = t226
     ·
      rw [if_pos c11] at H
      have c11b0 : (t223 == t226) = true := beq_iff_eq.mpr c11
      have c11b1 : (t223 != t226) = false := bne_eq_false_iff_eq.mpr c11
      clear c11
      by_cases c12 : t224.toList = t227.toList
      ·
       rw [if_pos c12] at H
       have c12b0 : (t224.toList == t227.toList) = true := beq_iff_eq.mpr c12
       have c12b1 : (t224.toList != t227.toList) = false := bne_eq_false_iff_eq.mpr c12
       clear c12
       replace H := Option.bind_eq_some_iff.mp H
       obtain ⟨t230, A130, H⟩ := H
       replace H : (some t230) = some r := H
       have A13 := Aside0.mk A130
       clear A130
       obtain rfl := Option.some.inj H
       go_enter Try.func3, Try.ntmps3
       go_wp2_with (first | ((with_reducible refine gate_callee (f := 10) rfl ?_); refine goesL_ (some 16) rfl rfl Try.func10 (by kernel_rfl) rfl #[] rfl (by (try simp only [List.map_toArray, List.map_cons, List.map_nil]); first | done | rfl | (simp only [List.length_drop, List.length_take]; rfl)) ?_; (with_reducible refine (palinodelaw01_examples.calls k  true _ A3.out).mono ?_); rintro e w14 ⟨rfl, hb⟩; refine ⟨_, rfl, ?_⟩; have n0_ := Aside0.mk (Yv HB hb); clear HB; have HB := n0_; clear n0_; (try clear hb); (try clear hb2); (try clear hk); (try clear hi)) | ((with_reducible refine gate_callee (f := 11) rfl ?_); refine goesL_ (some 19) rfl rfl Try.func11 (by kernel_rfl) rfl #[.int .i64 a0] rfl (by (try simp only [List.map_toArray, List.map_cons, List.map_nil]); first | done | rfl | (simp only [List.length_drop, List.length_take]; rfl)) ?_; (with_reducible refine (pack_Num.calls k a0 t219 none _ A4.out).mono ?_); rintro e w15 ⟨rfl, hb⟩; refine ⟨_, rfl, ?_⟩; have n0_ := Aside0.mk (Yv HB hb); clear HB; have HB := n0_; clear n0_; (try clear hb); (try clear hb2); (try clear hk); (try clear hi); (try simp only [errW_none, errW_some])) | ((with_reducible refine gate_callee (f := 12) rfl ?_); refine goesL_ (some 24) rfl rfl Try.func12 (by kernel_rfl) rfl #[.int .i64 a0] rfl (by (try simp only [List.map_toArray, List.map_cons, List.map_nil]); first | done | rfl | (simp only [List.length_drop, List.length_take]; rfl)) ?_; (with_reducible refine (palinoderef01_Num.calls k a0 t221 true _ A5.out).mono ?_); rintro e w16 ⟨rfl, hb⟩; refine ⟨_, rfl, ?_⟩; have n0_ := Aside0.mk (Yv HB hb); clear HB; have HB := n0_; clear n0_; (try clear hb); (try clear hb2); (try clear hk); (try clear hi)) | ((with_reducible refine gate_callee (f := 13) rfl ?_); refine goesL_ (some 29) rfl rfl Try.func13 (by kernel_rfl) rfl #[.string a1] rfl (by (try simp only [List.map_toArray, List.map_cons, List.map_nil]); first | done | rfl | (simp only [List.length_drop, List.length_take]; rfl)) ?_; (with_reducible refine (pack_ReadNum.calls a1 t223 t224 t225 _ A6.out).mono ?_); rintro e w17 ⟨rfl, hb⟩; refine ⟨_, rfl, ?_⟩; have n0_ := Aside0.mk (Yv HB hb); clear HB; have HB := n0_; clear n0_; (try clear hb); (try clear hb2); (try clear hk); (try clear hi); (try simp only [errW_none, errW_some])) | ((with_reducible refine gate_callee (f := 14) rfl ?_); refine goesL_ (some 35) rfl rfl Try.func14 (by kernel_rfl) rfl #[.string a1] rfl (by (try simp only [List.map_toArray, List.map_cons, List.map_nil]); first | done | rfl | (simp only [List.length_drop, List.length_take]; rfl)) ?_; (with_reducible refine (palinoderef01_ReadNum.calls k a1 t226 t227 t228 _ A7.out).mono ?_); rintro e w' ⟨rfl, ⟨nd, rfl⟩⟩; refine ⟨_, rfl, ?_⟩; have CA13 := fun W => palinodelaw01_is.calls t225 t228 t230 W A13.out; try simp only [errW_none, errW_some] at CA13) | (go_at_call 15; (with_reducible refine (CA13 _).mono ?_); rintro e w' ⟨rfl, ⟨nd, rfl⟩⟩))
       go_ret
       exact ⟨by first | rfl | (simp [errW_none, errW_some] <;> rfl) | (simp [*, errW_none, errW_some] <;> rfl), Yr HB⟩
      ·
       rw [if_neg c12] at H
       have c12b0 : (t224.toList == t227.toList) = false := beq_eq_false_iff_ne.mpr c12
       have c12b1 : (t224.toList != t227.toList) = true := bne_iff_ne.mpr c12
       exact absurd ((Option.some.inj H).trans HRT_.out) (by decide)
     ·
      rw [if_neg c11] at H
      have c11b0 : (t223 == t226) = false := beq_eq_false_iff_ne.mpr c11
      have c11b1 : (t223 != t226) = true := bne_iff_ne.mpr c11
      exact absurd ((Option.some.inj H).trans HRT_.out) (by decide)
    ·
     have H1 : (some false) = some r := by rw [if_neg (show ¬ (some q229).isNone = true by simp)] at H; exact H
     clear H
     have H := H1
     clear H1
     try simp only [errW_none, errW_some]
     exact absurd ((Option.some.inj H).trans HRT_.out) (by decide)
   ·
    replace c10 := Bool.eq_false_iff.mpr c10
    subst c10
    have H1 : ((palinodelaw01_is.f t220 1).bind fun t231 => (if t231 = true then (if t223 = t226 then (if t224.toList = t227.toList then ((palinodelaw01_is.f t225 t228).bind fun t232 => (some t232)) else (some false)) else (some false)) else (some false))) = some r := by rw [if_neg (show ¬ (false = true) by decide)] at H; exact H
    clear H
    have H := H1
    clear H1
    replace H := Option.bind_eq_some_iff.mp H
    obtain ⟨t231, A180, H⟩ := H
    replace H : (if t231 = true then (if t223 = t226 then (if t224.toList = t227.toList then ((palinodelaw01_is.f t225 t228).bind fun t232 => (some t232)) else (some false)) else (some false)) else (some false)) = some r := H
    have A18 := Aside0.mk A180
    clear A180
    by_cases c19 : t231 = true
    ·
     subst c19
     have H1 : (if t223 = t226 then (if t224.toList = t227.toList then ((palinodelaw01_is.f t225 t228).bind fun t232 => (some t232)) else (some false)) else (some false)) = some r := by rw [if_pos rfl] at H; exact H
     clear H
     have H := H1
     clear H1
     by_cases c20 : t223 = t226
     ·
      rw [if_pos c20] at H
      have c20b0 : (t223 == t226) = true := beq_iff_eq.mpr c20
      have c20b1 : (t223 != t226) = false := bne_eq_false_iff_eq.mpr c20
      clear c20
      by_cases c21 : t224.toList = t227.toList
      ·
       rw [if_pos c21] at H
       have c21b0 : (t224.toList == t227.toList) = true := beq_iff_eq.mpr c21
       have c21b1 : (t224.toList != t227.toList) = false := bne_eq_false_iff_eq.mpr c21
       clear c21
       replace H := Option.bind_eq_some_iff.mp H
       obtain ⟨t232, A220, H⟩ := H
       replace H : (some t232) = some r := H
       have A22 := Aside0.mk A220
       clear A220
       obtain rfl := Option.some.inj H
       go_enter Try.func3, Try.ntmps3
       go_wp2_with (first | ((with_reducible refine gate_callee (f := 10) rfl ?_); refine goesL_ (some 16) rfl rfl Try.func10 (by kernel_rfl) rfl #[] rfl (by (try simp only [List.map_toArray, List.map_cons, List.map_nil]); first | done | rfl | (simp only [List.length_drop, List.length_take]; rfl)) ?_; (with_reducible refine (palinodelaw01_examples.calls k  true _ A3.out).mono ?_); rintro e w23 ⟨rfl, hb⟩; refine ⟨_, rfl, ?_⟩; have n0_ := Aside0.mk (Yv HB hb); clear HB; have HB := n0_; clear n0_; (try clear hb); (try clear hb2); (try clear hk); (try clear hi)) | ((with_reducible refine gate_callee (f := 11) rfl ?_); refine goesL_ (some 19) rfl rfl Try.func11 (by kernel_rfl) rfl #[.int .i64 a0] rfl (by (try simp only [List.map_toArray, List.map_cons, List.map_nil]); first | done | rfl | (simp only [List.length_drop, List.length_take]; rfl)) ?_; (with_reducible refine (pack_Num.calls k a0 t219 t220 _ A4.out).mono ?_); rintro e w24 ⟨rfl, hb⟩; refine ⟨_, rfl, ?_⟩; have n0_ := Aside0.mk (Yv HB hb); clear HB; have HB := n0_; clear n0_; (try clear hb); (try clear hb2); (try clear hk); (try clear hi); (try simp only [errW_none, errW_some])) | ((with_reducible refine gate_callee (f := 12) rfl ?_); refine goesL_ (some 24) rfl rfl Try.func12 (by kernel_rfl) rfl #[.int .i64 a0] rfl (by (try simp only [List.map_toArray, List.map_cons, List.map_nil]); first | done | rfl | (simp only [List.length_drop, List.length_take]; rfl)) ?_; (with_reducible refine (palinoderef01_Num.calls k a0 t221 false _ A5.out).mono ?_); rintro e w25 ⟨rfl, hb⟩; refine ⟨_, rfl, ?_⟩; have n0_ := Aside0.mk (Yv HB hb); clear HB; have HB := n0_; clear n0_; (try clear hb); (try clear hb2); (try clear hk); (try clear hi)) | ((with_reducible refine gate_callee (f := 13) rfl ?_); refine goesL_ (some 29) rfl rfl Try.func13 (by kernel_rfl) rfl #[.string a1] rfl (by (try simp only [List.map_toArray, List.map_cons, List.map_nil]); first | done | rfl | (simp only [List.length_drop, List.length_take]; rfl)) ?_; (with_reducible refine (pack_ReadNum.calls a1 t223 t224 t225 _ A6.out).mono ?_); rintro e w26 ⟨rfl, hb⟩; refine ⟨_, rfl, ?_⟩; have n0_ := Aside0.mk (Yv HB hb); clear HB; have HB := n0_; clear n0_; (try clear hb); (try clear hb2); (try clear hk); (try clear hi); (try simp only [errW_none, errW_some])) | ((with_reducible refine gate_callee (f := 14) rfl ?_); refine goesL_ (some 35) rfl rfl Try.func14 (by kernel_rfl) rfl #[.string a1] rfl (by (try simp only [List.map_toArray, List.map_cons, List.map_nil]); first | done | rfl | (simp only [List.length_drop, List.length_take]; rfl)) ?_; (with_reducible refine (palinoderef01_ReadNum.calls k a1 t226 t227 t228 _ A7.out).mono ?_); rintro e w' ⟨rfl, ⟨nd, rfl⟩⟩; refine ⟨_, rfl, ?_⟩; have CA18 := fun W => palinodelaw01_is.calls t220 1 true W A18.out; try simp only [errW_none, errW_some] at CA18) | (go_at_call 15; (with_reducible refine (CA18 _).mono ?_); rintro e w' ⟨rfl, ⟨nd, rfl⟩⟩; have CA22 := fun W => palinodelaw01_is.calls t225 t228 t232 W A22.out; try simp only [errW_none, errW_some] at CA22) | (go_at_call 15; (with_reducible refine (CA22 _).mono ?_); rintro e w' ⟨rfl, ⟨nd, rfl⟩⟩))
       go_ret
       exact ⟨by first | rfl | (simp [errW_none, errW_some] <;> rfl) | (simp [*, errW_none, errW_some] <;> rfl), Yr HB⟩
      ·
       rw [if_neg c21] at H
       have c21b0 : (t224.toList == t227.toList) = false := beq_eq_false_iff_ne.mpr c21
       have c21b1 : (t224.toList != t227.toList) = true := bne_iff_ne.mpr c21
       exact absurd ((Option.some.inj H).trans HRT_.out) (by decide)
     ·
      rw [if_neg c20] at H
      have c20b0 : (t223 == t226) = false := beq_eq_false_iff_ne.mpr c20
      have c20b1 : (t223 != t226) = true := bne_iff_ne.mpr c20
      exact absurd ((Option.some.inj H).trans HRT_.out) (by decide)
    ·
     replace c19 := Bool.eq_false_iff.mpr c19
     subst c19
     have H1 : (some false) = some r := by rw [if_neg (show ¬ (false = true) by decide)] at H; exact H
     clear H
     have H := H1
     clear H1
     exact absurd ((Option.some.inj H).trans HRT_.out) (by decide)
  ·
   rw [if_neg c9] at H
   have c9b0 : (t219.toList == t221.toList) = false := beq_eq_false_iff_ne.mpr c9
   have c9b1 : (t219.toList != t221.toList) = true := bne_iff_ne.mpr c9
   exact absurd ((Option.some.inj H).trans HRT_.out) (by decide)
 ·
  replace c8 := Bool.eq_false_iff.mpr c8
  subst c8
  have H1 : (some false) = some r := by rw [if_neg (show ¬ (false = true) by decide)] at H; exact H
  clear H
  have H := H1
  clear H1
  exact absurd ((Option.some.inj H).trans HRT_.out) (by decide)

/-- THE ONE PURE STATEMENT of palinodelaw01_PackNumbers. -/
def palinodelaw01_PackNumbers.Pure : Prop := (∀ k_ r_, palinodelaw01_examples.f k_ = some r_ → r_ = true) ∧ ∀ (a0 : Int) (a1 : ByteArray), (Lit.int .i64 a0).wf = true → a1.size ≤ 140737488351232 → ∃ k, palinodelaw01_PackNumbers.f k a0 a1 = some true
theorem palinodelaw01_PackNumbers.walk (P : palinodelaw01_PackNumbers.Pure) (a0 : Int) (a1 : ByteArray) (w : World) (v0 : (Lit.int .i64 a0).wf = true) (v1 : a1.size ≤ 140737488351232) :
  Calls Try.prog 3 #[.int .i64 a0, .string a1] w fun e w' => e = .returned (.bool true) ∧ Below w.heap.size w w' := by
 obtain ⟨k, h⟩ := P.2 a0 a1 v0 v1
 refine (palinodelaw01_PackNumbers.calls k a0 a1 true w  h ⟨P.1⟩).mono ?_
 rintro e w' ⟨rfl, hd⟩
 exact ⟨rfl, hd⟩

/-! ### palinoderef01_Text: function 17 -/
def palinoderef01_Text.f (k : Nat) (a0 : ByteArray) : Option (ByteArray × Bool) := if (a0.size : Int) > 1048576 then (some ((⟨#[]⟩ : ByteArray), false)) else ((palinoderef01_Num.f k (a0.size : Int)).bind fun bt233 => (if bt233.1.size + a0.size ≤ 9223372036854775807 then (some (bt233.1 ++ a0, true)) else (none)))
theorem palinoderef01_Text.mono : ∀ a0 k, LeO (palinoderef01_Text.f k a0) (palinoderef01_Text.f (k + 1) a0) := by
 intro a0 k
 unfold palinoderef01_Text.f
 repeat' first
   | (with_reducible exact palinoderef01_Num.mono _ _)
   | (with_reducible exact LeO.refl _)
   | (with_reducible exact LeO.none _)
   | (with_reducible refine LeO.ite ?_ ?_)
   | (with_reducible refine LeO.bind ?_ (fun _ => ?_))
   | exact palinoderef01_Num.mono _ _
   | exact LeO.none _
   | refine LeO.ite ?_ ?_
   | refine LeO.bind ?_ (fun _ => ?_)
set_option maxHeartbeats 8000000 in
set_option maxRecDepth 100000 in
theorem palinoderef01_Text.calls (k : Nat) (a0 : ByteArray) (r1 : ByteArray) (r2 : Bool) (w : World) (h : palinoderef01_Text.f k a0 = some (r1, r2)) :
  Calls Try.prog 17 #[.string a0] w fun e w' => e = .returned (.tuple #[.string r1, .bool r2]) ∧ Below w.heap.size w w' := by
 have HB := Aside0.mk (Below.refl w.heap.size w)
 have H : (if (a0.size : Int) > 1048576 then (some ((⟨#[]⟩ : ByteArray), false)) else ((palinoderef01_Num.f k (a0.size : Int)).bind fun bt233 => (if bt233.1.size + a0.size ≤ 9223372036854775807 then (some (bt233.1 ++ a0, true)) else (none)))) = some (r1, r2) := h
 clear h
 by_cases c2 : (a0.size : Int) > 1048576
 ·
  rw [if_pos c2] at H
  have c2b0 : decide (1048576 < (a0.size : Int)) = true := decide_eq_true c2
  have c2b1 : decide (1048576 < a0.size) = true := decide_eq_true (by omega)
  clear c2
  simp only [Option.some.injEq, Prod.mk.injEq] at H
  obtain ⟨rfl, rfl⟩ := H
  go_enter Try.func17, Try.ntmps17
  go_wp2
  go_ret2
  exact ⟨by first | rfl | (simp [errW_none, errW_some] <;> rfl) | (simp [*, errW_none, errW_some] <;> rfl), Yr HB⟩
 ·
  rw [if_neg c2] at H
  have c2b0 : decide (1048576 < (a0.size : Int)) = false := decide_eq_false c2
  have c2b1 : decide (1048576 < a0.size) = false := decide_eq_false (by omega)
  clear c2
  replace H := Option.bind_eq_some_iff.mp H
  obtain ⟨⟨t233, t234⟩, A30, H⟩ := H
  replace H : (if t233.size + a0.size ≤ 9223372036854775807 then (some (t233 ++ a0, true)) else (none)) = some (r1, r2) := H
  have A3 := Aside0.mk A30
  clear A30
  by_cases c4 : t233.size + a0.size ≤ 9223372036854775807
  ·
   rw [if_pos c4] at H
   have c4b0 := eq_true c4
   have c4b1 : decide (t233.size + a0.size ≤ 9223372036854775807) = true := decide_eq_true c4
   try have c4b2 : (9223372036854775807 < t233.size + a0.size) = False := eq_false (Nat.not_lt.2 c4)
   simp only [Option.some.injEq, Prod.mk.injEq] at H
   obtain ⟨rfl, rfl⟩ := H
   go_enter Try.func17, Try.ntmps17
   go_wp2_with (first | ((with_reducible refine gate_callee (f := 12) rfl ?_); refine goesL_ (some 12) rfl rfl Try.func12 (by kernel_rfl) rfl #[.int .i64 (a0.size : Int)] rfl (by (try simp only [List.map_toArray, List.map_cons, List.map_nil]); first | done | rfl | (simp only [List.length_drop, List.length_take]; rfl)) ?_; (with_reducible refine (palinoderef01_Num.calls k (a0.size : Int) t233 t234 _ A3.out).mono ?_); rintro e w5 ⟨rfl, hb⟩; refine ⟨_, rfl, ?_⟩; have n0_ := Aside0.mk (Yv HB hb); clear HB; have HB := n0_; clear n0_; (try clear hb); (try clear hb2); (try clear hk); (try clear hi)))
   go_ret2
   exact ⟨by first | rfl | (simp [errW_none, errW_some] <;> rfl) | (simp [*, errW_none, errW_some] <;> rfl), Yr HB⟩
  ·
   rw [if_neg c4] at H
   exact absurd H (by simp)

/-! ### pack_ReadText: function 18 -/
def pack_ReadText.f (a0 : ByteArray) : Option (ByteArray × ByteArray × Option Int) := (pack_ReadNum.f a0).bind fun bt235 => (if bt235.2.2.isNone = true then (if bt235.1 > 1048576 then (some ((⟨#[]⟩ : ByteArray), (⟨#[]⟩ : ByteArray), some 5)) else (if (bt235.2.1.size : Int) < bt235.1 then (some ((⟨#[]⟩ : ByteArray), (⟨#[]⟩ : ByteArray), some 2)) else (if 0 ≤ bt235.1 then (if bt235.1 ≤ (bt235.2.1.size : Int) then (some (bt235.2.1.extract 0 (bt235.1 : Int).toNat, bt235.2.1.extract (bt235.1 : Int).toNat bt235.2.1.size, none)) else (none)) else (none)))) else (some ((⟨#[]⟩ : ByteArray), (⟨#[]⟩ : ByteArray), some (bt235.2.2.getD 0))))
set_option maxHeartbeats 8000000 in
set_option maxRecDepth 100000 in
theorem pack_ReadText.calls (a0 : ByteArray) (r1 : ByteArray) (r2 : ByteArray) (r3 : Option Int) (w : World) (h : pack_ReadText.f a0 = some (r1, r2, r3)) :
  Calls Try.prog 18 #[.string a0] w fun e w' => e = .returned (.tuple #[.string r1, .string r2, errW r3]) ∧ Below w.heap.size w w' := by
 have hu24 := Try.underlying24
 have hu54 := Try.underlying54
 have HB := Aside0.mk (Below.refl w.heap.size w)
 have H : ((pack_ReadNum.f a0).bind fun bt235 => (if bt235.2.2.isNone = true then (if bt235.1 > 1048576 then (some ((⟨#[]⟩ : ByteArray), (⟨#[]⟩ : ByteArray), some 5)) else (if (bt235.2.1.size : Int) < bt235.1 then (some ((⟨#[]⟩ : ByteArray), (⟨#[]⟩ : ByteArray), some 2)) else (if 0 ≤ bt235.1 then (if bt235.1 ≤ (bt235.2.1.size : Int) then (some (bt235.2.1.extract 0 (bt235.1 : Int).toNat, bt235.2.1.extract (bt235.1 : Int).toNat bt235.2.1.size, none)) else (none)) else (none)))) else (some ((⟨#[]⟩ : ByteArray), (⟨#[]⟩ : ByteArray), some (bt235.2.2.getD 0))))) = some (r1, r2, r3) := h
 clear h
 replace H := Option.bind_eq_some_iff.mp H
 obtain ⟨⟨t235, t236, t237⟩, A20, H⟩ := H
 replace H : (if t237.isNone = true then (if t235 > 1048576 then (some ((⟨#[]⟩ : ByteArray), (⟨#[]⟩ : ByteArray), some 5)) else (if (t236.size : Int) < t235 then (some ((⟨#[]⟩ : ByteArray), (⟨#[]⟩ : ByteArray), some 2)) else (if 0 ≤ t235 then (if t235 ≤ (t236.size : Int) then (some (t236.extract 0 (t235 : Int).toNat, t236.extract (t235 : Int).toNat t236.size, none)) else (none)) else (none)))) else (some ((⟨#[]⟩ : ByteArray), (⟨#[]⟩ : ByteArray), some (t237.getD 0)))) = some (r1, r2, r3) := H
 have A2 := Aside0.mk A20
 clear A20
 rcases t237 with _ | q238
 ·
  have H1 : (if t235 > 1048576 then (some ((⟨#[]⟩ : ByteArray), (⟨#[]⟩ : ByteArray), some 5)) else (if (t236.size : Int) < t235 then (some ((⟨#[]⟩ : ByteArray), (⟨#[]⟩ : ByteArray), some 2)) else (if 0 ≤ t235 then (if t235 ≤ (t236.size : Int) then (some (t236.extract 0 (t235 : Int).toNat, t236.extract (t235 : Int).toNat t236.size, none)) else (none)) else (none)))) = some (r1, r2, r3) := by rw [if_pos (show (none : Option Int).isNone = true by rfl)] at H; exact H
  clear H
  have H := H1
  clear H1
  try simp only [errW_none, errW_some]
  by_cases c3 : t235 > 1048576
  ·
   rw [if_pos c3] at H
   have c3b0 : decide (1048576 < t235) = true := decide_eq_true c3
   clear c3
   simp only [Option.some.injEq, Prod.mk.injEq] at H
   obtain ⟨rfl, rfl, rfl⟩ := H
   go_enter Try.func18, Try.ntmps18
   go_wp2_with (first | (go_at_call 13; (with_reducible refine (pack_ReadNum.calls a0 t235 t236 none _ A2.out).mono ?_); rintro e w4 ⟨rfl, hb⟩; have n0_ := Aside0.mk (Yv HB hb); clear HB; have HB := n0_; clear n0_; (try clear hb); (try clear hb2); (try clear hk); (try clear hi); (try simp only [errW_none, errW_some])))
   repeat (go_quiet (first | (go_at_call 13; (with_reducible refine (pack_ReadNum.calls a0 t235 t236 none _ A2.out).mono ?_); rintro e w4 ⟨rfl, hb⟩; have n0_ := Aside0.mk (Yv HB hb); clear HB; have HB := n0_; clear n0_; (try clear hb); (try clear hb2); (try clear hk); (try clear hi); (try simp only [errW_none, errW_some]))); try go_wp2_with (first | (go_at_call 13; (with_reducible refine (pack_ReadNum.calls a0 t235 t236 none _ A2.out).mono ?_); rintro e w4 ⟨rfl, hb⟩; have n0_ := Aside0.mk (Yv HB hb); clear HB; have HB := n0_; clear n0_; (try clear hb); (try clear hb2); (try clear hk); (try clear hi); (try simp only [errW_none, errW_some]))))
   go_ret3
   exact ⟨by first | rfl | (simp [errW_none, errW_some] <;> rfl) | (simp [*, errW_none, errW_some] <;> rfl), Yr HB⟩
  ·
   rw [if_neg c3] at H
   have c3b0 : decide (1048576 < t235) = false := decide_eq_false c3
   clear c3
   by_cases c5 : (t236.size : Int) < t235
   ·
    rw [if_pos c5] at H
    have c5b0 : decide ((t236.size : Int) < t235) = true := decide_eq_true c5
    clear c5
    simp only [Option.some.injEq, Prod.mk.injEq] at H
    obtain ⟨rfl, rfl, rfl⟩ := H
    go_enter Try.func18, Try.ntmps18
    go_wp2_with (first | (go_at_call 13; (with_reducible refine (pack_ReadNum.calls a0 t235 t236 none _ A2.out).mono ?_); rintro e w6 ⟨rfl, hb⟩; have n0_ := Aside0.mk (Yv HB hb); clear HB; have HB := n0_; clear n0_; (try clear hb); (try clear hb2); (try clear hk); (try clear hi); (try simp only [errW_none, errW_some])))
    repeat (go_quiet (first | (go_at_call 13; (with_reducible refine (pack_ReadNum.calls a0 t235 t236 none _ A2.out).mono ?_); rintro e w6 ⟨rfl, hb⟩; have n0_ := Aside0.mk (Yv HB hb); clear HB; have HB := n0_; clear n0_; (try clear hb); (try clear hb2); (try clear hk); (try clear hi); (try simp only [errW_none, errW_some]))); try go_wp2_with (first | (go_at_call 13; (with_reducible refine (pack_ReadNum.calls a0 t235 t236 none _ A2.out).mono ?_); rintro e w6 ⟨rfl, hb⟩; have n0_ := Aside0.mk (Yv HB hb); clear HB; have HB := n0_; clear n0_; (try clear hb); (try clear hb2); (try clear hk); (try clear hi); (try simp only [errW_none, errW_some]))))
    go_ret3
    exact ⟨by first | rfl | (simp [errW_none, errW_some] <;> rfl) | (simp [*, errW_none, errW_some] <;> rfl), Yr HB⟩
   ·
    rw [if_neg c5] at H
    have c5b0 : decide ((t236.size : Int) < t235) = false := decide_eq_false c5
    clear c5
    by_cases c7 : 0 ≤ t235
    ·
     rw [if_pos c7] at H
     have c7b0 := eq_true c7
     have c7b1 : decide (0 ≤ t235) = true := decide_eq_true c7
     clear c7
     by_cases c8 : t235 ≤ (t236.size : Int)
     ·
      rw [if_pos c8] at H
      have c8b0 := eq_true c8
      have c8b1 : decide (t235 ≤ (t236.size : Int)) = true := decide_eq_true c8
      clear c8
      have c9b0 := eq_true (of_decide_eq_true (by first | (with_reducible assumption) | assumption) : 0 ≤ t235)
      have c10b0 := eq_true (of_decide_eq_true (by first | (with_reducible assumption) | assumption) : t235 ≤ (t236.size : Int))
      simp only [Option.some.injEq, Prod.mk.injEq] at H
      obtain ⟨rfl, rfl, rfl⟩ := H
      go_enter Try.func18, Try.ntmps18
      go_wp2_with (first | (go_at_call 13; (with_reducible refine (pack_ReadNum.calls a0 t235 t236 none _ A2.out).mono ?_); rintro e w11 ⟨rfl, hb⟩; have n0_ := Aside0.mk (Yv HB hb); clear HB; have HB := n0_; clear n0_; (try clear hb); (try clear hb2); (try clear hk); (try clear hi); (try simp only [errW_none, errW_some])))
      repeat (go_quiet (first | (go_at_call 13; (with_reducible refine (pack_ReadNum.calls a0 t235 t236 none _ A2.out).mono ?_); rintro e w11 ⟨rfl, hb⟩; have n0_ := Aside0.mk (Yv HB hb); clear HB; have HB := n0_; clear n0_; (try clear hb); (try clear hb2); (try clear hk); (try clear hi); (try simp only [errW_none, errW_some]))); try go_wp2_with (first | (go_at_call 13; (with_reducible refine (pack_ReadNum.calls a0 t235 t236 none _ A2.out).mono ?_); rintro e w11 ⟨rfl, hb⟩; have n0_ := Aside0.mk (Yv HB hb); clear HB; have HB := n0_; clear n0_; (try clear hb); (try clear hb2); (try clear hk); (try clear hi); (try simp only [errW_none, errW_some]))))
      go_ret3
      exact ⟨by first | rfl | (simp [errW_none, errW_some] <;> rfl) | (simp [*, errW_none, errW_some] <;> rfl), Yr HB⟩
     ·
      rw [if_neg c8] at H
      exact absurd H (by simp)
    ·
     rw [if_neg c7] at H
     exact absurd H (by simp)
 ·
  have H1 : (some ((⟨#[]⟩ : ByteArray), (⟨#[]⟩ : ByteArray), some q238)) = some (r1, r2, r3) := by rw [if_neg (show ¬ (some q238).isNone = true by simp)] at H; exact H
  clear H
  have H := H1
  clear H1
  try simp only [errW_none, errW_some]
  simp only [Option.some.injEq, Prod.mk.injEq] at H
  obtain ⟨rfl, rfl, rfl⟩ := H
  go_enter Try.func18, Try.ntmps18
  go_wp2_with (first | (go_at_call 13; (with_reducible refine (pack_ReadNum.calls a0 t235 t236 (some q238) _ A2.out).mono ?_); rintro e w12 ⟨rfl, hb⟩; have n0_ := Aside0.mk (Yv HB hb); clear HB; have HB := n0_; clear n0_; (try clear hb); (try clear hb2); (try clear hk); (try clear hi); (try simp only [errW_none, errW_some])))
  repeat (go_quiet (first | (go_at_call 13; (with_reducible refine (pack_ReadNum.calls a0 t235 t236 (some q238) _ A2.out).mono ?_); rintro e w12 ⟨rfl, hb⟩; have n0_ := Aside0.mk (Yv HB hb); clear HB; have HB := n0_; clear n0_; (try clear hb); (try clear hb2); (try clear hk); (try clear hi); (try simp only [errW_none, errW_some]))); try go_wp2_with (first | (go_at_call 13; (with_reducible refine (pack_ReadNum.calls a0 t235 t236 (some q238) _ A2.out).mono ?_); rintro e w12 ⟨rfl, hb⟩; have n0_ := Aside0.mk (Yv HB hb); clear HB; have HB := n0_; clear n0_; (try clear hb); (try clear hb2); (try clear hk); (try clear hi); (try simp only [errW_none, errW_some]))))
  go_ret3
  exact ⟨by first | rfl | (simp [errW_none, errW_some] <;> rfl) | (simp [*, errW_none, errW_some] <;> rfl), Yr HB⟩

/-! ### palinoderef01_ReadText: function 19 -/
def palinoderef01_ReadText.f (k : Nat) (a0 : ByteArray) : Option (ByteArray × ByteArray × Int) := (palinoderef01_ReadNum.f k a0).bind fun bt239 => (if bt239.2.2 = 0 then (if bt239.1 > 1048576 then (some ((⟨#[]⟩ : ByteArray), (⟨#[]⟩ : ByteArray), 5)) else (if (bt239.2.1.size : Int) < bt239.1 then (some ((⟨#[]⟩ : ByteArray), (⟨#[]⟩ : ByteArray), 2)) else (if 0 ≤ bt239.1 then (if bt239.1 ≤ (bt239.2.1.size : Int) then (some (bt239.2.1.extract 0 (bt239.1 : Int).toNat, bt239.2.1.extract (bt239.1 : Int).toNat bt239.2.1.size, 0)) else (none)) else (none)))) else (some ((⟨#[]⟩ : ByteArray), (⟨#[]⟩ : ByteArray), bt239.2.2)))
theorem palinoderef01_ReadText.mono : ∀ a0 k, LeO (palinoderef01_ReadText.f k a0) (palinoderef01_ReadText.f (k + 1) a0) := by
 intro a0 k
 unfold palinoderef01_ReadText.f
 repeat' first
   | (with_reducible exact palinoderef01_ReadNum.mono _ _)
   | (with_reducible exact LeO.refl _)
   | (with_reducible exact LeO.none _)
   | (with_reducible refine LeO.ite ?_ ?_)
   | (with_reducible refine LeO.bind ?_ (fun _ => ?_))
   | exact palinoderef01_ReadNum.mono _ _
   | exact LeO.none _
   | refine LeO.ite ?_ ?_
   | refine LeO.bind ?_ (fun _ => ?_)
set_option maxHeartbeats 8000000 in
set_option maxRecDepth 100000 in
theorem palinoderef01_ReadText.calls (k : Nat) (a0 : ByteArray) (r1 : ByteArray) (r2 : ByteArray) (r3 : Int) (w : World) (h : palinoderef01_ReadText.f k a0 = some (r1, r2, r3)) :
  Calls Try.prog 19 #[.string a0] w fun e w' => e = .returned (.tuple #[.string r1, .string r2, .int .i64 r3]) ∧ Drawn0 w w' := by
 have H : ((palinoderef01_ReadNum.f k a0).bind fun bt239 => (if bt239.2.2 = 0 then (if bt239.1 > 1048576 then (some ((⟨#[]⟩ : ByteArray), (⟨#[]⟩ : ByteArray), 5)) else (if (bt239.2.1.size : Int) < bt239.1 then (some ((⟨#[]⟩ : ByteArray), (⟨#[]⟩ : ByteArray), 2)) else (if 0 ≤ bt239.1 then (if bt239.1 ≤ (bt239.2.1.size : Int) then (some (bt239.2.1.extract 0 (bt239.1 : Int).toNat, bt239.2.1.extract (bt239.1 : Int).toNat bt239.2.1.size, 0)) else (none)) else (none)))) else (some ((⟨#[]⟩ : ByteArray), (⟨#[]⟩ : ByteArray), bt239.2.2)))) = some (r1, r2, r3) := h
 clear h
 replace H := Option.bind_eq_some_iff.mp H
 obtain ⟨⟨t239, t240, t241⟩, A20, H⟩ := H
 replace H : (if t241 = 0 then (if t239 > 1048576 then (some ((⟨#[]⟩ : ByteArray), (⟨#[]⟩ : ByteArray), 5)) else (if (t240.size : Int) < t239 then (some ((⟨#[]⟩ : ByteArray), (⟨#[]⟩ : ByteArray), 2)) else (if 0 ≤ t239 then (if t239 ≤ (t240.size : Int) then (some (t240.extract 0 (t239 : Int).toNat, t240.extract (t239 : Int).toNat t240.size, 0)) else (none)) else (none)))) else (some ((⟨#[]⟩ : ByteArray), (⟨#[]⟩ : ByteArray), t241))) = some (r1, r2, r3) := H
 have A2 := Aside0.mk A20
 clear A20
 by_cases c3 : t241 = 0
 ·
  rw [if_pos c3] at H
  have c3b0 : (t241 == 0) = true := beq_iff_eq.mpr c3
  have c3b1 : (t241 != 0) = false := bne_eq_false_iff_eq.mpr c3
  clear c3
  by_cases c4 : t239 > 1048576
  ·
   rw [if_pos c4] at H
   have c4b0 : decide (1048576 < t239) = true := decide_eq_true c4
   clear c4
   simp only [Option.some.injEq, Prod.mk.injEq] at H
   obtain ⟨rfl, rfl, rfl⟩ := H
   go_enter Try.func19, Try.ntmps19
   go_wp2_with (first | (go_at_call 14; (with_reducible refine (palinoderef01_ReadNum.calls k a0 t239 t240 t241 _ A2.out).mono ?_); rintro e w' ⟨rfl, ⟨nd, rfl⟩⟩; (try first | exact ⟨rfl, _, World.drewN_drewN _ _ _⟩ | exact ⟨rfl, _, Eq.trans (World.drewN_drewN _ _ _) (congrArg (World.drewN _) (Nat.add_assoc _ _ _))⟩)))
   repeat (go_quiet (first | (go_at_call 14; (with_reducible refine (palinoderef01_ReadNum.calls k a0 t239 t240 t241 _ A2.out).mono ?_); rintro e w' ⟨rfl, ⟨nd, rfl⟩⟩; (try first | exact ⟨rfl, _, World.drewN_drewN _ _ _⟩ | exact ⟨rfl, _, Eq.trans (World.drewN_drewN _ _ _) (congrArg (World.drewN _) (Nat.add_assoc _ _ _))⟩))); try go_wp2_with (first | (go_at_call 14; (with_reducible refine (palinoderef01_ReadNum.calls k a0 t239 t240 t241 _ A2.out).mono ?_); rintro e w' ⟨rfl, ⟨nd, rfl⟩⟩; (try first | exact ⟨rfl, _, World.drewN_drewN _ _ _⟩ | exact ⟨rfl, _, Eq.trans (World.drewN_drewN _ _ _) (congrArg (World.drewN _) (Nat.add_assoc _ _ _))⟩))))
   go_ret3
   exact ⟨by first | rfl | (simp; done) | (simp [*]; done), by repeat (first | exact Drawn0.refl _ | apply Drawn0.step)⟩
  ·
   rw [if_neg c4] at H
   have c4b0 : decide (1048576 < t239) = false := decide_eq_false c4
   clear c4
   by_cases c5 : (t240.size : Int) < t239
   ·
    rw [if_pos c5] at H
    have c5b0 : decide ((t240.size : Int) < t239) = true := decide_eq_true c5
    clear c5
    simp only [Option.some.injEq, Prod.mk.injEq] at H
    obtain ⟨rfl, rfl, rfl⟩ := H
    go_enter Try.func19, Try.ntmps19
    go_wp2_with (first | (go_at_call 14; (with_reducible refine (palinoderef01_ReadNum.calls k a0 t239 t240 t241 _ A2.out).mono ?_); rintro e w' ⟨rfl, ⟨nd, rfl⟩⟩; (try first | exact ⟨rfl, _, World.drewN_drewN _ _ _⟩ | exact ⟨rfl, _, Eq.trans (World.drewN_drewN _ _ _) (congrArg (World.drewN _) (Nat.add_assoc _ _ _))⟩)))
    repeat (go_quiet (first | (go_at_call 14; (with_reducible refine (palinoderef01_ReadNum.calls k a0 t239 t240 t241 _ A2.out).mono ?_); rintro e w' ⟨rfl, ⟨nd, rfl⟩⟩; (try first | exact ⟨rfl, _, World.drewN_drewN _ _ _⟩ | exact ⟨rfl, _, Eq.trans (World.drewN_drewN _ _ _) (congrArg (World.drewN _) (Nat.add_assoc _ _ _))⟩))); try go_wp2_with (first | (go_at_call 14; (with_reducible refine (palinoderef01_ReadNum.calls k a0 t239 t240 t241 _ A2.out).mono ?_); rintro e w' ⟨rfl, ⟨nd, rfl⟩⟩; (try first | exact ⟨rfl, _, World.drewN_drewN _ _ _⟩ | exact ⟨rfl, _, Eq.trans (World.drewN_drewN _ _ _) (congrArg (World.drewN _) (Nat.add_assoc _ _ _))⟩))))
    go_ret3
    exact ⟨by first | rfl | (simp; done) | (simp [*]; done), by repeat (first | exact Drawn0.refl _ | apply Drawn0.step)⟩
   ·
    rw [if_neg c5] at H
    have c5b0 : decide ((t240.size : Int) < t239) = false := decide_eq_false c5
    clear c5
    by_cases c6 : 0 ≤ t239
    ·
     rw [if_pos c6] at H
     have c6b0 := eq_true c6
     have c6b1 : decide (0 ≤ t239) = true := decide_eq_true c6
     clear c6
     by_cases c7 : t239 ≤ (t240.size : Int)
     ·
      rw [if_pos c7] at H
      have c7b0 := eq_true c7
      have c7b1 : decide (t239 ≤ (t240.size : Int)) = true := decide_eq_true c7
      clear c7
      have c8b0 := eq_true (of_decide_eq_true (by first | (with_reducible assumption) | assumption) : 0 ≤ t239)
      have c9b0 := eq_true (of_decide_eq_true (by first | (with_reducible assumption) | assumption) : t239 ≤ (t240.size : Int))
      simp only [Option.some.injEq, Prod.mk.injEq] at H
      obtain ⟨rfl, rfl, rfl⟩ := H
      go_enter Try.func19, Try.ntmps19
      go_wp2_with (first | (go_at_call 14; (with_reducible refine (palinoderef01_ReadNum.calls k a0 t239 t240 t241 _ A2.out).mono ?_); rintro e w' ⟨rfl, ⟨nd, rfl⟩⟩; (try first | exact ⟨rfl, _, World.drewN_drewN _ _ _⟩ | exact ⟨rfl, _, Eq.trans (World.drewN_drewN _ _ _) (congrArg (World.drewN _) (Nat.add_assoc _ _ _))⟩)))
      repeat (go_quiet (first | (go_at_call 14; (with_reducible refine (palinoderef01_ReadNum.calls k a0 t239 t240 t241 _ A2.out).mono ?_); rintro e w' ⟨rfl, ⟨nd, rfl⟩⟩; (try first | exact ⟨rfl, _, World.drewN_drewN _ _ _⟩ | exact ⟨rfl, _, Eq.trans (World.drewN_drewN _ _ _) (congrArg (World.drewN _) (Nat.add_assoc _ _ _))⟩))); try go_wp2_with (first | (go_at_call 14; (with_reducible refine (palinoderef01_ReadNum.calls k a0 t239 t240 t241 _ A2.out).mono ?_); rintro e w' ⟨rfl, ⟨nd, rfl⟩⟩; (try first | exact ⟨rfl, _, World.drewN_drewN _ _ _⟩ | exact ⟨rfl, _, Eq.trans (World.drewN_drewN _ _ _) (congrArg (World.drewN _) (Nat.add_assoc _ _ _))⟩))))
      go_ret3
      exact ⟨by first | rfl | (simp; done) | (simp [*]; done), by repeat (first | exact Drawn0.refl _ | apply Drawn0.step)⟩
     ·
      rw [if_neg c7] at H
      exact absurd H (by simp)
    ·
     rw [if_neg c6] at H
     exact absurd H (by simp)
 ·
  rw [if_neg c3] at H
  have c3b0 : (t241 == 0) = false := beq_eq_false_iff_ne.mpr c3
  have c3b1 : (t241 != 0) = true := bne_iff_ne.mpr c3
  simp only [Option.some.injEq, Prod.mk.injEq] at H
  obtain ⟨rfl, rfl, rfl⟩ := H
  go_enter Try.func19, Try.ntmps19
  go_wp2_with (first | (go_at_call 14; (with_reducible refine (palinoderef01_ReadNum.calls k a0 t239 t240 t241 _ A2.out).mono ?_); rintro e w' ⟨rfl, ⟨nd, rfl⟩⟩; (try first | exact ⟨rfl, _, World.drewN_drewN _ _ _⟩ | exact ⟨rfl, _, Eq.trans (World.drewN_drewN _ _ _) (congrArg (World.drewN _) (Nat.add_assoc _ _ _))⟩)))
  repeat (go_quiet (first | (go_at_call 14; (with_reducible refine (palinoderef01_ReadNum.calls k a0 t239 t240 t241 _ A2.out).mono ?_); rintro e w' ⟨rfl, ⟨nd, rfl⟩⟩; (try first | exact ⟨rfl, _, World.drewN_drewN _ _ _⟩ | exact ⟨rfl, _, Eq.trans (World.drewN_drewN _ _ _) (congrArg (World.drewN _) (Nat.add_assoc _ _ _))⟩))); try go_wp2_with (first | (go_at_call 14; (with_reducible refine (palinoderef01_ReadNum.calls k a0 t239 t240 t241 _ A2.out).mono ?_); rintro e w' ⟨rfl, ⟨nd, rfl⟩⟩; (try first | exact ⟨rfl, _, World.drewN_drewN _ _ _⟩ | exact ⟨rfl, _, Eq.trans (World.drewN_drewN _ _ _) (congrArg (World.drewN _) (Nat.add_assoc _ _ _))⟩))))
  go_ret3
  exact ⟨by first | rfl | (simp; done) | (simp [*]; done), by repeat (first | exact Drawn0.refl _ | apply Drawn0.step)⟩

/-! ### palinodelaw01_PackTexts: function 5 -/
def palinodelaw01_PackTexts.f (k : Nat) (a0 : ByteArray) (a1 : ByteArray) : Option (Bool) := (palinodelaw01_examples.f k).bind fun t242 => ((pack_Text.f k a0).bind fun bt243 => ((palinoderef01_Text.f k a0).bind fun bt245 => ((pack_ReadText.f a1).bind fun bt247 => ((palinoderef01_ReadText.f k a1).bind fun bt250 => (if t242 = true then (if bt243.1.toList = bt245.1.toList then (if bt245.2 = true then (if bt243.2.isNone = true then (if bt247.1.toList = bt250.1.toList then (if bt247.2.1.toList = bt250.2.1.toList then ((palinodelaw01_is.f bt247.2.2 bt250.2.2).bind fun t254 => (some t254)) else (some false)) else (some false)) else (some false)) else ((palinodelaw01_is.f bt243.2 5).bind fun t255 => (if t255 = true then (if bt247.1.toList = bt250.1.toList then (if bt247.2.1.toList = bt250.2.1.toList then ((palinodelaw01_is.f bt247.2.2 bt250.2.2).bind fun t256 => (some t256)) else (some false)) else (some false)) else (some false)))) else (some false)) else (some false))))))
theorem palinodelaw01_PackTexts.mono : ∀ a0 a1 k, LeO (palinodelaw01_PackTexts.f k a0 a1) (palinodelaw01_PackTexts.f (k + 1) a0 a1) := by
 intro a0 a1 k
 unfold palinodelaw01_PackTexts.f
 repeat' first
   | (with_reducible exact pack_Text.mono _ _)
   | (with_reducible exact palinodelaw01_examples.mono _)
   | (with_reducible exact palinoderef01_ReadText.mono _ _)
   | (with_reducible exact palinoderef01_Text.mono _ _)
   | (with_reducible exact LeO.refl _)
   | (with_reducible exact LeO.none _)
   | (with_reducible refine LeO.ite ?_ ?_)
   | (with_reducible refine LeO.bind ?_ (fun _ => ?_))
   | exact pack_Text.mono _ _
   | exact palinodelaw01_examples.mono _
   | exact palinoderef01_ReadText.mono _ _
   | exact palinoderef01_Text.mono _ _
   | exact LeO.none _
   | refine LeO.ite ?_ ?_
   | refine LeO.bind ?_ (fun _ => ?_)
set_option maxHeartbeats 8000000 in
set_option maxRecDepth 100000 in
theorem palinodelaw01_PackTexts.calls (k : Nat) (a0 : ByteArray) (a1 : ByteArray) (r : Bool) (w : World) (h : palinodelaw01_PackTexts.f k a0 a1 = some r) (HEX_ : Aside0 (∀ k_ r_, palinodelaw01_examples.f k_ = some r_ → r_ = true)) (HRT_ : Aside0 (r = true) := by first | exact ⟨rfl⟩ | assumption) :
  Calls Try.prog 5 #[.string a0, .string a1] w fun e w' => e = .returned (.bool r) ∧ Below w.heap.size w w' := by
 have hu24 := Try.underlying24
 have hu54 := Try.underlying54
 have HB := Aside0.mk (Below.refl w.heap.size w)
 have H : ((palinodelaw01_examples.f k).bind fun t242 => ((pack_Text.f k a0).bind fun bt243 => ((palinoderef01_Text.f k a0).bind fun bt245 => ((pack_ReadText.f a1).bind fun bt247 => ((palinoderef01_ReadText.f k a1).bind fun bt250 => (if t242 = true then (if bt243.1.toList = bt245.1.toList then (if bt245.2 = true then (if bt243.2.isNone = true then (if bt247.1.toList = bt250.1.toList then (if bt247.2.1.toList = bt250.2.1.toList then ((palinodelaw01_is.f bt247.2.2 bt250.2.2).bind fun t254 => (some t254)) else (some false)) else (some false)) else (some false)) else ((palinodelaw01_is.f bt243.2 5).bind fun t255 => (if t255 = true then (if bt247.1.toList = bt250.1.toList then (if bt247.2.1.toList = bt250.2.1.toList then ((palinodelaw01_is.f bt247.2.2 bt250.2.2).bind fun t256 => (some t256)) else (some false)) else (some false)) else (some false)))) else (some false)) else (some false))))))) = some r := h
 clear h
 replace H := Option.bind_eq_some_iff.mp H
 obtain ⟨t242, A30, H⟩ := H
 replace H : ((pack_Text.f k a0).bind fun bt243 => ((palinoderef01_Text.f k a0).bind fun bt245 => ((pack_ReadText.f a1).bind fun bt247 => ((palinoderef01_ReadText.f k a1).bind fun bt250 => (if t242 = true then (if bt243.1.toList = bt245.1.toList then (if bt245.2 = true then (if bt243.2.isNone = true then (if bt247.1.toList = bt250.1.toList then (if bt247.2.1.toList = bt250.2.1.toList then ((palinodelaw01_is.f bt247.2.2 bt250.2.2).bind fun t254 => (some t254)) else (some false)) else (some false)) else (some false)) else ((palinodelaw01_is.f bt243.2 5).bind fun t255 => (if t255 = true then (if bt247.1.toList = bt250.1.toList then (if bt247.2.1.toList = bt250.2.1.toList then ((palinodelaw01_is.f bt247.2.2 bt250.2.2).bind fun t256 => (some t256)) else (some false)) else (some false)) else (some false)))) else (some false)) else (some false)))))) = some r := H
 have A3 := Aside0.mk A30
 have HTA3_ : Aside0 (t242 = true) := ⟨HEX_.out _ _ A30⟩
 clear A30
 replace H := Option.bind_eq_some_iff.mp H
 obtain ⟨⟨t243, t244⟩, A40, H⟩ := H
 replace H : ((palinoderef01_Text.f k a0).bind fun bt245 => ((pack_ReadText.f a1).bind fun bt247 => ((palinoderef01_ReadText.f k a1).bind fun bt250 => (if t242 = true then (if t243.toList = bt245.1.toList then (if bt245.2 = true then (if t244.isNone = true then (if bt247.1.toList = bt250.1.toList then (if bt247.2.1.toList = bt250.2.1.toList then ((palinodelaw01_is.f bt247.2.2 bt250.2.2).bind fun t254 => (some t254)) else (some false)) else (some false)) else (some false)) else ((palinodelaw01_is.f t244 5).bind fun t255 => (if t255 = true then (if bt247.1.toList = bt250.1.toList then (if bt247.2.1.toList = bt250.2.1.toList then ((palinodelaw01_is.f bt247.2.2 bt250.2.2).bind fun t256 => (some t256)) else (some false)) else (some false)) else (some false)))) else (some false)) else (some false))))) = some r := H
 have A4 := Aside0.mk A40
 clear A40
 replace H := Option.bind_eq_some_iff.mp H
 obtain ⟨⟨t245, t246⟩, A50, H⟩ := H
 replace H : ((pack_ReadText.f a1).bind fun bt247 => ((palinoderef01_ReadText.f k a1).bind fun bt250 => (if t242 = true then (if t243.toList = t245.toList then (if t246 = true then (if t244.isNone = true then (if bt247.1.toList = bt250.1.toList then (if bt247.2.1.toList = bt250.2.1.toList then ((palinodelaw01_is.f bt247.2.2 bt250.2.2).bind fun t254 => (some t254)) else (some false)) else (some false)) else (some false)) else ((palinodelaw01_is.f t244 5).bind fun t255 => (if t255 = true then (if bt247.1.toList = bt250.1.toList then (if bt247.2.1.toList = bt250.2.1.toList then ((palinodelaw01_is.f bt247.2.2 bt250.2.2).bind fun t256 => (some t256)) else (some false)) else (some false)) else (some false)))) else (some false)) else (some false)))) = some r := H
 have A5 := Aside0.mk A50
 clear A50
 replace H := Option.bind_eq_some_iff.mp H
 obtain ⟨⟨t247, t248, t249⟩, A60, H⟩ := H
 replace H : ((palinoderef01_ReadText.f k a1).bind fun bt250 => (if t242 = true then (if t243.toList = t245.toList then (if t246 = true then (if t244.isNone = true then (if t247.toList = bt250.1.toList then (if t248.toList = bt250.2.1.toList then ((palinodelaw01_is.f t249 bt250.2.2).bind fun t254 => (some t254)) else (some false)) else (some false)) else (some false)) else ((palinodelaw01_is.f t244 5).bind fun t255 => (if t255 = true then (if t247.toList = bt250.1.toList then (if t248.toList = bt250.2.1.toList then ((palinodelaw01_is.f t249 bt250.2.2).bind fun t256 => (some t256)) else (some false)) else (some false)) else (some false)))) else (some false)) else (some false))) = some r := H
 have A6 := Aside0.mk A60
 clear A60
 replace H := Option.bind_eq_some_iff.mp H
 obtain ⟨⟨t250, t251, t252⟩, A70, H⟩ := H
 replace H : (if t242 = true then (if t243.toList = t245.toList then (if t246 = true then (if t244.isNone = true then (if t247.toList = t250.toList then (if t248.toList = t251.toList then ((palinodelaw01_is.f t249 t252).bind fun t254 => (some t254)) else (some false)) else (some false)) else (some false)) else ((palinodelaw01_is.f t244 5).bind fun t255 => (if t255 = true then (if t247.toList = t250.toList then (if t248.toList = t251.toList then ((palinodelaw01_is.f t249 t252).bind fun t256 => (some t256)) else (some false)) else (some false)) else (some false)))) else (some false)) else (some false)) = some r := H
 have A7 := Aside0.mk A70
 clear A70
 by_cases c8 : t242 = true
 ·
  subst c8
  have H1 : (if t243.toList = t245.toList then (if t246 = true then (if t244.isNone = true then (if t247.toList = t250.toList then (if t248.toList = t251.toList then ((palinodelaw01_is.f t249 t252).bind fun t254 => (some t254)) else (some false)) else (some false)) else (some false)) else ((palinodelaw01_is.f t244 5).bind fun t255 => (if t255 = true then (if t247.toList = t250.toList then (if t248.toList = t251.toList then ((palinodelaw01_is.f t249 t252).bind fun t256 => (some t256)) else (some false)) else (some false)) else (some false)))) else (some false)) = some r := by rw [if_pos rfl] at H; exact H
  clear H
  have H := H1
  clear H1
  by_cases c9 : t243.toList = t245.toList
  ·
   rw [if_pos c9] at H
   have c9b0 : (t243.toList == t245.toList) = true := beq_iff_eq.mpr c9
   have c9b1 : (t243.toList != t245.toList) = false := bne_eq_false_iff_eq.mpr c9
   clear c9
   by_cases c10 : t246 = true
   ·
    subst c10
    have H1 : (if t244.isNone = true then (if t247.toList = t250.toList then (if t248.toList = t251.toList then ((palinodelaw01_is.f t249 t252).bind fun t254 => (some t254)) else (some false)) else (some false)) else (some false)) = some r := by rw [if_pos rfl] at H; exact H
    clear H
    have H := H1
    clear H1
    rcases t244 with _ | q253
    ·
     have H1 : (if t247.toList = t250.toList then (if t248.toList = t251.toList then ((palinodelaw01_is.f t249 t252).bind fun t254 => (some t254)) else (some false)) else (some false)) = some r := by rw [if_pos (show (none : Option Int).isNone = true by rfl)] at H; exact H
     clear H
     have H := H1
     clear H1
     try simp only [errW_none, errW_some]
     by_cases c11 : t247.toList = t250.toList
     ·
      rw [if_pos c11] at H
      have c11b0 : (t247.toList == t250.toList) = true := beq_iff_eq.mpr c11
      have c11b1 : (t247.toList != t250.toList) = false := bne_eq_false_iff_eq.mpr c11
      clear c11
      by_cases c12 : t248.toList = t251.toList
      ·
       rw [if_pos c12] at H
       have c12b0 : (t248.toList == t251.toList) = true := beq_iff_eq.mpr c12
       have c12b1 : (t248.toList != t251.toList) = false := bne_eq_false_iff_eq.mpr c12
       clear c12
       replace H := Option.bind_eq_some_iff.mp H
       obtain ⟨t254, A130, H⟩ := H
       replace H : (some t254) = some r := H
       have A13 := Aside0.mk A130
       clear A130
       obtain rfl := Option.some.inj H
       go_enter Try.func5, Try.ntmps5
       go_wp2_with (first | ((with_reducible refine gate_callee (f := 10) rfl ?_); refine goesL_ (some 16) rfl rfl Try.func10 (by kernel_rfl) rfl #[] rfl (by (try simp only [List.map_toArray, List.map_cons, List.map_nil]); first | done | rfl | (simp only [List.length_drop, List.length_take]; rfl)) ?_; (with_reducible refine (palinodelaw01_examples.calls k  true _ A3.out).mono ?_); rintro e w14 ⟨rfl, hb⟩; refine ⟨_, rfl, ?_⟩; have n0_ := Aside0.mk (Yv HB hb); clear HB; have HB := n0_; clear n0_; (try clear hb); (try clear hb2); (try clear hk); (try clear hi)) | ((with_reducible refine gate_callee (f := 16) rfl ?_); refine goesL_ (some 19) rfl rfl Try.func16 (by kernel_rfl) rfl #[.string a0] rfl (by (try simp only [List.map_toArray, List.map_cons, List.map_nil]); first | done | rfl | (simp only [List.length_drop, List.length_take]; rfl)) ?_; (with_reducible refine (pack_Text.calls k a0 t243 none _ A4.out).mono ?_); rintro e w15 ⟨rfl, hb⟩; refine ⟨_, rfl, ?_⟩; have n0_ := Aside0.mk (Yv HB hb); clear HB; have HB := n0_; clear n0_; (try clear hb); (try clear hb2); (try clear hk); (try clear hi); (try simp only [errW_none, errW_some])) | ((with_reducible refine gate_callee (f := 17) rfl ?_); refine goesL_ (some 24) rfl rfl Try.func17 (by kernel_rfl) rfl #[.string a0] rfl (by (try simp only [List.map_toArray, List.map_cons, List.map_nil]); first | done | rfl | (simp only [List.length_drop, List.length_take]; rfl)) ?_; (with_reducible refine (palinoderef01_Text.calls k a0 t245 true _ A5.out).mono ?_); rintro e w16 ⟨rfl, hb⟩; refine ⟨_, rfl, ?_⟩; have n0_ := Aside0.mk (Yv HB hb); clear HB; have HB := n0_; clear n0_; (try clear hb); (try clear hb2); (try clear hk); (try clear hi)) | ((with_reducible refine gate_callee (f := 18) rfl ?_); refine goesL_ (some 29) rfl rfl Try.func18 (by kernel_rfl) rfl #[.string a1] rfl (by (try simp only [List.map_toArray, List.map_cons, List.map_nil]); first | done | rfl | (simp only [List.length_drop, List.length_take]; rfl)) ?_; (with_reducible refine (pack_ReadText.calls a1 t247 t248 t249 _ A6.out).mono ?_); rintro e w17 ⟨rfl, hb⟩; refine ⟨_, rfl, ?_⟩; have n0_ := Aside0.mk (Yv HB hb); clear HB; have HB := n0_; clear n0_; (try clear hb); (try clear hb2); (try clear hk); (try clear hi); (try simp only [errW_none, errW_some])) | ((with_reducible refine gate_callee (f := 19) rfl ?_); refine goesL_ (some 35) rfl rfl Try.func19 (by kernel_rfl) rfl #[.string a1] rfl (by (try simp only [List.map_toArray, List.map_cons, List.map_nil]); first | done | rfl | (simp only [List.length_drop, List.length_take]; rfl)) ?_; (with_reducible refine (palinoderef01_ReadText.calls k a1 t250 t251 t252 _ A7.out).mono ?_); rintro e w' ⟨rfl, ⟨nd, rfl⟩⟩; refine ⟨_, rfl, ?_⟩; have CA13 := fun W => palinodelaw01_is.calls t249 t252 t254 W A13.out; try simp only [errW_none, errW_some] at CA13) | (go_at_call 15; (with_reducible refine (CA13 _).mono ?_); rintro e w' ⟨rfl, ⟨nd, rfl⟩⟩))
       go_ret
       exact ⟨by first | rfl | (simp [errW_none, errW_some] <;> rfl) | (simp [*, errW_none, errW_some] <;> rfl), Yr HB⟩
      ·
       rw [if_neg c12] at H
       have c12b0 : (t248.toList == t251.toList) = false := beq_eq_false_iff_ne.mpr c12
       have c12b1 : (t248.toList != t251.toList) = true := bne_iff_ne.mpr c12
       exact absurd ((Option.some.inj H).trans HRT_.out) (by decide)
     ·
      rw [if_neg c11] at H
      have c11b0 : (t247.toList == t250.toList) = false := beq_eq_false_iff_ne.mpr c11
      have c11b1 : (t247.toList != t250.toList) = true := bne_iff_ne.mpr c11
      exact absurd ((Option.some.inj H).trans HRT_.out) (by decide)
    ·
     have H1 : (some false) = some r := by rw [if_neg (show ¬ (some q253).isNone = true by simp)] at H; exact H
     clear H
     have H := H1
     clear H1
     try simp only [errW_none, errW_some]
     exact absurd ((Option.some.inj H).trans HRT_.out) (by decide)
   ·
    replace c10 := Bool.eq_false_iff.mpr c10
    subst c10
    have H1 : ((palinodelaw01_is.f t244 5).bind fun t255 => (if t255 = true then (if t247.toList = t250.toList then (if t248.toList = t251.toList then ((palinodelaw01_is.f t249 t252).bind fun t256 => (some t256)) else (some false)) else (some false)) else (some false))) = some r := by rw [if_neg (show ¬ (false = true) by decide)] at H; exact H
    clear H
    have H := H1
    clear H1
    replace H := Option.bind_eq_some_iff.mp H
    obtain ⟨t255, A180, H⟩ := H
    replace H : (if t255 = true then (if t247.toList = t250.toList then (if t248.toList = t251.toList then ((palinodelaw01_is.f t249 t252).bind fun t256 => (some t256)) else (some false)) else (some false)) else (some false)) = some r := H
    have A18 := Aside0.mk A180
    clear A180
    by_cases c19 : t255 = true
    ·
     subst c19
     have H1 : (if t247.toList = t250.toList then (if t248.toList = t251.toList then ((palinodelaw01_is.f t249 t252).bind fun t256 => (some t256)) else (some false)) else (some false)) = some r := by rw [if_pos rfl] at H; exact H
     clear H
     have H := H1
     clear H1
     by_cases c20 : t247.toList = t250.toList
     ·
      rw [if_pos c20] at H
      have c20b0 : (t247.toList == t250.toList) = true := beq_iff_eq.mpr c20
      have c20b1 : (t247.toList != t250.toList) = false := bne_eq_false_iff_eq.mpr c20
      clear c20
      by_cases c21 : t248.toList = t251.toList
      ·
       rw [if_pos c21] at H
       have c21b0 : (t248.toList == t251.toList) = true := beq_iff_eq.mpr c21
       have c21b1 : (t248.toList != t251.toList) = false := bne_eq_false_iff_eq.mpr c21
       clear c21
       replace H := Option.bind_eq_some_iff.mp H
       obtain ⟨t256, A220, H⟩ := H
       replace H : (some t256) = some r := H
       have A22 := Aside0.mk A220
       clear A220
       obtain rfl := Option.some.inj H
       go_enter Try.func5, Try.ntmps5
       go_wp2_with (first | ((with_reducible refine gate_callee (f := 10) rfl ?_); refine goesL_ (some 16) rfl rfl Try.func10 (by kernel_rfl) rfl #[] rfl (by (try simp only [List.map_toArray, List.map_cons, List.map_nil]); first | done | rfl | (simp only [List.length_drop, List.length_take]; rfl)) ?_; (with_reducible refine (palinodelaw01_examples.calls k  true _ A3.out).mono ?_); rintro e w23 ⟨rfl, hb⟩; refine ⟨_, rfl, ?_⟩; have n0_ := Aside0.mk (Yv HB hb); clear HB; have HB := n0_; clear n0_; (try clear hb); (try clear hb2); (try clear hk); (try clear hi)) | ((with_reducible refine gate_callee (f := 16) rfl ?_); refine goesL_ (some 19) rfl rfl Try.func16 (by kernel_rfl) rfl #[.string a0] rfl (by (try simp only [List.map_toArray, List.map_cons, List.map_nil]); first | done | rfl | (simp only [List.length_drop, List.length_take]; rfl)) ?_; (with_reducible refine (pack_Text.calls k a0 t243 t244 _ A4.out).mono ?_); rintro e w24 ⟨rfl, hb⟩; refine ⟨_, rfl, ?_⟩; have n0_ := Aside0.mk (Yv HB hb); clear HB; have HB := n0_; clear n0_; (try clear hb); (try clear hb2); (try clear hk); (try clear hi); (try simp only [errW_none, errW_some])) | ((with_reducible refine gate_callee (f := 17) rfl ?_); refine goesL_ (some 24) rfl rfl Try.func17 (by kernel_rfl) rfl #[.string a0] rfl (by (try simp only [List.map_toArray, List.map_cons, List.map_nil]); first | done | rfl | (simp only [List.length_drop, List.length_take]; rfl)) ?_; (with_reducible refine (palinoderef01_Text.calls k a0 t245 false _ A5.out).mono ?_); rintro e w25 ⟨rfl, hb⟩; refine ⟨_, rfl, ?_⟩; have n0_ := Aside0.mk (Yv HB hb); clear HB; have HB := n0_; clear n0_; (try clear hb); (try clear hb2); (try clear hk); (try clear hi)) | ((with_reducible refine gate_callee (f := 18) rfl ?_); refine goesL_ (some 29) rfl rfl Try.func18 (by kernel_rfl) rfl #[.string a1] rfl (by (try simp only [List.map_toArray, List.map_cons, List.map_nil]); first | done | rfl | (simp only [List.length_drop, List.length_take]; rfl)) ?_; (with_reducible refine (pack_ReadText.calls a1 t247 t248 t249 _ A6.out).mono ?_); rintro e w26 ⟨rfl, hb⟩; refine ⟨_, rfl, ?_⟩; have n0_ := Aside0.mk (Yv HB hb); clear HB; have HB := n0_; clear n0_; (try clear hb); (try clear hb2); (try clear hk); (try clear hi); (try simp only [errW_none, errW_some])) | ((with_reducible refine gate_callee (f := 19) rfl ?_); refine goesL_ (some 35) rfl rfl Try.func19 (by kernel_rfl) rfl #[.string a1] rfl (by (try simp only [List.map_toArray, List.map_cons, List.map_nil]); first | done | rfl | (simp only [List.length_drop, List.length_take]; rfl)) ?_; (with_reducible refine (palinoderef01_ReadText.calls k a1 t250 t251 t252 _ A7.out).mono ?_); rintro e w' ⟨rfl, ⟨nd, rfl⟩⟩; refine ⟨_, rfl, ?_⟩; have CA18 := fun W => palinodelaw01_is.calls t244 5 true W A18.out; try simp only [errW_none, errW_some] at CA18) | (go_at_call 15; (with_reducible refine (CA18 _).mono ?_); rintro e w' ⟨rfl, ⟨nd, rfl⟩⟩; have CA22 := fun W => palinodelaw01_is.calls t249 t252 t256 W A22.out; try simp only [errW_none, errW_some] at CA22) | (go_at_call 15; (with_reducible refine (CA22 _).mono ?_); rintro e w' ⟨rfl, ⟨nd, rfl⟩⟩))
       go_ret
       exact ⟨by first | rfl | (simp [errW_none, errW_some] <;> rfl) | (simp [*, errW_none, errW_some] <;> rfl), Yr HB⟩
      ·
       rw [if_neg c21] at H
       have c21b0 : (t248.toList == t251.toList) = false := beq_eq_false_iff_ne.mpr c21
       have c21b1 : (t248.toList != t251.toList) = true := bne_iff_ne.mpr c21
       exact absurd ((Option.some.inj H).trans HRT_.out) (by decide)
     ·
      rw [if_neg c20] at H
      have c20b0 : (t247.toList == t250.toList) = false := beq_eq_false_iff_ne.mpr c20
      have c20b1 : (t247.toList != t250.toList) = true := bne_iff_ne.mpr c20
      exact absurd ((Option.some.inj H).trans HRT_.out) (by decide)
    ·
     replace c19 := Bool.eq_false_iff.mpr c19
     subst c19
     have H1 : (some false) = some r := by rw [if_neg (show ¬ (false = true) by decide)] at H; exact H
     clear H
     have H := H1
     clear H1
     exact absurd ((Option.some.inj H).trans HRT_.out) (by decide)
  ·
   rw [if_neg c9] at H
   have c9b0 : (t243.toList == t245.toList) = false := beq_eq_false_iff_ne.mpr c9
   have c9b1 : (t243.toList != t245.toList) = true := bne_iff_ne.mpr c9
   exact absurd ((Option.some.inj H).trans HRT_.out) (by decide)
 ·
  replace c8 := Bool.eq_false_iff.mpr c8
  subst c8
  have H1 : (some false) = some r := by rw [if_neg (show ¬ (false = true) by decide)] at H; exact H
  clear H
  have H := H1
  clear H1
  exact absurd ((Option.some.inj H).trans HRT_.out) (by decide)

/-- THE ONE PURE STATEMENT of palinodelaw01_PackTexts. -/
def palinodelaw01_PackTexts.Pure : Prop := (∀ k_ r_, palinodelaw01_examples.f k_ = some r_ → r_ = true) ∧ ∀ (a0 : ByteArray) (a1 : ByteArray), a0.size ≤ 140737488351232 → a1.size ≤ 140737488351232 → ∃ k, palinodelaw01_PackTexts.f k a0 a1 = some true
theorem palinodelaw01_PackTexts.walk (P : palinodelaw01_PackTexts.Pure) (a0 : ByteArray) (a1 : ByteArray) (w : World) (v0 : a0.size ≤ 140737488351232) (v1 : a1.size ≤ 140737488351232) :
  Calls Try.prog 5 #[.string a0, .string a1] w fun e w' => e = .returned (.bool true) ∧ Below w.heap.size w w' := by
 obtain ⟨k, h⟩ := P.2 a0 a1 v0 v1
 refine (palinodelaw01_PackTexts.calls k a0 a1 true w  h ⟨P.1⟩).mono ?_
 rintro e w' ⟨rfl, hd⟩
 exact ⟨rfl, hd⟩

end Go.Proofs.Ythdjeekfnlagmaa.Print
