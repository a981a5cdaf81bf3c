-- Printed out of the translation by a program of this session's own. Not trusted: Lean checks it.
import Derived.Test.YtmmhdoaepdlmcaaPrint0
import Derived.Test.YtmmhdoaepdlmcaaPrint4
import Derived.Test.YtmmhdoaepdlmcaaPrint5
import Derived.Test.YtmmhdoaepdlmcaaPrint7
import Derived.Test.YtmmhdoaepdlmcaaHFrameSum
namespace Go.Proofs.Ytmmhdoaepdlmcaa.Print
open Go.RowKit Go.Proofs.YtmmhdoaepdlmcaaW.PrintWords Go.Proofs.YtmmhdoaepdlmcaaW.PrintLast Go.Proofs.YtmmhdoaepdlmcaaW.PrintMore Go.Proofs.YtmmhdoaepdlmcaaX
attribute [local go_sem] max2_int min2_int max_two min_two max_three min_three max_four min_four   -- for this text's walks alone
set_option linter.unusedVariables false
set_option linter.unusedSimpArgs false

/-! ### palinodelaw03_examples: function 9 -/
def palinodelaw03_examples.f (k : Nat)  : Option (Bool) := (frame_Put.f k (⟨#[]⟩ : ByteArray)).bind fun bt209 => ((frame_Put.f k (⟨#[97, 98]⟩ : ByteArray)).bind fun bt211 => (if (bt211.1.size : Int) = 8 then (if 0 ≤ 7 then (if 7 ≤ (bt211.1.size : Int) then ((frame_Take.f (bt211.1.extract 0 7)).bind fun bt213 => (if (bt211.1.extract 0 7).size + 1 ≤ 9223372036854775807 then ((frame_Take.f ((bt211.1.extract 0 7) ++ (⟨#[63]⟩ : ByteArray))).bind fun bt216 => (if bt209.1.toList = ([0, 0, 0, 0, 0] : List UInt8) then (if bt209.2.isNone = true then (if bt211.2.isNone = true then ((palinodelaw03_is.f bt213.2.2 2).bind fun t221 => (if t221 = true then ((palinodelaw03_is.f bt216.2.2 4).bind fun t222 => (if t222 = true then ((frame_Sum.f (⟨#[49, 50, 51, 52, 53, 54, 55, 56, 57]⟩ : ByteArray)).bind fun t223 => (some (t223 == 3808858755))) else (some false))) else (some false))) else (some false)) else (some false)) else (some false))) else (none))) else (none)) else (none)) else (some false)))
theorem palinodelaw03_examples.mono : ∀ k, LeO (palinodelaw03_examples.f k ) (palinodelaw03_examples.f (k + 1) ) := by
 intro  k
 unfold palinodelaw03_examples.f
 repeat' first
   | (with_reducible exact frame_Put.mono _ _)
   | (with_reducible exact LeO.refl _)
   | (with_reducible exact LeO.none _)
   | (with_reducible refine LeO.ite ?_ ?_)
   | (with_reducible refine LeO.bind ?_ (fun _ => ?_))
   | exact frame_Put.mono _ _
   | exact LeO.none _
   | refine LeO.ite ?_ ?_
   | refine LeO.bind ?_ (fun _ => ?_)
set_option maxHeartbeats 8000000 in
set_option maxRecDepth 100000 in
theorem palinodelaw03_examples.calls (k : Nat)  (r : Bool) (w : World) (h : palinodelaw03_examples.f k  = some r) (HRT_ : Aside0 (r = true) := by first | exact ⟨rfl⟩ | assumption) :
  Calls Try.prog 9 #[] w fun e w' => e = .returned (.bool r) ∧ Below w.heap.size w w' := by
 have hu24 := Try.underlying24
 have hu50 := Try.underlying50
 have HB := Aside0.mk (Below.refl w.heap.size w)
 have H : ((frame_Put.f k (⟨#[]⟩ : ByteArray)).bind fun bt209 => ((frame_Put.f k (⟨#[97, 98]⟩ : ByteArray)).bind fun bt211 => (if (bt211.1.size : Int) = 8 then (if 0 ≤ 7 then (if 7 ≤ (bt211.1.size : Int) then ((frame_Take.f (bt211.1.extract 0 7)).bind fun bt213 => (if (bt211.1.extract 0 7).size + 1 ≤ 9223372036854775807 then ((frame_Take.f ((bt211.1.extract 0 7) ++ (⟨#[63]⟩ : ByteArray))).bind fun bt216 => (if bt209.1.toList = ([0, 0, 0, 0, 0] : List UInt8) then (if bt209.2.isNone = true then (if bt211.2.isNone = true then ((palinodelaw03_is.f bt213.2.2 2).bind fun t221 => (if t221 = true then ((palinodelaw03_is.f bt216.2.2 4).bind fun t222 => (if t222 = true then ((frame_Sum.f (⟨#[49, 50, 51, 52, 53, 54, 55, 56, 57]⟩ : ByteArray)).bind fun t223 => (some (t223 == 3808858755))) else (some false))) else (some false))) else (some false)) else (some false)) else (some false))) else (none))) else (none)) else (none)) else (some false)))) = some r := h
 clear h
 replace H := Option.bind_eq_some_iff.mp H
 obtain ⟨⟨t209, t210⟩, A10, H⟩ := H
 replace H : ((frame_Put.f k (⟨#[97, 98]⟩ : ByteArray)).bind fun bt211 => (if (bt211.1.size : Int) = 8 then (if 0 ≤ 7 then (if 7 ≤ (bt211.1.size : Int) then ((frame_Take.f (bt211.1.extract 0 7)).bind fun bt213 => (if (bt211.1.extract 0 7).size + 1 ≤ 9223372036854775807 then ((frame_Take.f ((bt211.1.extract 0 7) ++ (⟨#[63]⟩ : ByteArray))).bind fun bt216 => (if t209.toList = ([0, 0, 0, 0, 0] : List UInt8) then (if t210.isNone = true then (if bt211.2.isNone = true then ((palinodelaw03_is.f bt213.2.2 2).bind fun t221 => (if t221 = true then ((palinodelaw03_is.f bt216.2.2 4).bind fun t222 => (if t222 = true then ((frame_Sum.f (⟨#[49, 50, 51, 52, 53, 54, 55, 56, 57]⟩ : ByteArray)).bind fun t223 => (some (t223 == 3808858755))) else (some false))) else (some false))) else (some false)) else (some false)) else (some false))) else (none))) else (none)) else (none)) else (some false))) = some r := H
 have A1 := Aside0.mk A10
 clear A10
 replace H := Option.bind_eq_some_iff.mp H
 obtain ⟨⟨t211, t212⟩, A20, H⟩ := H
 replace H : (if (t211.size : Int) = 8 then (if 0 ≤ 7 then (if 7 ≤ (t211.size : Int) then ((frame_Take.f (t211.extract 0 7)).bind fun bt213 => (if (t211.extract 0 7).size + 1 ≤ 9223372036854775807 then ((frame_Take.f ((t211.extract 0 7) ++ (⟨#[63]⟩ : ByteArray))).bind fun bt216 => (if t209.toList = ([0, 0, 0, 0, 0] : List UInt8) then (if t210.isNone = true then (if t212.isNone = true then ((palinodelaw03_is.f bt213.2.2 2).bind fun t221 => (if t221 = true then ((palinodelaw03_is.f bt216.2.2 4).bind fun t222 => (if t222 = true then ((frame_Sum.f (⟨#[49, 50, 51, 52, 53, 54, 55, 56, 57]⟩ : ByteArray)).bind fun t223 => (some (t223 == 3808858755))) else (some false))) else (some false))) else (some false)) else (some false)) else (some false))) else (none))) else (none)) else (none)) else (some false)) = some r := H
 have A2 := Aside0.mk A20
 clear A20
 by_cases c3 : (t211.size : Int) = 8
 ·
  rw [if_pos c3] at H
  have c3b0 : ((t211.size : Int) == 8) = true := beq_iff_eq.mpr c3
  have c3b1 : ((t211.size : Int) != 8) = false := bne_eq_false_iff_eq.mpr c3
  clear c3
  by_cases c4 : 0 ≤ 7
  ·
   rw [if_pos c4] at H
   have c4b0 := eq_true c4
   have c4b1 : decide (0 ≤ 7) = true := decide_eq_true c4
   clear c4
   by_cases c5 : 7 ≤ (t211.size : Int)
   ·
    rw [if_pos c5] at H
    have c5b0 := eq_true c5
    have c5b1 : decide (7 ≤ (t211.size : Int)) = true := decide_eq_true c5
    clear c5
    replace H := Option.bind_eq_some_iff.mp H
    obtain ⟨⟨t213, t214, t215⟩, A60, H⟩ := H
    replace H : (if (t211.extract 0 7).size + 1 ≤ 9223372036854775807 then ((frame_Take.f ((t211.extract 0 7) ++ (⟨#[63]⟩ : ByteArray))).bind fun bt216 => (if t209.toList = ([0, 0, 0, 0, 0] : List UInt8) then (if t210.isNone = true then (if t212.isNone = true then ((palinodelaw03_is.f t215 2).bind fun t221 => (if t221 = true then ((palinodelaw03_is.f bt216.2.2 4).bind fun t222 => (if t222 = true then ((frame_Sum.f (⟨#[49, 50, 51, 52, 53, 54, 55, 56, 57]⟩ : ByteArray)).bind fun t223 => (some (t223 == 3808858755))) else (some false))) else (some false))) else (some false)) else (some false)) else (some false))) else (none)) = some r := H
    have A6 := Aside0.mk A60
    clear A60
    have c7b0 := eq_true (of_decide_eq_true (by first | (with_reducible assumption) | assumption) : 0 ≤ 7)
    have c8b0 := eq_true (of_decide_eq_true (by first | (with_reducible assumption) | assumption) : 7 ≤ (t211.size : Int))
    by_cases c9 : (t211.extract 0 7).size + 1 ≤ 9223372036854775807
    ·
     rw [if_pos c9] at H
     have c9b0 := eq_true c9
     have c9b1 : decide ((t211.extract 0 7).size + 1 ≤ 9223372036854775807) = true := decide_eq_true c9
     try have c9b2 : (9223372036854775807 < (t211.extract 0 7).size + 1) = False := eq_false (Nat.not_lt.2 c9)
     replace H := Option.bind_eq_some_iff.mp H
     obtain ⟨⟨t216, t217, t218⟩, A100, H⟩ := H
     replace H : (if t209.toList = ([0, 0, 0, 0, 0] : List UInt8) then (if t210.isNone = true then (if t212.isNone = true then ((palinodelaw03_is.f t215 2).bind fun t221 => (if t221 = true then ((palinodelaw03_is.f t218 4).bind fun t222 => (if t222 = true then ((frame_Sum.f (⟨#[49, 50, 51, 52, 53, 54, 55, 56, 57]⟩ : ByteArray)).bind fun t223 => (some (t223 == 3808858755))) else (some false))) else (some false))) else (some false)) else (some false)) else (some false)) = some r := H
     have A10 := Aside0.mk A100
     clear A100
     by_cases c11 : t209.toList = ([0, 0, 0, 0, 0] : List UInt8)
     ·
      rw [if_pos c11] at H
      have c11b0 : (t209.toList == ([0, 0, 0, 0, 0] : List UInt8)) = true := beq_iff_eq.mpr c11
      have c11b1 : (t209.toList != ([0, 0, 0, 0, 0] : List UInt8)) = false := bne_eq_false_iff_eq.mpr c11
      clear c11
      rcases t210 with _ | q219
      ·
       have H1 : (if t212.isNone = true then ((palinodelaw03_is.f t215 2).bind fun t221 => (if t221 = true then ((palinodelaw03_is.f t218 4).bind fun t222 => (if t222 = true then ((frame_Sum.f (⟨#[49, 50, 51, 52, 53, 54, 55, 56, 57]⟩ : ByteArray)).bind fun t223 => (some (t223 == 3808858755))) else (some false))) else (some false))) else (some false)) = some r := by rw [if_pos (show (none : Option Int).isNone = true by rfl)] at H; exact H
       clear H
       have H := H1
       clear H1
       try simp only [errW_none, errW_some]
       rcases t212 with _ | q220
       ·
        have H1 : ((palinodelaw03_is.f t215 2).bind fun t221 => (if t221 = true then ((palinodelaw03_is.f t218 4).bind fun t222 => (if t222 = true then ((frame_Sum.f (⟨#[49, 50, 51, 52, 53, 54, 55, 56, 57]⟩ : ByteArray)).bind fun t223 => (some (t223 == 3808858755))) else (some false))) else (some false))) = some r := by rw [if_pos (show (none : Option Int).isNone = true by rfl)] at H; exact H
        clear H
        have H := H1
        clear H1
        try simp only [errW_none, errW_some]
        replace H := Option.bind_eq_some_iff.mp H
        obtain ⟨t221, A120, H⟩ := H
        replace H : (if t221 = true then ((palinodelaw03_is.f t218 4).bind fun t222 => (if t222 = true then ((frame_Sum.f (⟨#[49, 50, 51, 52, 53, 54, 55, 56, 57]⟩ : ByteArray)).bind fun t223 => (some (t223 == 3808858755))) else (some false))) else (some false)) = some r := H
        have A12 := Aside0.mk A120
        clear A120
        by_cases c13 : t221 = true
        ·
         subst c13
         have H1 : ((palinodelaw03_is.f t218 4).bind fun t222 => (if t222 = true then ((frame_Sum.f (⟨#[49, 50, 51, 52, 53, 54, 55, 56, 57]⟩ : ByteArray)).bind fun t223 => (some (t223 == 3808858755))) else (some false))) = some r := by rw [if_pos rfl] at H; exact H
         clear H
         have H := H1
         clear H1
         replace H := Option.bind_eq_some_iff.mp H
         obtain ⟨t222, A140, H⟩ := H
         replace H : (if t222 = true then ((frame_Sum.f (⟨#[49, 50, 51, 52, 53, 54, 55, 56, 57]⟩ : ByteArray)).bind fun t223 => (some (t223 == 3808858755))) else (some false)) = some r := H
         have A14 := Aside0.mk A140
         clear A140
         by_cases c15 : t222 = true
         ·
          subst c15
          have H1 : ((frame_Sum.f (⟨#[49, 50, 51, 52, 53, 54, 55, 56, 57]⟩ : ByteArray)).bind fun t223 => (some (t223 == 3808858755))) = some r := by rw [if_pos rfl] at H; exact H
          clear H
          have H := H1
          clear H1
          replace H := Option.bind_eq_some_iff.mp H
          obtain ⟨t223, A160, H⟩ := H
          replace H : (some (t223 == 3808858755)) = some r := H
          have A16 := Aside0.mk A160
          clear A160
          obtain rfl := Option.some.inj H
          go_enter Try.func9, Try.ntmps9
          go_wp2_with (first | ((with_reducible refine gate_callee (f := 10) rfl ?_); refine goesL_ (some 12) rfl rfl Try.func10 (by kernel_rfl) rfl #[.string (⟨#[]⟩ : ByteArray)] rfl (by (try simp only [List.map_toArray, List.map_cons, List.map_nil]); first | done | rfl | (simp only [List.length_drop, List.length_take]; rfl)) ?_; (with_reducible refine (frame_Put.calls k (⟨#[]⟩ : ByteArray) t209 none _ A1.out).mono ?_); rintro e w17 ⟨rfl, hb⟩; refine ⟨_, rfl, ?_⟩; have n0_ := Aside0.mk (Yv HB hb); clear HB; have HB := n0_; clear n0_; (try clear hb); (try clear hb2); (try clear hk); (try clear hi); (try simp only [errW_none, errW_some])) | ((with_reducible refine gate_callee (f := 10) rfl ?_); refine goesL_ (some 16) rfl rfl Try.func10 (by kernel_rfl) rfl #[.string (⟨#[97, 98]⟩ : ByteArray)] rfl (by (try simp only [List.map_toArray, List.map_cons, List.map_nil]); first | done | rfl | (simp only [List.length_drop, List.length_take]; rfl)) ?_; (with_reducible refine (frame_Put.calls k (⟨#[97, 98]⟩ : ByteArray) t211 none _ A2.out).mono ?_); rintro e w18 ⟨rfl, hb⟩; refine ⟨_, rfl, ?_⟩; have n0_ := Aside0.mk (Yv HB hb); clear HB; have HB := n0_; clear n0_; (try clear hb); (try clear hb2); (try clear hk); (try clear hi); (try simp only [errW_none, errW_some])) | ((with_reducible refine gate_callee (f := 15) rfl ?_); refine goesL_ (some 25) rfl rfl Try.func15 (by kernel_rfl) rfl #[.string (t211.extract 0 7)] rfl (by (try simp only [List.map_toArray, List.map_cons, List.map_nil]); first | done | rfl | (simp only [List.length_drop, List.length_take]; rfl)) ?_; (with_reducible refine (frame_Take.calls (t211.extract 0 7) t213 t214 t215 _ A6.out).mono ?_); rintro e w19 ⟨rfl, hb⟩; refine ⟨_, rfl, ?_⟩; have n0_ := Aside0.mk (Yv HB hb); clear HB; have HB := n0_; clear n0_; (try clear hb); (try clear hb2); (try clear hk); (try clear hi); (try simp only [errW_none, errW_some])) | ((with_reducible refine gate_callee (f := 15) rfl ?_); refine goesL_ (some 33) rfl rfl Try.func15 (by kernel_rfl) rfl #[.string ((t211.extract 0 7) ++ (⟨#[63]⟩ : ByteArray))] rfl (by (try simp only [List.map_toArray, List.map_cons, List.map_nil]); first | done | rfl | (simp only [List.length_drop, List.length_take]; rfl)) ?_; (with_reducible refine (frame_Take.calls ((t211.extract 0 7) ++ (⟨#[63]⟩ : ByteArray)) t216 t217 t218 _ A10.out).mono ?_); rintro e w20 ⟨rfl, hb⟩; refine ⟨_, rfl, ?_⟩; have n0_ := Aside0.mk (Yv HB hb); clear HB; have HB := n0_; clear n0_; (try clear hb); (try clear hb2); (try clear hk); (try clear hi); (try simp only [errW_none, errW_some]); have CA12 := fun W => palinodelaw03_is.calls t215 2 true W A12.out; try simp only [errW_none, errW_some] at CA12) | (go_at_call 14; (with_reducible refine (CA12 _).mono ?_); rintro e w' ⟨rfl, ⟨nd, rfl⟩⟩; have CA14 := fun W => palinodelaw03_is.calls t218 4 true W A14.out; try simp only [errW_none, errW_some] at CA14) | (go_at_call 14; (with_reducible refine (CA14 _).mono ?_); rintro e w' ⟨rfl, ⟨nd, rfl⟩⟩) | (go_at_call 12; (with_reducible refine (frame_Sum.calls (⟨#[49, 50, 51, 52, 53, 54, 55, 56, 57]⟩ : ByteArray) t223 _ A16.out).mono ?_); rintro e w21 ⟨rfl, hb⟩; have n0_ := Aside0.mk (Yv HB hb); clear HB; have HB := n0_; clear n0_; (try clear hb); (try clear hb2); (try clear hk); (try clear hi)))
          go_ret
          first | (refine absurd c11b0 ?_; simp [*]; done) | exact ⟨by first | rfl | (simp [errW_none, errW_some] <;> rfl) | (simp [*, errW_none, errW_some] <;> rfl), Yr HB⟩
         ·
          replace c15 := Bool.eq_false_iff.mpr c15
          subst c15
          have H1 : (some false) = some r := by rw [if_neg (show ¬ (false = true) by decide)] at H; exact H
          clear H
          have H := H1
          clear H1
          exact absurd ((Option.some.inj H).trans HRT_.out) (by decide)
        ·
         replace c13 := Bool.eq_false_iff.mpr c13
         subst c13
         have H1 : (some false) = some r := by rw [if_neg (show ¬ (false = true) by decide)] at H; exact H
         clear H
         have H := H1
         clear H1
         exact absurd ((Option.some.inj H).trans HRT_.out) (by decide)
       ·
        have H1 : (some false) = some r := by rw [if_neg (show ¬ (some q220).isNone = true by simp)] at H; exact H
        clear H
        have H := H1
        clear H1
        try simp only [errW_none, errW_some]
        exact absurd ((Option.some.inj H).trans HRT_.out) (by decide)
      ·
       have H1 : (some false) = some r := by rw [if_neg (show ¬ (some q219).isNone = true by simp)] at H; exact H
       clear H
       have H := H1
       clear H1
       try simp only [errW_none, errW_some]
       exact absurd ((Option.some.inj H).trans HRT_.out) (by decide)
     ·
      rw [if_neg c11] at H
      have c11b0 : (t209.toList == ([0, 0, 0, 0, 0] : List UInt8)) = false := beq_eq_false_iff_ne.mpr c11
      have c11b1 : (t209.toList != ([0, 0, 0, 0, 0] : List UInt8)) = true := bne_iff_ne.mpr c11
      exact absurd ((Option.some.inj H).trans HRT_.out) (by decide)
    ·
     rw [if_neg c9] at H
     exact absurd H (by simp)
   ·
    rw [if_neg c5] at H
    exact absurd H (by simp)
  ·
   rw [if_neg c4] at H
   exact absurd H (by simp)
 ·
  rw [if_neg c3] at H
  have c3b0 : ((t211.size : Int) == 8) = false := beq_eq_false_iff_ne.mpr c3
  have c3b1 : ((t211.size : Int) != 8) = true := bne_iff_ne.mpr c3
  exact absurd ((Option.some.inj H).trans HRT_.out) (by decide)

end Go.Proofs.Ytmmhdoaepdlmcaa.Print
