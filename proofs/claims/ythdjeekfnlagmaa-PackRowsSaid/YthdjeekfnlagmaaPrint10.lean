-- Printed out of the translation by a program of this session's own. Not trusted: Lean checks it.
import Derived.Test.YthdjeekfnlagmaaPrint0
import Derived.Test.YthdjeekfnlagmaaPrint3
import Derived.Test.YthdjeekfnlagmaaPrint5
import Derived.Test.YthdjeekfnlagmaaPrint9
import Derived.Test.YthdjeekfnlagmaaHPackRow
namespace Go.Proofs.Ythdjeekfnlagmaa.Print
open Go.RowKit Go.Proofs.YthdjeekfnlagmaaW.PrintWords Go.Proofs.YthdjeekfnlagmaaW.PrintLast Go.Proofs.YthdjeekfnlagmaaW.PrintMore Go.Proofs.YthdjeekfnlagmaaX
attribute [local go_sem] max2_int min2_int max_two min_two max_three min_three max_four min_four   -- for this text's walks alone
set_option linter.unusedVariables false
set_option linter.unusedSimpArgs false

/-! ### palinodelaw01_texts: function 24 -/
def palinodelaw01_texts.l0 : Nat → List ByteArray → List ByteArray → Int → Option (Bool)
 | 0, _, _, _ => none
 | k + 1, x0, x1, x5 => if x5 < (x0.length : Int) then (if 0 ≤ x5 then (if x5 < (x1.length : Int) then (if (rdOf ByteArray.empty x0 x5).toList = (rdOf ByteArray.empty x1 x5).toList then (palinodelaw01_texts.l0 k x0 x1 (wrap64 (x5 + 1))) else (some false)) else (none)) else (none)) else (some true)
def palinodelaw01_texts.f (k : Nat) (l0 : List ByteArray) (l1 : List ByteArray) : Option (Bool) := if (l0.length : Int) = (l1.length : Int) then (palinodelaw01_texts.l0 k l0 l1 0) else (some false)
theorem palinodelaw01_texts.mono_l : ∀ k, (∀ y0 y1 y2, LeO (palinodelaw01_texts.l0 k y0 y1 y2) (palinodelaw01_texts.l0 (k + 1) y0 y1 y2))
 | 0 => fun _ _ _ r h => by simp [palinodelaw01_texts.l0] at h
 | k + 1 => by
  have ih0 := palinodelaw01_texts.mono_l k
  ·
   intro y0 y1 y2
   unfold palinodelaw01_texts.l0
   repeat' first
   | (with_reducible exact ih0 _ _ _)
   | (with_reducible exact LeO.refl _)
   | (with_reducible exact LeO.none _)
   | (with_reducible refine LeO.ite ?_ ?_)
   | (with_reducible refine LeO.bind ?_ (fun _ => ?_))
   | exact ih0 _ _ _
   | exact LeO.none _
   | refine LeO.ite ?_ ?_
   | refine LeO.bind ?_ (fun _ => ?_)
theorem palinodelaw01_texts.mono : ∀ a0 a1 k, LeO (palinodelaw01_texts.f k a0 a1) (palinodelaw01_texts.f (k + 1) a0 a1) := by
 intro a0 a1 k
 have ih0 := palinodelaw01_texts.mono_l k
 unfold palinodelaw01_texts.f
 repeat' first
   | (with_reducible exact ih0 _ _ _)
   | (with_reducible exact LeO.refl _)
   | (with_reducible exact LeO.none _)
   | (with_reducible refine LeO.ite ?_ ?_)
   | (with_reducible refine LeO.bind ?_ (fun _ => ?_))
   | exact ih0 _ _ _
   | exact LeO.none _
   | refine LeO.ite ?_ ?_
   | refine LeO.bind ?_ (fun _ => ?_)
set_option maxHeartbeats 8000000 in
set_option maxRecDepth 100000 in
theorem palinodelaw01_texts.calls (k : Nat) (A0 : Option Addr) (c0 : Nat) (l0 : List ByteArray) (A1 : Option Addr) (c1 : Nat) (l1 : List ByteArray) (r : Bool) (w : World) (hr0 : Kd.C Kd.string w A0 l0.length l0) (hc0 : l0.length ≤ c0) (hr1 : Kd.C Kd.string w A1 l1.length l1) (hc1 : l1.length ≤ c1) (h : palinodelaw01_texts.f k l0 l1 = some r) :
  Calls Try.prog 24 #[.slice A0 l0.length c0, .slice A1 l1.length c1] w fun e w' => e = .returned (.bool r) ∧ Drawn0 w w' := by
 have HR0 := Aside0.mk hr0
 have HC0 := Aside0.mk hc0
 clear hr0 hc0
 have HR1 := Aside0.mk hr1
 have HC1 := Aside0.mk hc1
 clear hr1 hc1
 have H : (if (l0.length : Int) = (l1.length : Int) then (palinodelaw01_texts.l0 k l0 l1 0) else (some false)) = some r := h
 clear h
 by_cases c3 : (l0.length : Int) = (l1.length : Int)
 ·
  rw [if_pos c3] at H
  have c3b0 : ((l0.length : Int) == (l1.length : Int)) = true := beq_iff_eq.mpr c3
  have c3b1 : ((l0.length : Int) != (l1.length : Int)) = false := bne_eq_false_iff_eq.mpr c3
  have c3b2 : (l0.length == l1.length) = true := by first | simpa using c3 | (simp at c3 ⊢; omega)
  clear c3
  have H' := Aside0.mk H
  clear H
  go_enter Try.func24, Try.ntmps24
  go_wp2
  repeat (go_quiet (fail); try go_wp2)
  go_loopg [5] k (fun kq v5 w' => ∃ (x5_1 : Int), v5 = .int .i64 x5_1 ∧ Aside0 (palinodelaw01_texts.l0 kq l0 l1 x5_1 = some r) ∧ Aside0 (kq ≤ k) ∧ Drawn0 w w')
  case atStart => exact ⟨(0), (by first | rfl | (simp; done) | (simp [*]; done)), H', ⟨Nat.le_refl _⟩, by repeat (first | exact Drawn0.refl _ | apply Drawn0.step)⟩
  case round =>
   clear H'
   try clear c1
   try clear c2
   try clear p2
   try clear c3
   try clear c3b0
   try clear c3b1
   try clear c3b2
   obtain ⟨x5_1, rfl, HA, HK1, ⟨m1, rfl⟩⟩ := hrel
   cases gk with
   | zero => exact absurd HA.out (by simp [palinodelaw01_texts.l0])
   | succ k1 =>
    have H := HA.out
    clear HA
    simp only [palinodelaw01_texts.l0] at H
    by_cases c4 : x5_1 < (l0.length : Int)
    ·
     rw [if_pos c4] at H
     have c4b0 : decide (x5_1 < (l0.length : Int)) = true := decide_eq_true c4
     clear c4
     by_cases c5 : 0 ≤ x5_1
     ·
      rw [if_pos c5] at H
      have c5b0 : decide (0 ≤ x5_1) = true := decide_eq_true c5
      clear c5
      by_cases c6 : x5_1 < (l1.length : Int)
      ·
       rw [if_pos c6] at H
       have c6b0 : decide (x5_1 < (l1.length : Int)) = true := decide_eq_true c6
       clear c6
       by_cases c7 : (rdOf ByteArray.empty l0 x5_1).toList = (rdOf ByteArray.empty l1 x5_1).toList
       ·
        rw [if_pos c7] at H
        have c7b0 : ((rdOf ByteArray.empty l0 x5_1).toList == (rdOf ByteArray.empty l1 x5_1).toList) = true := beq_iff_eq.mpr c7
        have c7b1 : ((rdOf ByteArray.empty l0 x5_1).toList != (rdOf ByteArray.empty l1 x5_1).toList) = false := bne_eq_false_iff_eq.mpr c7
        clear c7
        have H' := Aside0.mk H
        clear H
        have p361 : 0 ≤ (x5_1 : Int) := of_decide_eq_true (by first | (with_reducible assumption) | assumption)
        have q361 : x5_1 < (l0.length : Int) := of_decide_eq_true (by first | (with_reducible assumption) | assumption)
        obtain ⟨ad361, e361, hx361_0⟩ := Kd.at_string HR0.out x5_1 p361 q361
        cases e361
        replace p361 := eq_true p361
        replace q361 := eq_true q361
        have p362 : 0 ≤ (x5_1 : Int) := of_decide_eq_true (by first | (with_reducible assumption) | assumption)
        have q362 : x5_1 < (l1.length : Int) := of_decide_eq_true (by first | (with_reducible assumption) | assumption)
        obtain ⟨ad362, e362, hx362_0⟩ := Kd.at_string HR1.out x5_1 p362 q362
        cases e362
        replace p362 := eq_true p362
        replace q362 := eq_true q362
        go_wp2
        repeat (go_quiet (fail); try go_wp2)
        go_roundg k1
        case measure => have := HK1.out; omega
        case rel => exact ⟨(wrap64 (x5_1 + 1)), (by first | rfl | (simp; done) | (simp [*]; done)), H', ⟨by have := HK1.out; omega⟩, by repeat (first | exact Drawn0.refl _ | apply Drawn0.step)⟩
       ·
        rw [if_neg c7] at H
        have c7b0 : ((rdOf ByteArray.empty l0 x5_1).toList == (rdOf ByteArray.empty l1 x5_1).toList) = false := beq_eq_false_iff_ne.mpr c7
        have c7b1 : ((rdOf ByteArray.empty l0 x5_1).toList != (rdOf ByteArray.empty l1 x5_1).toList) = true := bne_iff_ne.mpr c7
        obtain rfl := Option.some.inj H
        have p361 : 0 ≤ (x5_1 : Int) := of_decide_eq_true (by first | (with_reducible assumption) | assumption)
        have q361 : x5_1 < (l0.length : Int) := of_decide_eq_true (by first | (with_reducible assumption) | assumption)
        obtain ⟨ad361, e361, hx361_0⟩ := Kd.at_string HR0.out x5_1 p361 q361
        cases e361
        replace p361 := eq_true p361
        replace q361 := eq_true q361
        have p362 : 0 ≤ (x5_1 : Int) := of_decide_eq_true (by first | (with_reducible assumption) | assumption)
        have q362 : x5_1 < (l1.length : Int) := of_decide_eq_true (by first | (with_reducible assumption) | assumption)
        obtain ⟨ad362, e362, hx362_0⟩ := Kd.at_string HR1.out x5_1 p362 q362
        cases e362
        replace p362 := eq_true p362
        replace q362 := eq_true q362
        go_wp2
        repeat (go_quiet (fail); try go_wp2)
        go_ret
        exact ⟨by first | rfl | (simp; done) | (simp [*]; done), by repeat (first | exact Drawn0.refl _ | apply Drawn0.step)⟩
      ·
       rw [if_neg c6] at H
       exact absurd H (by simp)
     ·
      rw [if_neg c5] at H
      exact absurd H (by simp)
    ·
     rw [if_neg c4] at H
     have c4b0 : decide (x5_1 < (l0.length : Int)) = false := decide_eq_false c4
     clear c4
     obtain rfl := Option.some.inj H
     go_wp2
     repeat (go_quiet (fail); try go_wp2)
     go_ret
     exact ⟨by first | rfl | (simp; done) | (simp [*]; done), by repeat (first | exact Drawn0.refl _ | apply Drawn0.step)⟩
 ·
  rw [if_neg c3] at H
  have c3b0 : ((l0.length : Int) == (l1.length : Int)) = false := beq_eq_false_iff_ne.mpr c3
  have c3b1 : ((l0.length : Int) != (l1.length : Int)) = true := bne_iff_ne.mpr c3
  have c3b2 : (l0.length == l1.length) = false := by first | simpa using c3 | (simp at c3 ⊢; omega)
  obtain rfl := Option.some.inj H
  go_enter Try.func24, Try.ntmps24
  go_wp2
  repeat (go_quiet (fail); try go_wp2)
  go_ret
  exact ⟨by first | rfl | (simp; done) | (simp [*]; done), by repeat (first | exact Drawn0.refl _ | apply Drawn0.step)⟩

/-! ### palinodelaw01_PackRows: function 8 -/
mutual
def palinodelaw01_PackRows.l0 : Nat → ByteArray → Bool → ByteArray → Option Int → ByteArray → Bool → List ByteArray → Int → Int → Option (Bool)
 | 0, _, _, _, _, _, _, _, _, _ => none
 | k + 1, x1, x5, x6, x7, x8, x9, x10, x11, x12 => if x12 < 2 then ((pack_ReadRow.f k x1).bind fun bt374 => ((palinodelaw01_texts.f k bt374.1 x10).bind fun t378 => ((palinodelaw01_is.f bt374.2 x11).bind fun t379 => (if t378 = true then (palinodelaw01_PackRows.j1 k x1 x5 x6 x7 x8 x9 x10 x11 x12 bt374.1 (!t379)) else (palinodelaw01_PackRows.j1 k x1 x5 x6 x7 x8 x9 x10 x11 x12 bt374.1 true))))) else (if x5 = true then (if x6.toList = x8.toList then (if x9 = true then (if x7.isNone = true then (some true) else (some false)) else ((palinodelaw01_is.f x7 5).bind fun t373 => (some t373))) else (some false)) else (some false))
def palinodelaw01_PackRows.j1 : Nat → ByteArray → Bool → ByteArray → Option Int → ByteArray → Bool → List ByteArray → Int → Int → List ByteArray → Bool → Option (Bool)
 | 0, _, _, _, _, _, _, _, _, _, _, _ => none
 | k + 1, x1, x5, x6, x7, x8, x9, x10, x11, x12, x13, x54 => if x54 = true then (some false) else (palinodelaw01_PackRows.l1 k x1 x5 x6 x7 x8 x9 x10 x11 x12 x13 0)
def palinodelaw01_PackRows.l1 : Nat → ByteArray → Bool → ByteArray → Option Int → ByteArray → Bool → List ByteArray → Int → Int → List ByteArray → Int → Option (Bool)
 | 0, _, _, _, _, _, _, _, _, _, _, _ => none
 | k + 1, x1, x5, x6, x7, x8, x9, x10, x11, x12, x13, x17 => if x17 < (x13.length : Int) then (if 0 ≤ x17 then (palinodelaw01_PackRows.l1 k x1 x5 x6 x7 x8 x9 x10 x11 x12 (x13.set (x17 : Int).toNat (⟨#[63]⟩ : ByteArray)) (wrap64 (x17 + 1))) else (none)) else (palinodelaw01_PackRows.l0 k x1 x5 x6 x7 x8 x9 x10 x11 (wrap64 (x12 + 1)))
end
def palinodelaw01_PackRows.f (k : Nat) (l0 : List ByteArray) (a1 : ByteArray) : Option (Bool) := (palinodelaw01_examples.f k).bind fun t363 => ((pack_Row.f l0).bind fun bt364 => ((palinoderef01_Row.f k l0).bind fun bt366 => ((palinoderef01_ReadRow.f k a1).bind fun bt368 => (palinodelaw01_PackRows.l0 k a1 t363 bt364.1 bt364.2 bt366.1 bt366.2 bt368.1 bt368.2 0))))
theorem palinodelaw01_PackRows.mono_l : ∀ k, (∀ y0 y1 y2 y3 y4 y5 y6 y7 y8, LeO (palinodelaw01_PackRows.l0 k y0 y1 y2 y3 y4 y5 y6 y7 y8) (palinodelaw01_PackRows.l0 (k + 1) y0 y1 y2 y3 y4 y5 y6 y7 y8)) ∧ (∀ y0 y1 y2 y3 y4 y5 y6 y7 y8 y9 y10, LeO (palinodelaw01_PackRows.j1 k y0 y1 y2 y3 y4 y5 y6 y7 y8 y9 y10) (palinodelaw01_PackRows.j1 (k + 1) y0 y1 y2 y3 y4 y5 y6 y7 y8 y9 y10)) ∧ (∀ y0 y1 y2 y3 y4 y5 y6 y7 y8 y9 y10, LeO (palinodelaw01_PackRows.l1 k y0 y1 y2 y3 y4 y5 y6 y7 y8 y9 y10) (palinodelaw01_PackRows.l1 (k + 1) y0 y1 y2 y3 y4 y5 y6 y7 y8 y9 y10))
 | 0 => ⟨fun _ _ _ _ _ _ _ _ _ r h => by simp [palinodelaw01_PackRows.l0] at h, fun _ _ _ _ _ _ _ _ _ _ _ r h => by simp [palinodelaw01_PackRows.j1] at h, fun _ _ _ _ _ _ _ _ _ _ _ r h => by simp [palinodelaw01_PackRows.l1] at h⟩
 | k + 1 => by
  obtain ⟨ih0, ih1, ih2⟩ := palinodelaw01_PackRows.mono_l k
  refine ⟨?_, ?_, ?_⟩
  ·
   intro y0 y1 y2 y3 y4 y5 y6 y7 y8
   unfold palinodelaw01_PackRows.l0
   repeat' first
   | (with_reducible exact ih0 _ _ _ _ _ _ _ _ _)
   | (with_reducible exact ih1 _ _ _ _ _ _ _ _ _ _ _)
   | (with_reducible exact ih2 _ _ _ _ _ _ _ _ _ _ _)
   | (with_reducible exact pack_ReadRow.mono _ _)
   | (with_reducible exact palinodelaw01_examples.mono _)
   | (with_reducible exact palinodelaw01_texts.mono _ _ _)
   | (with_reducible exact palinoderef01_ReadRow.mono _ _)
   | (with_reducible exact palinoderef01_Row.mono _ _)
   | (with_reducible exact LeO.refl _)
   | (with_reducible exact LeO.none _)
   | (with_reducible refine LeO.ite ?_ ?_)
   | (with_reducible refine LeO.bind ?_ (fun _ => ?_))
   | exact ih0 _ _ _ _ _ _ _ _ _
   | exact ih1 _ _ _ _ _ _ _ _ _ _ _
   | exact ih2 _ _ _ _ _ _ _ _ _ _ _
   | exact pack_ReadRow.mono _ _
   | exact palinodelaw01_examples.mono _
   | exact palinodelaw01_texts.mono _ _ _
   | exact palinoderef01_ReadRow.mono _ _
   | exact palinoderef01_Row.mono _ _
   | exact LeO.none _
   | refine LeO.ite ?_ ?_
   | refine LeO.bind ?_ (fun _ => ?_)
  ·
   intro y0 y1 y2 y3 y4 y5 y6 y7 y8 y9 y10
   unfold palinodelaw01_PackRows.j1
   repeat' first
   | (with_reducible exact ih0 _ _ _ _ _ _ _ _ _)
   | (with_reducible exact ih1 _ _ _ _ _ _ _ _ _ _ _)
   | (with_reducible exact ih2 _ _ _ _ _ _ _ _ _ _ _)
   | (with_reducible exact pack_ReadRow.mono _ _)
   | (with_reducible exact palinodelaw01_examples.mono _)
   | (with_reducible exact palinodelaw01_texts.mono _ _ _)
   | (with_reducible exact palinoderef01_ReadRow.mono _ _)
   | (with_reducible exact palinoderef01_Row.mono _ _)
   | (with_reducible exact LeO.refl _)
   | (with_reducible exact LeO.none _)
   | (with_reducible refine LeO.ite ?_ ?_)
   | (with_reducible refine LeO.bind ?_ (fun _ => ?_))
   | exact ih0 _ _ _ _ _ _ _ _ _
   | exact ih1 _ _ _ _ _ _ _ _ _ _ _
   | exact ih2 _ _ _ _ _ _ _ _ _ _ _
   | exact pack_ReadRow.mono _ _
   | exact palinodelaw01_examples.mono _
   | exact palinodelaw01_texts.mono _ _ _
   | exact palinoderef01_ReadRow.mono _ _
   | exact palinoderef01_Row.mono _ _
   | exact LeO.none _
   | refine LeO.ite ?_ ?_
   | refine LeO.bind ?_ (fun _ => ?_)
  ·
   intro y0 y1 y2 y3 y4 y5 y6 y7 y8 y9 y10
   unfold palinodelaw01_PackRows.l1
   repeat' first
   | (with_reducible exact ih0 _ _ _ _ _ _ _ _ _)
   | (with_reducible exact ih1 _ _ _ _ _ _ _ _ _ _ _)
   | (with_reducible exact ih2 _ _ _ _ _ _ _ _ _ _ _)
   | (with_reducible exact pack_ReadRow.mono _ _)
   | (with_reducible exact palinodelaw01_examples.mono _)
   | (with_reducible exact palinodelaw01_texts.mono _ _ _)
   | (with_reducible exact palinoderef01_ReadRow.mono _ _)
   | (with_reducible exact palinoderef01_Row.mono _ _)
   | (with_reducible exact LeO.refl _)
   | (with_reducible exact LeO.none _)
   | (with_reducible refine LeO.ite ?_ ?_)
   | (with_reducible refine LeO.bind ?_ (fun _ => ?_))
   | exact ih0 _ _ _ _ _ _ _ _ _
   | exact ih1 _ _ _ _ _ _ _ _ _ _ _
   | exact ih2 _ _ _ _ _ _ _ _ _ _ _
   | exact pack_ReadRow.mono _ _
   | exact palinodelaw01_examples.mono _
   | exact palinodelaw01_texts.mono _ _ _
   | exact palinoderef01_ReadRow.mono _ _
   | exact palinoderef01_Row.mono _ _
   | exact LeO.none _
   | refine LeO.ite ?_ ?_
   | refine LeO.bind ?_ (fun _ => ?_)
theorem palinodelaw01_PackRows.mono : ∀ a0 a1 k, LeO (palinodelaw01_PackRows.f k a0 a1) (palinodelaw01_PackRows.f (k + 1) a0 a1) := by
 intro a0 a1 k
 obtain ⟨ih0, ih1, ih2⟩ := palinodelaw01_PackRows.mono_l k
 unfold palinodelaw01_PackRows.f
 repeat' first
   | (with_reducible exact ih0 _ _ _ _ _ _ _ _ _)
   | (with_reducible exact ih1 _ _ _ _ _ _ _ _ _ _ _)
   | (with_reducible exact ih2 _ _ _ _ _ _ _ _ _ _ _)
   | (with_reducible exact pack_ReadRow.mono _ _)
   | (with_reducible exact palinodelaw01_examples.mono _)
   | (with_reducible exact palinodelaw01_texts.mono _ _ _)
   | (with_reducible exact palinoderef01_ReadRow.mono _ _)
   | (with_reducible exact palinoderef01_Row.mono _ _)
   | (with_reducible exact LeO.refl _)
   | (with_reducible exact LeO.none _)
   | (with_reducible refine LeO.ite ?_ ?_)
   | (with_reducible refine LeO.bind ?_ (fun _ => ?_))
   | exact ih0 _ _ _ _ _ _ _ _ _
   | exact ih1 _ _ _ _ _ _ _ _ _ _ _
   | exact ih2 _ _ _ _ _ _ _ _ _ _ _
   | exact pack_ReadRow.mono _ _
   | exact palinodelaw01_examples.mono _
   | exact palinodelaw01_texts.mono _ _ _
   | exact palinoderef01_ReadRow.mono _ _
   | exact palinoderef01_Row.mono _ _
   | exact LeO.none _
   | refine LeO.ite ?_ ?_
   | refine LeO.bind ?_ (fun _ => ?_)
set_option maxHeartbeats 8000000 in
set_option maxRecDepth 100000 in
theorem palinodelaw01_PackRows.calls (k : Nat) (A0 : Option Addr) (c0 : Nat) (l0 : List ByteArray) (a1 : ByteArray) (r : Bool) (w : World) (hr0 : Kd.C Kd.string w A0 l0.length l0) (hc0 : l0.length ≤ c0) (h : palinodelaw01_PackRows.f k l0 a1 = some r) (HEX_ : Aside0 (∀ k_ r_, palinodelaw01_examples.f k_ = some r_ → r_ = true)) (HRT_ : Aside0 (r = true) := by first | exact ⟨rfl⟩ | assumption) :
  Calls Try.prog 8 #[.slice A0 l0.length c0, .string a1] w fun e w' => e = .returned (.bool r) ∧ Below w.heap.size w w' := by
 have hu24 := Try.underlying24
 have hu54 := Try.underlying54
 have HR0 := Aside0.mk hr0
 have HC0 := Aside0.mk hc0
 clear hr0 hc0
 have HB := Aside0.mk (Below.refl w.heap.size w)
 have H : ((palinodelaw01_examples.f k).bind fun t363 => ((pack_Row.f l0).bind fun bt364 => ((palinoderef01_Row.f k l0).bind fun bt366 => ((palinoderef01_ReadRow.f k a1).bind fun bt368 => (palinodelaw01_PackRows.l0 k a1 t363 bt364.1 bt364.2 bt366.1 bt366.2 bt368.1 bt368.2 0))))) = some r := h
 clear h
 replace H := Option.bind_eq_some_iff.mp H
 obtain ⟨t363, A30, H⟩ := H
 replace H : ((pack_Row.f l0).bind fun bt364 => ((palinoderef01_Row.f k l0).bind fun bt366 => ((palinoderef01_ReadRow.f k a1).bind fun bt368 => (palinodelaw01_PackRows.l0 k a1 t363 bt364.1 bt364.2 bt366.1 bt366.2 bt368.1 bt368.2 0)))) = some r := H
 have A3 := Aside0.mk A30
 have HTA3_ : Aside0 (t363 = true) := ⟨HEX_.out _ _ A30⟩
 clear A30
 replace H := Option.bind_eq_some_iff.mp H
 obtain ⟨⟨t364, t365⟩, A40, H⟩ := H
 replace H : ((palinoderef01_Row.f k l0).bind fun bt366 => ((palinoderef01_ReadRow.f k a1).bind fun bt368 => (palinodelaw01_PackRows.l0 k a1 t363 t364 t365 bt366.1 bt366.2 bt368.1 bt368.2 0))) = some r := H
 have A4 := Aside0.mk A40
 clear A40
 replace H := Option.bind_eq_some_iff.mp H
 obtain ⟨⟨t366, t367⟩, A50, H⟩ := H
 replace H : ((palinoderef01_ReadRow.f k a1).bind fun bt368 => (palinodelaw01_PackRows.l0 k a1 t363 t364 t365 t366 t367 bt368.1 bt368.2 0)) = some r := H
 have A5 := Aside0.mk A50
 clear A50
 replace H := Option.bind_eq_some_iff.mp H
 obtain ⟨⟨t368, t369⟩, A60, H⟩ := H
 replace H : (palinodelaw01_PackRows.l0 k a1 t363 t364 t365 t366 t367 t368 t369 0) = some r := H
 have A6 := Aside0.mk A60
 clear A60
 have H' := Aside0.mk H
 clear H
 go_enter Try.func8, Try.ntmps8
 go_wp2_with (first | ((with_reducible refine gate_callee (f := 10) rfl ?_); refine goesL_ (some 18) rfl rfl Try.func10 (by kernel_rfl) rfl #[] rfl (by (try simp only [List.map_toArray, List.map_cons, List.map_nil]); first | done | rfl | (simp only [List.length_drop, List.length_take]; rfl)) ?_; (with_reducible refine (palinodelaw01_examples.calls k  t363 _ A3.out).mono ?_); rintro e w7 ⟨rfl, hb⟩; refine ⟨_, rfl, ?_⟩; have n0_ := Aside0.mk (Yv HB hb); clear HB; have HB := n0_; clear n0_; (try clear hb); (try clear hb2); (try clear hk); (try clear hi)) | ((with_reducible refine gate_callee (f := 20) rfl ?_); refine goesL_ (some 21) rfl rfl Try.func20 (by kernel_rfl) rfl #[.slice A0 l0.length c0] rfl (by (try simp only [List.map_toArray, List.map_cons, List.map_nil]); first | done | rfl | (simp only [List.length_drop, List.length_take]; rfl)) ?_; (with_reducible refine (pack_Row.calls _ _ l0 t364 t365 _ ?side1 ?side2 A4.out).mono ?_); (case side1 => repeat (first | exact (Kd.C_below HR0.out HB.out) | (with_reducible refine Kd.C_alloc ?_ _) | (with_reducible refine Kd.C_drewN ?_ _) | (with_reducible refine Kd.C_drew ?_))); (case side2 => exact HC0.out); rintro e w8 ⟨rfl, hb⟩; refine ⟨_, rfl, ?_⟩; have n0_ := Aside0.mk (Yv HB hb); clear HB; have HB := n0_; clear n0_; (try clear hb); (try clear hb2); (try clear hk); (try clear hi); (try simp only [errW_none, errW_some])) | ((with_reducible refine gate_callee (f := 21) rfl ?_); refine goesL_ (some 26) rfl rfl Try.func21 (by kernel_rfl) rfl #[.slice A0 l0.length c0] rfl (by (try simp only [List.map_toArray, List.map_cons, List.map_nil]); first | done | rfl | (simp only [List.length_drop, List.length_take]; rfl)) ?_; (with_reducible refine (palinoderef01_Row.calls k _ _ l0 t366 t367 _ ?side1 ?side2 A5.out).mono ?_); (case side1 => repeat (first | exact (Kd.C_below HR0.out HB.out) | (with_reducible refine Kd.C_alloc ?_ _) | (with_reducible refine Kd.C_drewN ?_ _) | (with_reducible refine Kd.C_drew ?_))); (case side2 => exact HC0.out); rintro e w9 ⟨rfl, hb⟩; refine ⟨_, rfl, ?_⟩; have n0_ := Aside0.mk (Yv HB hb); clear HB; have HB := n0_; clear n0_; (try clear hb); (try clear hb2); (try clear hk); (try clear hi)) | ((with_reducible refine gate_callee (f := 22) rfl ?_); refine goesL_ (some 31) rfl rfl Try.func22 (by kernel_rfl) rfl #[.string a1] rfl (by (try simp only [List.map_toArray, List.map_cons, List.map_nil]); first | done | rfl | (simp only [List.length_drop, List.length_take]; rfl)) ?_; (with_reducible refine (palinoderef01_ReadRow.calls k a1 t368 t369 _ A6.out).mono ?_); rintro e w10 ⟨v370, rfl, ho0, hb⟩; refine ⟨_, rfl, ?_⟩; have n0_ := Aside0.mk (Kd.R_lower ho0 (below_size (Yr HB))); have n1_ := Aside0.mk (Yv HB hb); clear HB; have HO371 := n0_; have HB := n1_; clear n0_ n1_; (try clear hb); (try clear hb2); (try clear hk); (try clear hi); (try clear ho0)))
 go_loopg [12] k (fun kq v12 w' => ∃ (x10_1 : List ByteArray) (x12_1 : Int), v12 = .int .i64 x12_1 ∧ Aside0 (palinodelaw01_PackRows.l0 kq a1 t363 t364 t365 t366 t367 x10_1 t369 x12_1 = some r) ∧ Aside0 (kq ≤ k) ∧ Aside0 (Kd.R Kd.string 9 w' w.heap.size (fun _ => True) v370 x10_1) ∧ Aside0 (Below w.heap.size w w'))
 case atStart => exact ⟨(t368), (0), (by first | rfl | (simp; done) | (simp [*]; done)), H', ⟨Nat.le_refl _⟩, ⟨by (with_reducible repeat (first | apply Kd.R_alloc | apply Kd.R_drewN | apply Kd.R_drew)); exact HO371.out⟩, ⟨Yr HB⟩⟩
 case round =>
  clear H'
  try clear c1
  try clear c2
  try clear p2
  try clear c8
  try clear c10
  obtain ⟨x10_1, x12_1, rfl, HA, HK1, HO_10, HB⟩ := hrel
  cases gk with
  | zero => exact absurd HA.out (by simp [palinodelaw01_PackRows.l0])
  | succ k1 =>
   have H := HA.out
   clear HA
   simp only [palinodelaw01_PackRows.l0] at H
   by_cases c11 : x12_1 < 2
   ·
    rw [if_pos c11] at H
    have c11b0 : decide (x12_1 < 2) = true := decide_eq_true c11
    clear c11
    replace H := Option.bind_eq_some_iff.mp H
    obtain ⟨⟨t374, t375⟩, A120, H⟩ := H
    replace H : ((palinodelaw01_texts.f k1 t374 x10_1).bind fun t378 => ((palinodelaw01_is.f t375 t369).bind fun t379 => (if t378 = true then (palinodelaw01_PackRows.j1 k1 a1 t363 t364 t365 t366 t367 x10_1 t369 x12_1 t374 (!t379)) else (palinodelaw01_PackRows.j1 k1 a1 t363 t364 t365 t366 t367 x10_1 t369 x12_1 t374 true)))) = some r := H
    have A12 := Aside0.mk A120
    clear A120
    replace H := Option.bind_eq_some_iff.mp H
    obtain ⟨t378, A130, H⟩ := H
    replace H : ((palinodelaw01_is.f t375 t369).bind fun t379 => (if t378 = true then (palinodelaw01_PackRows.j1 k1 a1 t363 t364 t365 t366 t367 x10_1 t369 x12_1 t374 (!t379)) else (palinodelaw01_PackRows.j1 k1 a1 t363 t364 t365 t366 t367 x10_1 t369 x12_1 t374 true))) = some r := H
    have A13 := Aside0.mk A130
    clear A130
    replace H := Option.bind_eq_some_iff.mp H
    obtain ⟨t379, A140, H⟩ := H
    replace H : (if t378 = true then (palinodelaw01_PackRows.j1 k1 a1 t363 t364 t365 t366 t367 x10_1 t369 x12_1 t374 (!t379)) else (palinodelaw01_PackRows.j1 k1 a1 t363 t364 t365 t366 t367 x10_1 t369 x12_1 t374 true)) = some r := H
    have A14 := Aside0.mk A140
    clear A140
    have HC15 := Aside0.mk H
    clear H
    go_upto_region 11 with (first | ((with_reducible refine gate_callee (f := 23) rfl ?_); refine goesL_ (some 40) rfl rfl Try.func23 (by kernel_rfl) rfl #[.string a1] rfl (by (try simp only [List.map_toArray, List.map_cons, List.map_nil]); first | done | rfl | (simp only [List.length_drop, List.length_take]; rfl)) ?_; (with_reducible refine (pack_ReadRow.calls k1 a1 t374 t375 _ A12.out).mono ?_); rintro e w16 ⟨v376, rfl, ho0, hb⟩; refine ⟨_, rfl, ?_⟩; have n0_ := Aside0.mk (Kd.R_elder' (by (with_reducible repeat (first | apply Kd.R_alloc | apply Kd.R_drewN | apply Kd.R_drew)); exact HO_10.out) (Kd.R_base ho0) hb); have n1_ := Aside0.mk (Kd.R_lower (Kd.R_new' ho0 (Kd.R_lt (by (with_reducible repeat (first | apply Kd.R_alloc | apply Kd.R_drewN | apply Kd.R_drew)); exact HO_10.out))) (below_size (Yr HB))); have n2_ := Aside0.mk (Yv HB hb); clear HO_10; clear HB; have HO_10 := n0_; have HO377 := n1_; have HB := n2_; clear n0_ n1_ n2_; (try clear hb); (try clear hb2); (try clear hk); (try clear hi); (try clear ho0); (try simp only [errW_none, errW_some]); obtain ⟨Ao17, co17, eo17⟩ := Kd.R_slice HO377.out; subst eo17; obtain ⟨Ao18, co18, eo18⟩ := Kd.R_slice HO_10.out; subst eo18) | ((with_reducible refine gate_callee (f := 24) rfl ?_); refine goesL_ (some 45) rfl rfl Try.func24 (by kernel_rfl) rfl #[.slice Ao17 t374.length co17, .slice Ao18 x10_1.length co18] rfl (by (try simp only [List.map_toArray, List.map_cons, List.map_nil]); first | done | rfl | (simp only [List.length_drop, List.length_take]; rfl)) ?_; (with_reducible refine (palinodelaw01_texts.calls k1 _ _ t374 _ _ x10_1 t378 _ ?side1 ?side2 ?side3 ?side4 A13.out).mono ?_); (case side1 => repeat (first | exact (Kd.R_reads' HO377.out).2.2 | (with_reducible refine Kd.C_alloc ?_ _) | (with_reducible refine Kd.C_drewN ?_ _) | (with_reducible refine Kd.C_drew ?_))); (case side2 => exact (Kd.R_reads' HO377.out).2.1); (case side3 => repeat (first | exact (Kd.R_reads' HO_10.out).2.2 | (with_reducible refine Kd.C_alloc ?_ _) | (with_reducible refine Kd.C_drewN ?_ _) | (with_reducible refine Kd.C_drew ?_))); (case side4 => exact (Kd.R_reads' HO_10.out).2.1); rintro e w' ⟨rfl, ⟨nd, rfl⟩⟩; refine ⟨_, rfl, ?_⟩; have CA14 := fun W => palinodelaw01_is.calls t375 t369 t379 W A14.out; try simp only [errW_none, errW_some] at CA14) | (go_at_call 15; (with_reducible refine (CA14 _).mono ?_); rintro e w' ⟨rfl, ⟨nd, rfl⟩⟩))
    (try simp only [Act.put, List.setIfInBounds_toArray, List.set_cons_zero, List.set_cons_succ])
    go_cut [54] (fun v54 wc => ∃ (kq : Nat) (x54_14 : Bool), v54 = .bool x54_14 ∧ Aside0 (palinodelaw01_PackRows.j1 kq a1 t363 t364 t365 t366 t367 x10_1 t369 x12_1 t374 x54_14 = some r) ∧ Aside0 (kq ≤ k1) ∧ Aside0 (Kd.R Kd.string 9 wc w.heap.size (fun k_ => some k_ ≠ ((.slice Ao17 t374.length co17) : Value).ownBlock) (.slice Ao18 x10_1.length co18) x10_1) ∧ Aside0 (Kd.R Kd.string 9 wc w.heap.size (fun k_ => some k_ ≠ ((.slice Ao18 x10_1.length co18) : Value).ownBlock) (.slice Ao17 t374.length co17) t374) ∧ Aside0 (Below w.heap.size w wc))
    case first =>
     have H := HC15.out
     clear HC15
     by_cases c19 : t378 = true
     ·
      subst c19
      have H1 : (palinodelaw01_PackRows.j1 k1 a1 t363 t364 t365 t366 t367 x10_1 t369 x12_1 t374 (!t379)) = some r := by rw [if_pos rfl] at H; exact H
      clear H
      have H := H1
      clear H1
      have H' := Aside0.mk H
      clear H
      go_wp2
      go_meet
      case rel => exact ⟨_, (!t379), (by first | rfl | (simp; done) | (simp [*]; done)), H', ⟨by have := HK1.out; first | omega | exact Nat.le_refl _⟩, ⟨by (with_reducible repeat (first | apply Kd.R_alloc | apply Kd.R_drewN | apply Kd.R_drew)); exact Kd.R_mono HO_10.out (fun _ hk => hk.2)⟩, ⟨by (with_reducible repeat (first | apply Kd.R_alloc | apply Kd.R_drewN | apply Kd.R_drew)); exact Kd.R_mono HO377.out (fun _ hk => hk.2)⟩, ⟨Yr HB⟩⟩
     ·
      replace c19 := Bool.eq_false_iff.mpr c19
      subst c19
      have H1 : (palinodelaw01_PackRows.j1 k1 a1 t363 t364 t365 t366 t367 x10_1 t369 x12_1 t374 true) = some r := by rw [if_neg (show ¬ (false = true) by decide)] at H; exact H
      clear H
      have H := H1
      clear H1
      have H' := Aside0.mk H
      clear H
      go_wp2
      go_meet
      case rel => exact ⟨_, (true), (by first | rfl | (simp; done) | (simp [*]; done)), H', ⟨by have := HK1.out; first | omega | exact Nat.le_refl _⟩, ⟨by (with_reducible repeat (first | apply Kd.R_alloc | apply Kd.R_drewN | apply Kd.R_drew)); exact Kd.R_mono HO_10.out (fun _ hk => hk.2)⟩, ⟨by (with_reducible repeat (first | apply Kd.R_alloc | apply Kd.R_drewN | apply Kd.R_drew)); exact Kd.R_mono HO377.out (fun _ hk => hk.2)⟩, ⟨Yr HB⟩⟩
    case rest =>
     clear HC15
     try clear c1
     try clear c2
     try clear p2
     try clear c8
     try clear c10
     try clear c11
     try clear c11b0
     try clear c19
     try clear p2
     obtain ⟨kq, x54_14, rfl, HA, HJ14, HO_10, HO_13, HB⟩ := hcut
     cases kq with
     | zero => exact absurd HA.out (by simp [palinodelaw01_PackRows.j1])
     | succ kj14 =>
      have H := HA.out
      clear HA
      simp only [palinodelaw01_PackRows.j1] at H
      by_cases c20 : x54_14 = true
      ·
       subst c20
       have H1 : (some false) = some r := by rw [if_pos rfl] at H; exact H
       clear H
       have H := H1
       clear H1
       exact absurd ((Option.some.inj H).trans HRT_.out) (by decide)
      ·
       replace c20 := Bool.eq_false_iff.mpr c20
       subst c20
       have H1 : (palinodelaw01_PackRows.l1 kj14 a1 t363 t364 t365 t366 t367 x10_1 t369 x12_1 t374 0) = some r := by rw [if_neg (show ¬ (false = true) by decide)] at H; exact H
       clear H
       have H := H1
       clear H1
       have H' := Aside0.mk H
       clear H
       go_wp2
       go_loopg [17] kj14 (fun kq v17 w' => ∃ (x13_3 : List ByteArray) (x17_3 : Int), v17 = .int .i64 x17_3 ∧ Aside0 (palinodelaw01_PackRows.l1 kq a1 t363 t364 t365 t366 t367 x10_1 t369 x12_1 x13_3 x17_3 = some r) ∧ Aside0 (kq ≤ kj14) ∧ Aside0 (Kd.R Kd.string 9 w' w.heap.size (fun k_ => some k_ ≠ ((.slice Ao17 t374.length co17) : Value).ownBlock) (.slice Ao18 x10_1.length co18) x10_1) ∧ Aside0 (Kd.R Kd.string 9 w' w.heap.size (fun k_ => some k_ ≠ ((.slice Ao18 x10_1.length co18) : Value).ownBlock) (.slice Ao17 t374.length co17) x13_3) ∧ Aside0 (Below w.heap.size w w'))
       case atStart => exact ⟨(t374), (0), (by first | rfl | (simp; done) | (simp [*]; done)), H', ⟨Nat.le_refl _⟩, ⟨by (with_reducible repeat (first | apply Kd.R_alloc | apply Kd.R_drewN | apply Kd.R_drew)); exact HO_10.out⟩, ⟨by (with_reducible repeat (first | apply Kd.R_alloc | apply Kd.R_drewN | apply Kd.R_drew)); exact HO_13.out⟩, ⟨Yr HB⟩⟩
       case round =>
        clear H'
        try clear c1
        try clear c2
        try clear p2
        try clear c8
        try clear c10
        try clear c11
        try clear c11b0
        try clear c19
        try clear c20
        try clear p2
        obtain ⟨x13_3, x17_3, rfl, HA, HK3, HO_10, HO_13, HB⟩ := hrel
        have hl13_3 := (Kd.R_reads' HO_13.out).1
        rw [hl13_3] at HO_13
        (try simp only [hl13_3])
        (try simp only [hl13_3] at HO_10)
        cases gk with
        | zero => exact absurd HA.out (by simp [palinodelaw01_PackRows.l1])
        | succ k3 =>
         have H := HA.out
         clear HA
         simp only [palinodelaw01_PackRows.l1] at H
         by_cases c21 : x17_3 < (x13_3.length : Int)
         ·
          rw [if_pos c21] at H
          have c21b0 : decide (x17_3 < (x13_3.length : Int)) = true := decide_eq_true c21
          clear c21
          by_cases c22 : 0 ≤ x17_3
          ·
           rw [if_pos c22] at H
           have c22b0 : decide (0 ≤ x17_3) = true := decide_eq_true c22
           clear c22
           obtain ⟨y380, hy380⟩ : ∃ y_ : List ByteArray, y_ = (x13_3.set (x17_3 : Int).toNat (⟨#[63]⟩ : ByteArray)) := ⟨_, rfl⟩
           replace H : (palinodelaw01_PackRows.l1 k3 a1 t363 t364 t365 t366 t367 x10_1 t369 x12_1 y380 (wrap64 (x17_3 + 1))) = some r := by first | (rw [hy380]; with_reducible exact H) | (have H2_ := (Option.bind_some _ _).symm.trans H; rw [hy380]; with_reducible exact H2_) | (have H2_ := (Option.bind_some _ _).symm.trans H; with_reducible exact H2_) | with_reducible exact H | (rw [hy380]; exact H) | exact H
           have Ny380 := Aside0.mk hy380
           clear hy380
           have H' := Aside0.mk H
           clear H
           have p23 : 0 ≤ (x17_3 : Int) := of_decide_eq_true (by first | (with_reducible assumption) | assumption)
           have q23 : (x17_3 : Int) < ((x13_3.length : Int) : Int) := of_decide_eq_true (by first | (with_reducible assumption) | assumption)
           obtain ⟨go23, co23, eo23, gb23, gl23, cl23, HG23⟩ := Kd.R_form HO_13.out (by omega)
           (first | cases eo23 | (injection eo23 with ea_ en_ ec_; (first | subst ea_ | (injection ea_ with ea_; subst ea_)); subst ec_; clear en_))
           have GB23 := Aside0.mk gb23
           have GG23 := Aside0.mk HG23
           clear gb23 gl23 HG23
           obtain ⟨hx23_0, hf23_0⟩ := Kd.R_celln (⟨#[]⟩ : ByteArray) HO_13.out (x17_3 : Int) p23 q23
           replace p23 := eq_true p23
           replace q23 := eq_true q23
           have HP24 := Kd.R_putg HO_13.out (x17_3 : Int) (⟨#[63]⟩ : ByteArray)
           go_wp2_with (first | ((with_reducible refine gate_store (t := 9) (p := 63) rfl ?_); refine store_event (t := 9) (p := 63) (v := ?vo_w25) (w1 := (wr.setCell ⟨go23, (x17_3 : Int).toNat, none⟩ (.string (⟨#[63]⟩ : ByteArray)))) ?hg ?ho ?hn ?hr ?_; (case ho => rfl); (case hg => rfl); (case hn => rfl); (case hr => first | (go_simp; done) | (go_simp; rfl)); intro w25 hw; have hg : wr.grownBy w25 (some go23) := (by rw [hw]; exact HP24.2); have hp_ : Kd.R Kd.string 9 w25 w.heap.size (fun k_ => some k_ ≠ (.slice Ao18 x10_1.length co18 : Value).ownBlock) (.slice (some ⟨go23, 0, none⟩) x13_3.length co17) y380 := (by rw [hw, Ny380.out]; exact HP24.1); clear HP24; have n0_ := Aside0.mk (Kd.R_after (v := (.slice (some ⟨go23, 0, none⟩) x13_3.length co17)) (v1 := (.slice (some ⟨go23, 0, none⟩) x13_3.length co17)) (ok := (fun _ => True)) (by (with_reducible repeat (first | apply Kd.R_alloc | apply Kd.R_drewN | apply Kd.R_drew)); exact Kd.R_mono HO_10.out (fun _ hk => ⟨trivial, hk⟩)) hg (.inl rfl)); have n1_ := Aside0.mk (hp_); have n2_ := Aside0.mk ((by rw [hw]; exact Ys (HB.out) GB23.out : Below w.heap.size w w25)); clear HO_10; clear HO_13; clear HB; have HO_10 := n0_; have HO_13 := n1_; have HB := n2_; clear n0_ n1_ n2_; clear hg hw hp_))
           (try simp only [← hl13_3])
           go_roundg k3
           case measure => have := HK1.out; have := HJ14.out; have := HK3.out; omega
           case rel => exact ⟨(y380), (wrap64 (x17_3 + 1)), (by first | rfl | (simp; done) | (simp [*]; done)), H', ⟨by have := HK1.out; have := HJ14.out; have := HK3.out; omega⟩, ⟨by (try simp only [hl13_3]); (with_reducible repeat (first | apply Kd.R_alloc | apply Kd.R_drewN | apply Kd.R_drew)); exact Kd.R_mono HO_10.out (fun _ hk => hk.2)⟩, ⟨by (try simp only [hl13_3]); (with_reducible repeat (first | apply Kd.R_alloc | apply Kd.R_drewN | apply Kd.R_drew)); exact HO_13.out⟩, ⟨Yr HB⟩⟩
          ·
           rw [if_neg c22] at H
           exact absurd H (by simp)
         ·
          rw [if_neg c21] at H
          have c21b0 : decide (x17_3 < (x13_3.length : Int)) = false := decide_eq_false c21
          clear c21
          have H' := Aside0.mk H
          clear H
          go_wp2
          (try simp only [← hl13_3])
          go_roundg k3
          case measure => have := HK1.out; have := HJ14.out; have := HK3.out; omega
          case rel => exact ⟨(x10_1), (wrap64 (x12_1 + 1)), (by first | rfl | (simp; done) | (simp [*]; done)), H', ⟨by have := HK1.out; have := HJ14.out; have := HK3.out; omega⟩, ⟨by (try simp only [hl13_3]); (with_reducible repeat (first | apply Kd.R_alloc | apply Kd.R_drewN | apply Kd.R_drew)); exact Kd.R_mono HO_10.out (fun _ hk => trivial)⟩, ⟨Yr HB⟩⟩
   ·
    rw [if_neg c11] at H
    have c11b0 : decide (x12_1 < 2) = false := decide_eq_false c11
    clear c11
    by_cases c26 : t363 = true
    ·
     subst c26
     have H1 : (if t364.toList = t366.toList then (if t367 = true then (if t365.isNone = true then (some true) else (some false)) else ((palinodelaw01_is.f t365 5).bind fun t373 => (some t373))) else (some false)) = some r := by rw [if_pos rfl] at H; exact H
     clear H
     have H := H1
     clear H1
     by_cases c27 : t364.toList = t366.toList
     ·
      rw [if_pos c27] at H
      have c27b0 : (t364.toList == t366.toList) = true := beq_iff_eq.mpr c27
      have c27b1 : (t364.toList != t366.toList) = false := bne_eq_false_iff_eq.mpr c27
      clear c27
      by_cases c28 : t367 = true
      ·
       subst c28
       have H1 : (if t365.isNone = true then (some true) else (some false)) = some r := by rw [if_pos rfl] at H; exact H
       clear H
       have H := H1
       clear H1
       rcases t365 with _ | q372
       ·
        have H1 : (some true) = some r := by rw [if_pos (show (none : Option Int).isNone = true by rfl)] at H; exact H
        clear H
        have H := H1
        clear H1
        try simp only [errW_none, errW_some]
        obtain rfl := Option.some.inj H
        go_wp2
        go_ret
        exact ⟨by first | rfl | (simp [errW_none, errW_some] <;> rfl) | (simp [*, errW_none, errW_some] <;> rfl), Yr HB⟩
       ·
        have H1 : (some false) = some r := by rw [if_neg (show ¬ (some q372).isNone = true by simp)] at H; exact H
        clear H
        have H := H1
        clear H1
        try simp only [errW_none, errW_some]
        exact absurd ((Option.some.inj H).trans HRT_.out) (by decide)
      ·
       replace c28 := Bool.eq_false_iff.mpr c28
       subst c28
       have H1 : ((palinodelaw01_is.f t365 5).bind fun t373 => (some t373)) = some r := by rw [if_neg (show ¬ (false = true) by decide)] at H; exact H
       clear H
       have H := H1
       clear H1
       replace H := Option.bind_eq_some_iff.mp H
       obtain ⟨t373, A290, H⟩ := H
       replace H : (some t373) = some r := H
       have A29 := Aside0.mk A290
       clear A290
       obtain rfl := Option.some.inj H
       have CA29 := fun W => palinodelaw01_is.calls t365 5 t373 W A29.out
       try simp only [errW_none, errW_some] at CA29
       go_wp2_with (first | (go_at_call 15; (with_reducible refine (CA29 _).mono ?_); rintro e w' ⟨rfl, ⟨nd, rfl⟩⟩))
       go_ret
       exact ⟨by first | rfl | (simp [errW_none, errW_some] <;> rfl) | (simp [*, errW_none, errW_some] <;> rfl), Yr HB⟩
     ·
      rw [if_neg c27] at H
      have c27b0 : (t364.toList == t366.toList) = false := beq_eq_false_iff_ne.mpr c27
      have c27b1 : (t364.toList != t366.toList) = true := bne_iff_ne.mpr c27
      exact absurd ((Option.some.inj H).trans HRT_.out) (by decide)
    ·
     replace c26 := Bool.eq_false_iff.mpr c26
     subst c26
     have H1 : (some false) = some r := by rw [if_neg (show ¬ (false = true) by decide)] at H; exact H
     clear H
     have H := H1
     clear H1
     exact absurd ((Option.some.inj H).trans HRT_.out) (by decide)

/-- THE ONE PURE STATEMENT of palinodelaw01_PackRows. -/
def palinodelaw01_PackRows.Pure : Prop := (∀ k_ r_, palinodelaw01_examples.f k_ = some r_ → r_ = true) ∧ ∀ (l0 : List ByteArray) (a1 : ByteArray), (l0.length ≤ maxLen ∧ l0.length * 16 ≤ 140737488351232 ∧ ∀ x_ ∈ l0, x_.size ≤ 140737488351232) → a1.size ≤ 140737488351232 → ∃ k, palinodelaw01_PackRows.f k l0 a1 = some true
theorem palinodelaw01_PackRows.walk (P : palinodelaw01_PackRows.Pure) (A0 : Option Addr) (c0 : Nat) (l0 : List ByteArray) (a1 : ByteArray) (w : World) (hr0 : Kd.C Kd.string w A0 l0.length l0) (hc0 : l0.length ≤ c0) (v0 : (l0.length ≤ maxLen ∧ l0.length * 16 ≤ 140737488351232 ∧ ∀ x_ ∈ l0, x_.size ≤ 140737488351232)) (v1 : a1.size ≤ 140737488351232) :
  Calls Try.prog 8 #[.slice A0 l0.length c0, .string a1] w fun e w' => e = .returned (.bool true) ∧ Below w.heap.size w w' := by
 obtain ⟨k, h⟩ := P.2 l0 a1 v0 v1
 refine (palinodelaw01_PackRows.calls k A0 c0 l0 a1 true w hr0 hc0 h ⟨P.1⟩).mono ?_
 rintro e w' ⟨rfl, hd⟩
 exact ⟨rfl, hd⟩

/-! ### palinodelaw01_PackAll: function 9 -/
def palinodelaw01_PackAll.f (k : Nat) (l0 : List ByteArray) (a1 : ByteArray) : Option (Bool) := (palinodelaw01_examples.f k).bind fun t381 => ((pack_Row.f l0).bind fun bt382 => (if bt382.2.isNone = true then ((pack_ReadRow.f k bt382.1).bind fun bt385 => ((palinodelaw01_texts.f k l0 bt385.1).bind fun t389 => (if bt382.1.size + a1.size ≤ 9223372036854775807 then ((pack_ReadRow.f k (bt382.1 ++ a1)).bind fun bt390 => (if t381 = true then (if t389 = true then (if bt385.2.isNone = true then (if a1.toList = ([] : List UInt8) then (some true) else ((palinodelaw01_is.f bt390.2 3).bind fun t395 => (if t395 = true then (some true) else (if (wrap64 ((bt382.1.size : Int) + (a1.size : Int))) > 1048576 then ((palinodelaw01_is.f bt390.2 5).bind fun t396 => (some t396)) else (some false))))) else (some false)) else (some false)) else (some false))) else (none)))) else (if t381 = true then (some (bt382.1.toList == ([] : List UInt8))) else (some false))))
theorem palinodelaw01_PackAll.mono : ∀ a0 a1 k, LeO (palinodelaw01_PackAll.f k a0 a1) (palinodelaw01_PackAll.f (k + 1) a0 a1) := by
 intro a0 a1 k
 unfold palinodelaw01_PackAll.f
 repeat' first
   | (with_reducible exact pack_ReadRow.mono _ _)
   | (with_reducible exact palinodelaw01_examples.mono _)
   | (with_reducible exact palinodelaw01_texts.mono _ _ _)
   | (with_reducible exact LeO.refl _)
   | (with_reducible exact LeO.none _)
   | (with_reducible refine LeO.ite ?_ ?_)
   | (with_reducible refine LeO.bind ?_ (fun _ => ?_))
   | exact pack_ReadRow.mono _ _
   | exact palinodelaw01_examples.mono _
   | exact palinodelaw01_texts.mono _ _ _
   | exact LeO.none _
   | refine LeO.ite ?_ ?_
   | refine LeO.bind ?_ (fun _ => ?_)
set_option maxHeartbeats 8000000 in
set_option maxRecDepth 100000 in
theorem palinodelaw01_PackAll.calls (k : Nat) (A0 : Option Addr) (c0 : Nat) (l0 : List ByteArray) (a1 : ByteArray) (r : Bool) (w : World) (hr0 : Kd.C Kd.string w A0 l0.length l0) (hc0 : l0.length ≤ c0) (h : palinodelaw01_PackAll.f k l0 a1 = some r) (HEX_ : Aside0 (∀ k_ r_, palinodelaw01_examples.f k_ = some r_ → r_ = true)) (HRT_ : Aside0 (r = true) := by first | exact ⟨rfl⟩ | assumption) :
  Calls Try.prog 9 #[.slice A0 l0.length c0, .string a1] w fun e w' => e = .returned (.bool r) ∧ Below w.heap.size w w' := by
 have hu24 := Try.underlying24
 have hu54 := Try.underlying54
 have HR0 := Aside0.mk hr0
 have HC0 := Aside0.mk hc0
 clear hr0 hc0
 have HB := Aside0.mk (Below.refl w.heap.size w)
 have H : ((palinodelaw01_examples.f k).bind fun t381 => ((pack_Row.f l0).bind fun bt382 => (if bt382.2.isNone = true then ((pack_ReadRow.f k bt382.1).bind fun bt385 => ((palinodelaw01_texts.f k l0 bt385.1).bind fun t389 => (if bt382.1.size + a1.size ≤ 9223372036854775807 then ((pack_ReadRow.f k (bt382.1 ++ a1)).bind fun bt390 => (if t381 = true then (if t389 = true then (if bt385.2.isNone = true then (if a1.toList = ([] : List UInt8) then (some true) else ((palinodelaw01_is.f bt390.2 3).bind fun t395 => (if t395 = true then (some true) else (if (wrap64 ((bt382.1.size : Int) + (a1.size : Int))) > 1048576 then ((palinodelaw01_is.f bt390.2 5).bind fun t396 => (some t396)) else (some false))))) else (some false)) else (some false)) else (some false))) else (none)))) else (if t381 = true then (some (bt382.1.toList == ([] : List UInt8))) else (some false))))) = some r := h
 clear h
 replace H := Option.bind_eq_some_iff.mp H
 obtain ⟨t381, A30, H⟩ := H
 replace H : ((pack_Row.f l0).bind fun bt382 => (if bt382.2.isNone = true then ((pack_ReadRow.f k bt382.1).bind fun bt385 => ((palinodelaw01_texts.f k l0 bt385.1).bind fun t389 => (if bt382.1.size + a1.size ≤ 9223372036854775807 then ((pack_ReadRow.f k (bt382.1 ++ a1)).bind fun bt390 => (if t381 = true then (if t389 = true then (if bt385.2.isNone = true then (if a1.toList = ([] : List UInt8) then (some true) else ((palinodelaw01_is.f bt390.2 3).bind fun t395 => (if t395 = true then (some true) else (if (wrap64 ((bt382.1.size : Int) + (a1.size : Int))) > 1048576 then ((palinodelaw01_is.f bt390.2 5).bind fun t396 => (some t396)) else (some false))))) else (some false)) else (some false)) else (some false))) else (none)))) else (if t381 = true then (some (bt382.1.toList == ([] : List UInt8))) else (some false)))) = some r := H
 have A3 := Aside0.mk A30
 have HTA3_ : Aside0 (t381 = true) := ⟨HEX_.out _ _ A30⟩
 clear A30
 replace H := Option.bind_eq_some_iff.mp H
 obtain ⟨⟨t382, t383⟩, A40, H⟩ := H
 replace H : (if t383.isNone = true then ((pack_ReadRow.f k t382).bind fun bt385 => ((palinodelaw01_texts.f k l0 bt385.1).bind fun t389 => (if t382.size + a1.size ≤ 9223372036854775807 then ((pack_ReadRow.f k (t382 ++ a1)).bind fun bt390 => (if t381 = true then (if t389 = true then (if bt385.2.isNone = true then (if a1.toList = ([] : List UInt8) then (some true) else ((palinodelaw01_is.f bt390.2 3).bind fun t395 => (if t395 = true then (some true) else (if (wrap64 ((t382.size : Int) + (a1.size : Int))) > 1048576 then ((palinodelaw01_is.f bt390.2 5).bind fun t396 => (some t396)) else (some false))))) else (some false)) else (some false)) else (some false))) else (none)))) else (if t381 = true then (some (t382.toList == ([] : List UInt8))) else (some false))) = some r := H
 have A4 := Aside0.mk A40
 clear A40
 rcases t383 with _ | q384
 ·
  have H1 : ((pack_ReadRow.f k t382).bind fun bt385 => ((palinodelaw01_texts.f k l0 bt385.1).bind fun t389 => (if t382.size + a1.size ≤ 9223372036854775807 then ((pack_ReadRow.f k (t382 ++ a1)).bind fun bt390 => (if t381 = true then (if t389 = true then (if bt385.2.isNone = true then (if a1.toList = ([] : List UInt8) then (some true) else ((palinodelaw01_is.f bt390.2 3).bind fun t395 => (if t395 = true then (some true) else (if (wrap64 ((t382.size : Int) + (a1.size : Int))) > 1048576 then ((palinodelaw01_is.f bt390.2 5).bind fun t396 => (some t396)) else (some false))))) else (some false)) else (some false)) else (some false))) else (none)))) = some r := by rw [if_pos (show (none : Option Int).isNone = true by rfl)] at H; exact H
  clear H
  have H := H1
  clear H1
  try simp only [errW_none, errW_some]
  replace H := Option.bind_eq_some_iff.mp H
  obtain ⟨⟨t385, t386⟩, A50, H⟩ := H
  replace H : ((palinodelaw01_texts.f k l0 t385).bind fun t389 => (if t382.size + a1.size ≤ 9223372036854775807 then ((pack_ReadRow.f k (t382 ++ a1)).bind fun bt390 => (if t381 = true then (if t389 = true then (if t386.isNone = true then (if a1.toList = ([] : List UInt8) then (some true) else ((palinodelaw01_is.f bt390.2 3).bind fun t395 => (if t395 = true then (some true) else (if (wrap64 ((t382.size : Int) + (a1.size : Int))) > 1048576 then ((palinodelaw01_is.f bt390.2 5).bind fun t396 => (some t396)) else (some false))))) else (some false)) else (some false)) else (some false))) else (none))) = some r := H
  have A5 := Aside0.mk A50
  clear A50
  replace H := Option.bind_eq_some_iff.mp H
  obtain ⟨t389, A60, H⟩ := H
  replace H : (if t382.size + a1.size ≤ 9223372036854775807 then ((pack_ReadRow.f k (t382 ++ a1)).bind fun bt390 => (if t381 = true then (if t389 = true then (if t386.isNone = true then (if a1.toList = ([] : List UInt8) then (some true) else ((palinodelaw01_is.f bt390.2 3).bind fun t395 => (if t395 = true then (some true) else (if (wrap64 ((t382.size : Int) + (a1.size : Int))) > 1048576 then ((palinodelaw01_is.f bt390.2 5).bind fun t396 => (some t396)) else (some false))))) else (some false)) else (some false)) else (some false))) else (none)) = some r := H
  have A6 := Aside0.mk A60
  clear A60
  by_cases c7 : t382.size + a1.size ≤ 9223372036854775807
  ·
   rw [if_pos c7] at H
   have c7b0 := eq_true c7
   have c7b1 : decide (t382.size + a1.size ≤ 9223372036854775807) = true := decide_eq_true c7
   try have c7b2 : (9223372036854775807 < t382.size + a1.size) = False := eq_false (Nat.not_lt.2 c7)
   replace H := Option.bind_eq_some_iff.mp H
   obtain ⟨⟨t390, t391⟩, A80, H⟩ := H
   replace H : (if t381 = true then (if t389 = true then (if t386.isNone = true then (if a1.toList = ([] : List UInt8) then (some true) else ((palinodelaw01_is.f t391 3).bind fun t395 => (if t395 = true then (some true) else (if (wrap64 ((t382.size : Int) + (a1.size : Int))) > 1048576 then ((palinodelaw01_is.f t391 5).bind fun t396 => (some t396)) else (some false))))) else (some false)) else (some false)) else (some false)) = some r := H
   have A8 := Aside0.mk A80
   clear A80
   by_cases c9 : t381 = true
   ·
    subst c9
    have H1 : (if t389 = true then (if t386.isNone = true then (if a1.toList = ([] : List UInt8) then (some true) else ((palinodelaw01_is.f t391 3).bind fun t395 => (if t395 = true then (some true) else (if (wrap64 ((t382.size : Int) + (a1.size : Int))) > 1048576 then ((palinodelaw01_is.f t391 5).bind fun t396 => (some t396)) else (some false))))) else (some false)) else (some false)) = some r := by rw [if_pos rfl] at H; exact H
    clear H
    have H := H1
    clear H1
    by_cases c10 : t389 = true
    ·
     subst c10
     have H1 : (if t386.isNone = true then (if a1.toList = ([] : List UInt8) then (some true) else ((palinodelaw01_is.f t391 3).bind fun t395 => (if t395 = true then (some true) else (if (wrap64 ((t382.size : Int) + (a1.size : Int))) > 1048576 then ((palinodelaw01_is.f t391 5).bind fun t396 => (some t396)) else (some false))))) else (some false)) = some r := by rw [if_pos rfl] at H; exact H
     clear H
     have H := H1
     clear H1
     rcases t386 with _ | q394
     ·
      have H1 : (if a1.toList = ([] : List UInt8) then (some true) else ((palinodelaw01_is.f t391 3).bind fun t395 => (if t395 = true then (some true) else (if (wrap64 ((t382.size : Int) + (a1.size : Int))) > 1048576 then ((palinodelaw01_is.f t391 5).bind fun t396 => (some t396)) else (some false))))) = some r := by rw [if_pos (show (none : Option Int).isNone = true by rfl)] at H; exact H
      clear H
      have H := H1
      clear H1
      try simp only [errW_none, errW_some]
      by_cases c11 : a1.toList = ([] : List UInt8)
      ·
       rw [if_pos c11] at H
       have c11b0 : (a1.toList == ([] : List UInt8)) = true := beq_iff_eq.mpr c11
       have c11b1 : (a1.toList != ([] : List UInt8)) = false := bne_eq_false_iff_eq.mpr c11
       clear c11
       obtain rfl := Option.some.inj H
       go_enter Try.func9, Try.ntmps9
       go_wp2_with (first | ((with_reducible refine gate_callee (f := 10) rfl ?_); refine goesL_ (some 13) rfl rfl Try.func10 (by kernel_rfl) rfl #[] rfl (by (try simp only [List.map_toArray, List.map_cons, List.map_nil]); first | done | rfl | (simp only [List.length_drop, List.length_take]; rfl)) ?_; (with_reducible refine (palinodelaw01_examples.calls k  true _ A3.out).mono ?_); rintro e w12 ⟨rfl, hb⟩; refine ⟨_, rfl, ?_⟩; have n0_ := Aside0.mk (Yv HB hb); clear HB; have HB := n0_; clear n0_; (try clear hb); (try clear hb2); (try clear hk); (try clear hi)) | ((with_reducible refine gate_callee (f := 20) rfl ?_); refine goesL_ (some 16) rfl rfl Try.func20 (by kernel_rfl) rfl #[.slice A0 l0.length c0] rfl (by (try simp only [List.map_toArray, List.map_cons, List.map_nil]); first | done | rfl | (simp only [List.length_drop, List.length_take]; rfl)) ?_; (with_reducible refine (pack_Row.calls _ _ l0 t382 none _ ?side1 ?side2 A4.out).mono ?_); (case side1 => repeat (first | exact (Kd.C_below HR0.out HB.out) | (with_reducible refine Kd.C_alloc ?_ _) | (with_reducible refine Kd.C_drewN ?_ _) | (with_reducible refine Kd.C_drew ?_))); (case side2 => exact HC0.out); rintro e w13 ⟨rfl, hb⟩; refine ⟨_, rfl, ?_⟩; have n0_ := Aside0.mk (Yv HB hb); clear HB; have HB := n0_; clear n0_; (try clear hb); (try clear hb2); (try clear hk); (try clear hi); (try simp only [errW_none, errW_some])) | ((with_reducible refine gate_callee (f := 23) rfl ?_); refine goesL_ (some 28) rfl rfl Try.func23 (by kernel_rfl) rfl #[.string t382] rfl (by (try simp only [List.map_toArray, List.map_cons, List.map_nil]); first | done | rfl | (simp only [List.length_drop, List.length_take]; rfl)) ?_; (with_reducible refine (pack_ReadRow.calls k t382 t385 none _ A5.out).mono ?_); rintro e w14 ⟨v387, rfl, ho0, hb⟩; refine ⟨_, rfl, ?_⟩; have n0_ := Aside0.mk (Kd.R_lower ho0 (below_size (Yr HB))); have n1_ := Aside0.mk (Yv HB hb); clear HB; have HO388 := n0_; have HB := n1_; clear n0_ n1_; (try clear hb); (try clear hb2); (try clear hk); (try clear hi); (try clear ho0); (try simp only [errW_none, errW_some]); obtain ⟨Ao15, co15, eo15⟩ := Kd.R_slice HO388.out; subst eo15) | ((with_reducible refine gate_callee (f := 24) rfl ?_); refine goesL_ (some 33) rfl rfl Try.func24 (by kernel_rfl) rfl #[.slice A0 l0.length c0, .slice Ao15 t385.length co15] rfl (by (try simp only [List.map_toArray, List.map_cons, List.map_nil]); first | done | rfl | (simp only [List.length_drop, List.length_take]; rfl)) ?_; (with_reducible refine (palinodelaw01_texts.calls k _ _ l0 _ _ t385 true _ ?side1 ?side2 ?side3 ?side4 A6.out).mono ?_); (case side1 => repeat (first | exact (Kd.C_below HR0.out HB.out) | (with_reducible refine Kd.C_alloc ?_ _) | (with_reducible refine Kd.C_drewN ?_ _) | (with_reducible refine Kd.C_drew ?_))); (case side2 => exact HC0.out); (case side3 => repeat (first | exact (Kd.R_reads' HO388.out).2.2 | (with_reducible refine Kd.C_alloc ?_ _) | (with_reducible refine Kd.C_drewN ?_ _) | (with_reducible refine Kd.C_drew ?_))); (case side4 => exact (Kd.R_reads' HO388.out).2.1); rintro e w' ⟨rfl, ⟨nd, rfl⟩⟩; refine ⟨_, rfl, ?_⟩) | ((with_reducible refine gate_callee (f := 23) rfl ?_); refine goesL_ (some 38) rfl rfl Try.func23 (by kernel_rfl) rfl #[.string (t382 ++ a1)] rfl (by (try simp only [List.map_toArray, List.map_cons, List.map_nil]); first | done | rfl | (simp only [List.length_drop, List.length_take]; rfl)) ?_; (with_reducible refine (pack_ReadRow.calls k (t382 ++ a1) t390 t391 _ A8.out).mono ?_); rintro e w16 ⟨v392, rfl, ho0, hb⟩; refine ⟨_, rfl, ?_⟩; have n0_ := Aside0.mk (Kd.R_elder' (by (with_reducible repeat (first | apply Kd.R_alloc | apply Kd.R_drewN | apply Kd.R_drew)); exact HO388.out) (Kd.R_base ho0) hb); have n1_ := Aside0.mk (Kd.R_lower (Kd.R_new' ho0 (Kd.R_lt (by (with_reducible repeat (first | apply Kd.R_alloc | apply Kd.R_drewN | apply Kd.R_drew)); exact HO388.out))) (below_size (Yr HB))); have n2_ := Aside0.mk (Yv HB hb); clear HO388; clear HB; have HO388 := n0_; have HO393 := n1_; have HB := n2_; clear n0_ n1_ n2_; (try clear hb); (try clear hb2); (try clear hk); (try clear hi); (try clear ho0); (try simp only [errW_none, errW_some])))
       go_ret
       first | (refine absurd c11b0 ?_; simp [*]; done) | exact ⟨by first | rfl | (simp [errW_none, errW_some] <;> rfl) | (simp [*, errW_none, errW_some] <;> rfl), Yr HB⟩
      ·
       rw [if_neg c11] at H
       have c11b0 : (a1.toList == ([] : List UInt8)) = false := beq_eq_false_iff_ne.mpr c11
       have c11b1 : (a1.toList != ([] : List UInt8)) = true := bne_iff_ne.mpr c11
       replace H := Option.bind_eq_some_iff.mp H
       obtain ⟨t395, A170, H⟩ := H
       replace H : (if t395 = true then (some true) else (if (wrap64 ((t382.size : Int) + (a1.size : Int))) > 1048576 then ((palinodelaw01_is.f t391 5).bind fun t396 => (some t396)) else (some false))) = some r := H
       have A17 := Aside0.mk A170
       clear A170
       by_cases c18 : t395 = true
       ·
        subst c18
        have H1 : (some true) = some r := by rw [if_pos rfl] at H; exact H
        clear H
        have H := H1
        clear H1
        obtain rfl := Option.some.inj H
        go_enter Try.func9, Try.ntmps9
        go_wp2_with (first | ((with_reducible refine gate_callee (f := 10) rfl ?_); refine goesL_ (some 13) rfl rfl Try.func10 (by kernel_rfl) rfl #[] rfl (by (try simp only [List.map_toArray, List.map_cons, List.map_nil]); first | done | rfl | (simp only [List.length_drop, List.length_take]; rfl)) ?_; (with_reducible refine (palinodelaw01_examples.calls k  true _ A3.out).mono ?_); rintro e w19 ⟨rfl, hb⟩; refine ⟨_, rfl, ?_⟩; have n0_ := Aside0.mk (Yv HB hb); clear HB; have HB := n0_; clear n0_; (try clear hb); (try clear hb2); (try clear hk); (try clear hi)) | ((with_reducible refine gate_callee (f := 20) rfl ?_); refine goesL_ (some 16) rfl rfl Try.func20 (by kernel_rfl) rfl #[.slice A0 l0.length c0] rfl (by (try simp only [List.map_toArray, List.map_cons, List.map_nil]); first | done | rfl | (simp only [List.length_drop, List.length_take]; rfl)) ?_; (with_reducible refine (pack_Row.calls _ _ l0 t382 none _ ?side1 ?side2 A4.out).mono ?_); (case side1 => repeat (first | exact (Kd.C_below HR0.out HB.out) | (with_reducible refine Kd.C_alloc ?_ _) | (with_reducible refine Kd.C_drewN ?_ _) | (with_reducible refine Kd.C_drew ?_))); (case side2 => exact HC0.out); rintro e w20 ⟨rfl, hb⟩; refine ⟨_, rfl, ?_⟩; have n0_ := Aside0.mk (Yv HB hb); clear HB; have HB := n0_; clear n0_; (try clear hb); (try clear hb2); (try clear hk); (try clear hi); (try simp only [errW_none, errW_some])) | ((with_reducible refine gate_callee (f := 23) rfl ?_); refine goesL_ (some 28) rfl rfl Try.func23 (by kernel_rfl) rfl #[.string t382] rfl (by (try simp only [List.map_toArray, List.map_cons, List.map_nil]); first | done | rfl | (simp only [List.length_drop, List.length_take]; rfl)) ?_; (with_reducible refine (pack_ReadRow.calls k t382 t385 none _ A5.out).mono ?_); rintro e w21 ⟨v387, rfl, ho0, hb⟩; refine ⟨_, rfl, ?_⟩; have n0_ := Aside0.mk (Kd.R_lower ho0 (below_size (Yr HB))); have n1_ := Aside0.mk (Yv HB hb); clear HB; have HO388 := n0_; have HB := n1_; clear n0_ n1_; (try clear hb); (try clear hb2); (try clear hk); (try clear hi); (try clear ho0); (try simp only [errW_none, errW_some]); obtain ⟨Ao22, co22, eo22⟩ := Kd.R_slice HO388.out; subst eo22) | ((with_reducible refine gate_callee (f := 24) rfl ?_); refine goesL_ (some 33) rfl rfl Try.func24 (by kernel_rfl) rfl #[.slice A0 l0.length c0, .slice Ao22 t385.length co22] rfl (by (try simp only [List.map_toArray, List.map_cons, List.map_nil]); first | done | rfl | (simp only [List.length_drop, List.length_take]; rfl)) ?_; (with_reducible refine (palinodelaw01_texts.calls k _ _ l0 _ _ t385 true _ ?side1 ?side2 ?side3 ?side4 A6.out).mono ?_); (case side1 => repeat (first | exact (Kd.C_below HR0.out HB.out) | (with_reducible refine Kd.C_alloc ?_ _) | (with_reducible refine Kd.C_drewN ?_ _) | (with_reducible refine Kd.C_drew ?_))); (case side2 => exact HC0.out); (case side3 => repeat (first | exact (Kd.R_reads' HO388.out).2.2 | (with_reducible refine Kd.C_alloc ?_ _) | (with_reducible refine Kd.C_drewN ?_ _) | (with_reducible refine Kd.C_drew ?_))); (case side4 => exact (Kd.R_reads' HO388.out).2.1); rintro e w' ⟨rfl, ⟨nd, rfl⟩⟩; refine ⟨_, rfl, ?_⟩) | ((with_reducible refine gate_callee (f := 23) rfl ?_); refine goesL_ (some 38) rfl rfl Try.func23 (by kernel_rfl) rfl #[.string (t382 ++ a1)] rfl (by (try simp only [List.map_toArray, List.map_cons, List.map_nil]); first | done | rfl | (simp only [List.length_drop, List.length_take]; rfl)) ?_; (with_reducible refine (pack_ReadRow.calls k (t382 ++ a1) t390 t391 _ A8.out).mono ?_); rintro e w23 ⟨v392, rfl, ho0, hb⟩; refine ⟨_, rfl, ?_⟩; have n0_ := Aside0.mk (Kd.R_elder' (by (with_reducible repeat (first | apply Kd.R_alloc | apply Kd.R_drewN | apply Kd.R_drew)); exact HO388.out) (Kd.R_base ho0) hb); have n1_ := Aside0.mk (Kd.R_lower (Kd.R_new' ho0 (Kd.R_lt (by (with_reducible repeat (first | apply Kd.R_alloc | apply Kd.R_drewN | apply Kd.R_drew)); exact HO388.out))) (below_size (Yr HB))); have n2_ := Aside0.mk (Yv HB hb); clear HO388; clear HB; have HO388 := n0_; have HO393 := n1_; have HB := n2_; clear n0_ n1_ n2_; (try clear hb); (try clear hb2); (try clear hk); (try clear hi); (try clear ho0); (try simp only [errW_none, errW_some]); have CA17 := fun W => palinodelaw01_is.calls t391 3 true W A17.out; try simp only [errW_none, errW_some] at CA17) | (go_at_call 15; (with_reducible refine (CA17 _).mono ?_); rintro e w' ⟨rfl, ⟨nd, rfl⟩⟩))
        go_ret
        first | (refine absurd c11b0 ?_; simp [*]; done) | exact ⟨by first | rfl | (simp [errW_none, errW_some] <;> rfl) | (simp [*, errW_none, errW_some] <;> rfl), Yr HB⟩
       ·
        replace c18 := Bool.eq_false_iff.mpr c18
        subst c18
        have H1 : (if (wrap64 ((t382.size : Int) + (a1.size : Int))) > 1048576 then ((palinodelaw01_is.f t391 5).bind fun t396 => (some t396)) else (some false)) = some r := by rw [if_neg (show ¬ (false = true) by decide)] at H; exact H
        clear H
        have H := H1
        clear H1
        by_cases c24 : (wrap64 ((t382.size : Int) + (a1.size : Int))) > 1048576
        ·
         rw [if_pos c24] at H
         have c24b0 : decide (1048576 < (wrap64 ((t382.size : Int) + (a1.size : Int)))) = true := decide_eq_true c24
         try have c24b3 : decide (1048576 < (t382.size : Int) + (a1.size : Int)) = true := by have h1_ := of_eq_true c7b0; have h2_ := c24b0; rw [show wrap64 ((t382.size : Int) + (a1.size : Int)) = (t382.size : Int) + (a1.size : Int) by unfold wrap64; omega] at h2_; exact h2_
         clear c24
         replace H := Option.bind_eq_some_iff.mp H
         obtain ⟨t396, A250, H⟩ := H
         replace H : (some t396) = some r := H
         have A25 := Aside0.mk A250
         clear A250
         obtain rfl := Option.some.inj H
         go_enter Try.func9, Try.ntmps9
         go_wp2_with (first | ((with_reducible refine gate_callee (f := 10) rfl ?_); refine goesL_ (some 13) rfl rfl Try.func10 (by kernel_rfl) rfl #[] rfl (by (try simp only [List.map_toArray, List.map_cons, List.map_nil]); first | done | rfl | (simp only [List.length_drop, List.length_take]; rfl)) ?_; (with_reducible refine (palinodelaw01_examples.calls k  true _ A3.out).mono ?_); rintro e w26 ⟨rfl, hb⟩; refine ⟨_, rfl, ?_⟩; have n0_ := Aside0.mk (Yv HB hb); clear HB; have HB := n0_; clear n0_; (try clear hb); (try clear hb2); (try clear hk); (try clear hi)) | ((with_reducible refine gate_callee (f := 20) rfl ?_); refine goesL_ (some 16) rfl rfl Try.func20 (by kernel_rfl) rfl #[.slice A0 l0.length c0] rfl (by (try simp only [List.map_toArray, List.map_cons, List.map_nil]); first | done | rfl | (simp only [List.length_drop, List.length_take]; rfl)) ?_; (with_reducible refine (pack_Row.calls _ _ l0 t382 none _ ?side1 ?side2 A4.out).mono ?_); (case side1 => repeat (first | exact (Kd.C_below HR0.out HB.out) | (with_reducible refine Kd.C_alloc ?_ _) | (with_reducible refine Kd.C_drewN ?_ _) | (with_reducible refine Kd.C_drew ?_))); (case side2 => exact HC0.out); rintro e w27 ⟨rfl, hb⟩; refine ⟨_, rfl, ?_⟩; have n0_ := Aside0.mk (Yv HB hb); clear HB; have HB := n0_; clear n0_; (try clear hb); (try clear hb2); (try clear hk); (try clear hi); (try simp only [errW_none, errW_some])) | ((with_reducible refine gate_callee (f := 23) rfl ?_); refine goesL_ (some 28) rfl rfl Try.func23 (by kernel_rfl) rfl #[.string t382] rfl (by (try simp only [List.map_toArray, List.map_cons, List.map_nil]); first | done | rfl | (simp only [List.length_drop, List.length_take]; rfl)) ?_; (with_reducible refine (pack_ReadRow.calls k t382 t385 none _ A5.out).mono ?_); rintro e w28 ⟨v387, rfl, ho0, hb⟩; refine ⟨_, rfl, ?_⟩; have n0_ := Aside0.mk (Kd.R_lower ho0 (below_size (Yr HB))); have n1_ := Aside0.mk (Yv HB hb); clear HB; have HO388 := n0_; have HB := n1_; clear n0_ n1_; (try clear hb); (try clear hb2); (try clear hk); (try clear hi); (try clear ho0); (try simp only [errW_none, errW_some]); obtain ⟨Ao29, co29, eo29⟩ := Kd.R_slice HO388.out; subst eo29) | ((with_reducible refine gate_callee (f := 24) rfl ?_); refine goesL_ (some 33) rfl rfl Try.func24 (by kernel_rfl) rfl #[.slice A0 l0.length c0, .slice Ao29 t385.length co29] rfl (by (try simp only [List.map_toArray, List.map_cons, List.map_nil]); first | done | rfl | (simp only [List.length_drop, List.length_take]; rfl)) ?_; (with_reducible refine (palinodelaw01_texts.calls k _ _ l0 _ _ t385 true _ ?side1 ?side2 ?side3 ?side4 A6.out).mono ?_); (case side1 => repeat (first | exact (Kd.C_below HR0.out HB.out) | (with_reducible refine Kd.C_alloc ?_ _) | (with_reducible refine Kd.C_drewN ?_ _) | (with_reducible refine Kd.C_drew ?_))); (case side2 => exact HC0.out); (case side3 => repeat (first | exact (Kd.R_reads' HO388.out).2.2 | (with_reducible refine Kd.C_alloc ?_ _) | (with_reducible refine Kd.C_drewN ?_ _) | (with_reducible refine Kd.C_drew ?_))); (case side4 => exact (Kd.R_reads' HO388.out).2.1); rintro e w' ⟨rfl, ⟨nd, rfl⟩⟩; refine ⟨_, rfl, ?_⟩) | ((with_reducible refine gate_callee (f := 23) rfl ?_); refine goesL_ (some 38) rfl rfl Try.func23 (by kernel_rfl) rfl #[.string (t382 ++ a1)] rfl (by (try simp only [List.map_toArray, List.map_cons, List.map_nil]); first | done | rfl | (simp only [List.length_drop, List.length_take]; rfl)) ?_; (with_reducible refine (pack_ReadRow.calls k (t382 ++ a1) t390 t391 _ A8.out).mono ?_); rintro e w30 ⟨v392, rfl, ho0, hb⟩; refine ⟨_, rfl, ?_⟩; have n0_ := Aside0.mk (Kd.R_elder' (by (with_reducible repeat (first | apply Kd.R_alloc | apply Kd.R_drewN | apply Kd.R_drew)); exact HO388.out) (Kd.R_base ho0) hb); have n1_ := Aside0.mk (Kd.R_lower (Kd.R_new' ho0 (Kd.R_lt (by (with_reducible repeat (first | apply Kd.R_alloc | apply Kd.R_drewN | apply Kd.R_drew)); exact HO388.out))) (below_size (Yr HB))); have n2_ := Aside0.mk (Yv HB hb); clear HO388; clear HB; have HO388 := n0_; have HO393 := n1_; have HB := n2_; clear n0_ n1_ n2_; (try clear hb); (try clear hb2); (try clear hk); (try clear hi); (try clear ho0); (try simp only [errW_none, errW_some]); have CA17 := fun W => palinodelaw01_is.calls t391 3 false W A17.out; try simp only [errW_none, errW_some] at CA17) | (go_at_call 15; (with_reducible refine (CA17 _).mono ?_); rintro e w' ⟨rfl, ⟨nd, rfl⟩⟩; have CA25 := fun W => palinodelaw01_is.calls t391 5 t396 W A25.out; try simp only [errW_none, errW_some] at CA25) | (go_at_call 15; (with_reducible refine (CA25 _).mono ?_); rintro e w' ⟨rfl, ⟨nd, rfl⟩⟩))
         go_ret
         first | (refine absurd c11b0 ?_; simp [*]; done) | exact ⟨by first | rfl | (simp [errW_none, errW_some] <;> rfl) | (simp [*, errW_none, errW_some] <;> rfl), Yr HB⟩
        ·
         rw [if_neg c24] at H
         have c24b0 : decide (1048576 < (wrap64 ((t382.size : Int) + (a1.size : Int)))) = false := decide_eq_false c24
         try have c24b3 : decide (1048576 < (t382.size : Int) + (a1.size : Int)) = false := by have h1_ := of_eq_true c7b0; have h2_ := c24b0; rw [show wrap64 ((t382.size : Int) + (a1.size : Int)) = (t382.size : Int) + (a1.size : Int) by unfold wrap64; omega] at h2_; exact h2_
         clear c24
         exact absurd ((Option.some.inj H).trans HRT_.out) (by decide)
     ·
      have H1 : (some false) = some r := by rw [if_neg (show ¬ (some q394).isNone = true by simp)] at H; exact H
      clear H
      have H := H1
      clear H1
      try simp only [errW_none, errW_some]
      exact absurd ((Option.some.inj H).trans HRT_.out) (by decide)
    ·
     replace c10 := Bool.eq_false_iff.mpr c10
     subst c10
     have H1 : (some false) = some r := by rw [if_neg (show ¬ (false = true) by decide)] at H; exact H
     clear H
     have H := H1
     clear H1
     exact absurd ((Option.some.inj H).trans HRT_.out) (by decide)
   ·
    replace c9 := Bool.eq_false_iff.mpr c9
    subst c9
    have H1 : (some false) = some r := by rw [if_neg (show ¬ (false = true) by decide)] at H; exact H
    clear H
    have H := H1
    clear H1
    exact absurd ((Option.some.inj H).trans HRT_.out) (by decide)
  ·
   rw [if_neg c7] at H
   exact absurd H (by simp)
 ·
  have H1 : (if t381 = true then (some (t382.toList == ([] : List UInt8))) else (some false)) = some r := by rw [if_neg (show ¬ (some q384).isNone = true by simp)] at H; exact H
  clear H
  have H := H1
  clear H1
  try simp only [errW_none, errW_some]
  by_cases c31 : t381 = true
  ·
   subst c31
   have H1 : (some (t382.toList == ([] : List UInt8))) = some r := by rw [if_pos rfl] at H; exact H
   clear H
   have H := H1
   clear H1
   obtain rfl := Option.some.inj H
   go_enter Try.func9, Try.ntmps9
   go_wp2_with (first | ((with_reducible refine gate_callee (f := 10) rfl ?_); refine goesL_ (some 13) rfl rfl Try.func10 (by kernel_rfl) rfl #[] rfl (by (try simp only [List.map_toArray, List.map_cons, List.map_nil]); first | done | rfl | (simp only [List.length_drop, List.length_take]; rfl)) ?_; (with_reducible refine (palinodelaw01_examples.calls k  true _ A3.out).mono ?_); rintro e w32 ⟨rfl, hb⟩; refine ⟨_, rfl, ?_⟩; have n0_ := Aside0.mk (Yv HB hb); clear HB; have HB := n0_; clear n0_; (try clear hb); (try clear hb2); (try clear hk); (try clear hi)) | ((with_reducible refine gate_callee (f := 20) rfl ?_); refine goesL_ (some 16) rfl rfl Try.func20 (by kernel_rfl) rfl #[.slice A0 l0.length c0] rfl (by (try simp only [List.map_toArray, List.map_cons, List.map_nil]); first | done | rfl | (simp only [List.length_drop, List.length_take]; rfl)) ?_; (with_reducible refine (pack_Row.calls _ _ l0 t382 (some q384) _ ?side1 ?side2 A4.out).mono ?_); (case side1 => repeat (first | exact (Kd.C_below HR0.out HB.out) | (with_reducible refine Kd.C_alloc ?_ _) | (with_reducible refine Kd.C_drewN ?_ _) | (with_reducible refine Kd.C_drew ?_))); (case side2 => exact HC0.out); rintro e w33 ⟨rfl, hb⟩; refine ⟨_, rfl, ?_⟩; have n0_ := Aside0.mk (Yv HB hb); clear HB; have HB := n0_; clear n0_; (try clear hb); (try clear hb2); (try clear hk); (try clear hi); (try simp only [errW_none, errW_some])))
   go_ret
   exact ⟨by first | rfl | (simp [errW_none, errW_some] <;> rfl) | (simp [*, errW_none, errW_some] <;> rfl), Yr HB⟩
  ·
   replace c31 := Bool.eq_false_iff.mpr c31
   subst c31
   have H1 : (some false) = some r := by rw [if_neg (show ¬ (false = true) by decide)] at H; exact H
   clear H
   have H := H1
   clear H1
   exact absurd ((Option.some.inj H).trans HRT_.out) (by decide)

/-- THE ONE PURE STATEMENT of palinodelaw01_PackAll. -/
def palinodelaw01_PackAll.Pure : Prop := (∀ k_ r_, palinodelaw01_examples.f k_ = some r_ → r_ = true) ∧ ∀ (l0 : List ByteArray) (a1 : ByteArray), (l0.length ≤ maxLen ∧ l0.length * 16 ≤ 140737488351232 ∧ ∀ x_ ∈ l0, x_.size ≤ 140737488351232) → a1.size ≤ 140737488351232 → ∃ k, palinodelaw01_PackAll.f k l0 a1 = some true
theorem palinodelaw01_PackAll.walk (P : palinodelaw01_PackAll.Pure) (A0 : Option Addr) (c0 : Nat) (l0 : List ByteArray) (a1 : ByteArray) (w : World) (hr0 : Kd.C Kd.string w A0 l0.length l0) (hc0 : l0.length ≤ c0) (v0 : (l0.length ≤ maxLen ∧ l0.length * 16 ≤ 140737488351232 ∧ ∀ x_ ∈ l0, x_.size ≤ 140737488351232)) (v1 : a1.size ≤ 140737488351232) :
  Calls Try.prog 9 #[.slice A0 l0.length c0, .string a1] w fun e w' => e = .returned (.bool true) ∧ Below w.heap.size w w' := by
 obtain ⟨k, h⟩ := P.2 l0 a1 v0 v1
 refine (palinodelaw01_PackAll.calls k A0 c0 l0 a1 true w hr0 hc0 h ⟨P.1⟩).mono ?_
 rintro e w' ⟨rfl, hd⟩
 exact ⟨rfl, hd⟩

end Go.Proofs.Ythdjeekfnlagmaa.Print
