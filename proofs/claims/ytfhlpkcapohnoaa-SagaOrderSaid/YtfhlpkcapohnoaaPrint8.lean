-- Printed out of the translation by a program of this session's own. Not trusted: Lean checks it.
import Derived.Test.YtfhlpkcapohnoaaPrint0
import Derived.Test.YtfhlpkcapohnoaaPrint1
import Derived.Test.YtfhlpkcapohnoaaPrint2
import Derived.Test.YtfhlpkcapohnoaaPrint6
import Derived.Test.YtfhlpkcapohnoaaPrint7
namespace Go.Proofs.Ytfhlpkcapohnoaa.Print
open Go.RowKit Go.Proofs.YtfhlpkcapohnoaaW.PrintWords Go.Proofs.YtfhlpkcapohnoaaW.PrintLast Go.Proofs.YtfhlpkcapohnoaaX
set_option linter.unusedVariables false
set_option linter.unusedSimpArgs false

attribute [local go_sem high] eqA35
/-! ### palinodelaw19_SagaOrder: function 5 -/
mutual
def palinodelaw19_SagaOrder.j0 : Nat → List Int → Int → Bool → List (S35) → Bool → ByteArray → List (S53) → Option (Bool)
 | 0, _, _, _, _, _, _, _ => none
 | k + 1, x1, x2, x7, x8, x32, x325000, x325001 => if x32 = true then (if x7 = true then ((define_Right.f k x325000 x325001).bind fun t338 => (if t338 = true then (if x2 < 0 then (some true) else (some (decide (x2 > 1099511627776)))) else (some true))) else (some false)) else (palinodelaw19_SagaOrder.l0 k x1 x7 x8 (-1) (-1) false 0)
def palinodelaw19_SagaOrder.l0 : Nat → List Int → Bool → List (S35) → Int → Int → Bool → Int → Option (Bool)
 | 0, _, _, _, _, _, _, _ => none
 | k + 1, x1, x7, x8, x11, x12, x13, x14 => if x14 < (x8.length : Int) then (if 0 ≤ x14 then (if x14 > 0 then (if 0 ≤ (wrap64 (x14 - 1)) then (if (wrap64 (x14 - 1)) < (x8.length : Int) then (if ((rd_T35 x8 (wrap64 (x14 - 1))).f1) = ((rd_T35 x8 x14).f1) then (palinodelaw19_SagaOrder.j2 k x1 x7 x8 x11 x12 x13 x14 (((rd_T35 x8 (wrap64 (x14 - 1))).f2) == ((rd_T35 x8 x14).f2)) ((rd_T35 x8 x14).f0) ((rd_T35 x8 x14).f1) ((rd_T35 x8 x14).f2) ((rd_T35 x8 x14).f3)) else (palinodelaw19_SagaOrder.j2 k x1 x7 x8 x11 x12 x13 x14 false ((rd_T35 x8 x14).f0) ((rd_T35 x8 x14).f1) ((rd_T35 x8 x14).f2) ((rd_T35 x8 x14).f3))) else (none)) else (none)) else (palinodelaw19_SagaOrder.j2 k x1 x7 x8 x11 x12 x13 x14 false ((rd_T35 x8 x14).f0) ((rd_T35 x8 x14).f1) ((rd_T35 x8 x14).f2) ((rd_T35 x8 x14).f3))) else (none)) else (if x7 = true then (if 0 < (x8.length : Int) then (some ((((rd_T35 x8 0).f0).toList) == ([97] : List UInt8) && (((rd_T35 x8 0).f1) == 0 && (((rd_T35 x8 0).f2) == 1 && (((rd_T35 x8 0).f3) == 0))))) else (none)) else (some false))
def palinodelaw19_SagaOrder.j2 : Nat → List Int → Bool → List (S35) → Int → Int → Bool → Int → Bool → ByteArray → Int → Int → Int → Option (Bool)
 | 0, _, _, _, _, _, _, _, _, _, _, _, _ => none
 | k + 1, x1, x7, x8, x11, x12, x13, x14, x16, x342000, x342001, x342002, x342003 => if x16 = true then (if 0 ≤ (wrap64 (x14 - 1)) then (if (wrap64 (x14 - 1)) < (x8.length : Int) then (if x342003 = (wrap64 (((rd_T35 x8 (wrap64 (x14 - 1))).f3) + 1)) then (palinodelaw19_SagaOrder.j3 k x1 x7 x8 x11 x12 x13 x14 x16 false x342000 x342001 x342002 x342003) else (palinodelaw19_SagaOrder.j3 k x1 x7 x8 x11 x12 x13 x14 x16 true x342000 x342001 x342002 x342003)) else (none)) else (none)) else (palinodelaw19_SagaOrder.j3 k x1 x7 x8 x11 x12 x13 x14 x16 (x342003 != 0) x342000 x342001 x342002 x342003)
def palinodelaw19_SagaOrder.j3 : Nat → List Int → Bool → List (S35) → Int → Int → Bool → Int → Bool → Bool → ByteArray → Int → Int → Int → Option (Bool)
 | 0, _, _, _, _, _, _, _, _, _, _, _, _, _ => none
 | k + 1, x1, x7, x8, x11, x12, x13, x14, x16, x81, x342000, x342001, x342002, x342003 => if x81 = true then (some false) else (if x16 = true then (palinodelaw19_SagaOrder.l0 k x1 x7 x8 x11 x12 x13 (wrap64 (x14 + 1))) else (if x342002 = 1 then (if x13 = true then (palinodelaw19_SagaOrder.j4 k x1 x7 x8 x11 x12 x13 x14 false x342000 x342001 x342002 x342003) else (palinodelaw19_SagaOrder.j4 k x1 x7 x8 x11 x12 x13 x14 (x342001 == (wrap64 (x11 + 1))) x342000 x342001 x342002 x342003)) else (palinodelaw19_SagaOrder.j4 k x1 x7 x8 x11 x12 x13 x14 false x342000 x342001 x342002 x342003)))
def palinodelaw19_SagaOrder.j4 : Nat → List Int → Bool → List (S35) → Int → Int → Bool → Int → Bool → ByteArray → Int → Int → Int → Option (Bool)
 | 0, _, _, _, _, _, _, _, _, _, _, _, _ => none
 | k + 1, x1, x7, x8, x11, x12, x13, x14, x106, x342000, x342001, x342002, x342003 => if x106 = true then (palinodelaw19_SagaOrder.l0 k x1 x7 x8 (wrap64 (x11 + 1)) x12 x13 (wrap64 (x14 + 1))) else (if x342002 = 2 then (if x13 = true then (palinodelaw19_SagaOrder.j5 k x1 x7 x8 x11 x12 x13 x14 false x342000 x342001 x342002 x342003) else (if x342001 = x11 then (palinodelaw19_SagaOrder.j5 k x1 x7 x8 x11 x12 x13 x14 true x342000 x342001 x342002 x342003) else (palinodelaw19_SagaOrder.j5 k x1 x7 x8 x11 x12 x13 x14 (x342001 == (wrap64 (x11 - 1))) x342000 x342001 x342002 x342003))) else (palinodelaw19_SagaOrder.j5 k x1 x7 x8 x11 x12 x13 x14 false x342000 x342001 x342002 x342003))
def palinodelaw19_SagaOrder.j5 : Nat → List Int → Bool → List (S35) → Int → Int → Bool → Int → Bool → ByteArray → Int → Int → Int → Option (Bool)
 | 0, _, _, _, _, _, _, _, _, _, _, _, _ => none
 | k + 1, x1, x7, x8, x11, x12, x13, x14, x123, x342000, x342001, x342002, x342003 => if x123 = true then (if x342001 = (wrap64 (x11 - 1)) then (if 0 ≤ (wrap64 (x14 - 1)) then (if (wrap64 (x14 - 1)) < (x1.length : Int) then ((palinodelaw19_pick.f (rd x1 (wrap64 (x14 - 1))) 3).bind fun t346 => (if (wrap64 (t346 + 1)) = 2 then (if x342001 = x11 then ((palinodelaw19_pick.f (rd x1 (wrap64 (x14 - 1))) 3).bind fun t348 => (if (wrap64 (t348 + 1)) = 2 then (some false) else (palinodelaw19_SagaOrder.l0 k x1 x7 x8 x11 x342001 true (wrap64 (x14 + 1))))) else (palinodelaw19_SagaOrder.l0 k x1 x7 x8 x11 x342001 true (wrap64 (x14 + 1)))) else (some false))) else (none)) else (none)) else (if x342001 = x11 then (if 0 ≤ (wrap64 (x14 - 1)) then (if (wrap64 (x14 - 1)) < (x1.length : Int) then ((palinodelaw19_pick.f (rd x1 (wrap64 (x14 - 1))) 3).bind fun t350 => (if (wrap64 (t350 + 1)) = 2 then (some false) else (palinodelaw19_SagaOrder.l0 k x1 x7 x8 x11 x342001 true (wrap64 (x14 + 1))))) else (none)) else (none)) else (palinodelaw19_SagaOrder.l0 k x1 x7 x8 x11 x342001 true (wrap64 (x14 + 1))))) else (if x342002 = 2 then (if x13 = true then (if x342001 = (wrap64 (x12 - 1)) then (palinodelaw19_SagaOrder.l0 k x1 x7 x8 x11 (wrap64 (x12 - 1)) x13 (wrap64 (x14 + 1))) else (some false)) else (some false)) else (some false))
end
def palinodelaw19_SagaOrder.f (k : Nat) (a0_0 : ByteArray) (l0_1 : List (S53)) (l1 : List Int) (a2 : Int) : Option (Bool) := (palinodelaw19_examples.f k).bind fun t325 => ((palinodelaw19_run.f k a0_0 l0_1 l1 a2).bind fun bt326 => (if bt326.2.2.2.2.2.2.2.2 = true then (palinodelaw19_SagaOrder.j0 k l1 a2 t325 bt326.1 ((bt326.1.length : Int) == 0) a0_0 l0_1) else (palinodelaw19_SagaOrder.j0 k l1 a2 t325 bt326.1 true a0_0 l0_1)))
theorem palinodelaw19_SagaOrder.mono_l : ∀ k, (∀ y0 y1 y2 y3 y4 y5 y6, LeO (palinodelaw19_SagaOrder.j0 k y0 y1 y2 y3 y4 y5 y6) (palinodelaw19_SagaOrder.j0 (k + 1) y0 y1 y2 y3 y4 y5 y6)) ∧ (∀ y0 y1 y2 y3 y4 y5 y6, LeO (palinodelaw19_SagaOrder.l0 k y0 y1 y2 y3 y4 y5 y6) (palinodelaw19_SagaOrder.l0 (k + 1) y0 y1 y2 y3 y4 y5 y6)) ∧ (∀ y0 y1 y2 y3 y4 y5 y6 y7 y8 y9 y10 y11, LeO (palinodelaw19_SagaOrder.j2 k y0 y1 y2 y3 y4 y5 y6 y7 y8 y9 y10 y11) (palinodelaw19_SagaOrder.j2 (k + 1) y0 y1 y2 y3 y4 y5 y6 y7 y8 y9 y10 y11)) ∧ (∀ y0 y1 y2 y3 y4 y5 y6 y7 y8 y9 y10 y11 y12, LeO (palinodelaw19_SagaOrder.j3 k y0 y1 y2 y3 y4 y5 y6 y7 y8 y9 y10 y11 y12) (palinodelaw19_SagaOrder.j3 (k + 1) y0 y1 y2 y3 y4 y5 y6 y7 y8 y9 y10 y11 y12)) ∧ (∀ y0 y1 y2 y3 y4 y5 y6 y7 y8 y9 y10 y11, LeO (palinodelaw19_SagaOrder.j4 k y0 y1 y2 y3 y4 y5 y6 y7 y8 y9 y10 y11) (palinodelaw19_SagaOrder.j4 (k + 1) y0 y1 y2 y3 y4 y5 y6 y7 y8 y9 y10 y11)) ∧ (∀ y0 y1 y2 y3 y4 y5 y6 y7 y8 y9 y10 y11, LeO (palinodelaw19_SagaOrder.j5 k y0 y1 y2 y3 y4 y5 y6 y7 y8 y9 y10 y11) (palinodelaw19_SagaOrder.j5 (k + 1) y0 y1 y2 y3 y4 y5 y6 y7 y8 y9 y10 y11))
 | 0 => ⟨fun _ _ _ _ _ _ _ r h => by simp [palinodelaw19_SagaOrder.j0] at h, fun _ _ _ _ _ _ _ r h => by simp [palinodelaw19_SagaOrder.l0] at h, fun _ _ _ _ _ _ _ _ _ _ _ _ r h => by simp [palinodelaw19_SagaOrder.j2] at h, fun _ _ _ _ _ _ _ _ _ _ _ _ _ r h => by simp [palinodelaw19_SagaOrder.j3] at h, fun _ _ _ _ _ _ _ _ _ _ _ _ r h => by simp [palinodelaw19_SagaOrder.j4] at h, fun _ _ _ _ _ _ _ _ _ _ _ _ r h => by simp [palinodelaw19_SagaOrder.j5] at h⟩
 | k + 1 => by
  obtain ⟨ih0, ih1, ih2, ih3, ih4, ih5⟩ := palinodelaw19_SagaOrder.mono_l k
  refine ⟨?_, ?_, ?_, ?_, ?_, ?_⟩
  ·
   intro y0 y1 y2 y3 y4 y5 y6
   unfold palinodelaw19_SagaOrder.j0
   repeat' first
   | (with_reducible exact ih0 _ _ _ _ _ _ _)
   | (with_reducible exact ih1 _ _ _ _ _ _ _)
   | (with_reducible exact ih2 _ _ _ _ _ _ _ _ _ _ _ _)
   | (with_reducible exact ih3 _ _ _ _ _ _ _ _ _ _ _ _ _)
   | (with_reducible exact ih4 _ _ _ _ _ _ _ _ _ _ _ _)
   | (with_reducible exact ih5 _ _ _ _ _ _ _ _ _ _ _ _)
   | (with_reducible exact define_Right.mono _ _ _)
   | (with_reducible exact palinodelaw19_examples.mono _)
   | (with_reducible exact palinodelaw19_run.mono _ _ _ _ _)
   | (with_reducible exact LeO.refl _)
   | (with_reducible exact LeO.none _)
   | (with_reducible refine LeO.ite ?_ ?_)
   | (with_reducible refine LeO.bind ?_ (fun _ => ?_))
   | exact ih0 _ _ _ _ _ _ _
   | exact ih1 _ _ _ _ _ _ _
   | exact ih2 _ _ _ _ _ _ _ _ _ _ _ _
   | exact ih3 _ _ _ _ _ _ _ _ _ _ _ _ _
   | exact ih4 _ _ _ _ _ _ _ _ _ _ _ _
   | exact ih5 _ _ _ _ _ _ _ _ _ _ _ _
   | exact define_Right.mono _ _ _
   | exact palinodelaw19_examples.mono _
   | exact palinodelaw19_run.mono _ _ _ _ _
   | exact LeO.none _
   | refine LeO.ite ?_ ?_
   | refine LeO.bind ?_ (fun _ => ?_)
  ·
   intro y0 y1 y2 y3 y4 y5 y6
   unfold palinodelaw19_SagaOrder.l0
   repeat' first
   | (with_reducible exact ih0 _ _ _ _ _ _ _)
   | (with_reducible exact ih1 _ _ _ _ _ _ _)
   | (with_reducible exact ih2 _ _ _ _ _ _ _ _ _ _ _ _)
   | (with_reducible exact ih3 _ _ _ _ _ _ _ _ _ _ _ _ _)
   | (with_reducible exact ih4 _ _ _ _ _ _ _ _ _ _ _ _)
   | (with_reducible exact ih5 _ _ _ _ _ _ _ _ _ _ _ _)
   | (with_reducible exact define_Right.mono _ _ _)
   | (with_reducible exact palinodelaw19_examples.mono _)
   | (with_reducible exact palinodelaw19_run.mono _ _ _ _ _)
   | (with_reducible exact LeO.refl _)
   | (with_reducible exact LeO.none _)
   | (with_reducible refine LeO.ite ?_ ?_)
   | (with_reducible refine LeO.bind ?_ (fun _ => ?_))
   | exact ih0 _ _ _ _ _ _ _
   | exact ih1 _ _ _ _ _ _ _
   | exact ih2 _ _ _ _ _ _ _ _ _ _ _ _
   | exact ih3 _ _ _ _ _ _ _ _ _ _ _ _ _
   | exact ih4 _ _ _ _ _ _ _ _ _ _ _ _
   | exact ih5 _ _ _ _ _ _ _ _ _ _ _ _
   | exact define_Right.mono _ _ _
   | exact palinodelaw19_examples.mono _
   | exact palinodelaw19_run.mono _ _ _ _ _
   | exact LeO.none _
   | refine LeO.ite ?_ ?_
   | refine LeO.bind ?_ (fun _ => ?_)
  ·
   intro y0 y1 y2 y3 y4 y5 y6 y7 y8 y9 y10 y11
   unfold palinodelaw19_SagaOrder.j2
   repeat' first
   | (with_reducible exact ih0 _ _ _ _ _ _ _)
   | (with_reducible exact ih1 _ _ _ _ _ _ _)
   | (with_reducible exact ih2 _ _ _ _ _ _ _ _ _ _ _ _)
   | (with_reducible exact ih3 _ _ _ _ _ _ _ _ _ _ _ _ _)
   | (with_reducible exact ih4 _ _ _ _ _ _ _ _ _ _ _ _)
   | (with_reducible exact ih5 _ _ _ _ _ _ _ _ _ _ _ _)
   | (with_reducible exact define_Right.mono _ _ _)
   | (with_reducible exact palinodelaw19_examples.mono _)
   | (with_reducible exact palinodelaw19_run.mono _ _ _ _ _)
   | (with_reducible exact LeO.refl _)
   | (with_reducible exact LeO.none _)
   | (with_reducible refine LeO.ite ?_ ?_)
   | (with_reducible refine LeO.bind ?_ (fun _ => ?_))
   | exact ih0 _ _ _ _ _ _ _
   | exact ih1 _ _ _ _ _ _ _
   | exact ih2 _ _ _ _ _ _ _ _ _ _ _ _
   | exact ih3 _ _ _ _ _ _ _ _ _ _ _ _ _
   | exact ih4 _ _ _ _ _ _ _ _ _ _ _ _
   | exact ih5 _ _ _ _ _ _ _ _ _ _ _ _
   | exact define_Right.mono _ _ _
   | exact palinodelaw19_examples.mono _
   | exact palinodelaw19_run.mono _ _ _ _ _
   | exact LeO.none _
   | refine LeO.ite ?_ ?_
   | refine LeO.bind ?_ (fun _ => ?_)
  ·
   intro y0 y1 y2 y3 y4 y5 y6 y7 y8 y9 y10 y11 y12
   unfold palinodelaw19_SagaOrder.j3
   repeat' first
   | (with_reducible exact ih0 _ _ _ _ _ _ _)
   | (with_reducible exact ih1 _ _ _ _ _ _ _)
   | (with_reducible exact ih2 _ _ _ _ _ _ _ _ _ _ _ _)
   | (with_reducible exact ih3 _ _ _ _ _ _ _ _ _ _ _ _ _)
   | (with_reducible exact ih4 _ _ _ _ _ _ _ _ _ _ _ _)
   | (with_reducible exact ih5 _ _ _ _ _ _ _ _ _ _ _ _)
   | (with_reducible exact define_Right.mono _ _ _)
   | (with_reducible exact palinodelaw19_examples.mono _)
   | (with_reducible exact palinodelaw19_run.mono _ _ _ _ _)
   | (with_reducible exact LeO.refl _)
   | (with_reducible exact LeO.none _)
   | (with_reducible refine LeO.ite ?_ ?_)
   | (with_reducible refine LeO.bind ?_ (fun _ => ?_))
   | exact ih0 _ _ _ _ _ _ _
   | exact ih1 _ _ _ _ _ _ _
   | exact ih2 _ _ _ _ _ _ _ _ _ _ _ _
   | exact ih3 _ _ _ _ _ _ _ _ _ _ _ _ _
   | exact ih4 _ _ _ _ _ _ _ _ _ _ _ _
   | exact ih5 _ _ _ _ _ _ _ _ _ _ _ _
   | exact define_Right.mono _ _ _
   | exact palinodelaw19_examples.mono _
   | exact palinodelaw19_run.mono _ _ _ _ _
   | exact LeO.none _
   | refine LeO.ite ?_ ?_
   | refine LeO.bind ?_ (fun _ => ?_)
  ·
   intro y0 y1 y2 y3 y4 y5 y6 y7 y8 y9 y10 y11
   unfold palinodelaw19_SagaOrder.j4
   repeat' first
   | (with_reducible exact ih0 _ _ _ _ _ _ _)
   | (with_reducible exact ih1 _ _ _ _ _ _ _)
   | (with_reducible exact ih2 _ _ _ _ _ _ _ _ _ _ _ _)
   | (with_reducible exact ih3 _ _ _ _ _ _ _ _ _ _ _ _ _)
   | (with_reducible exact ih4 _ _ _ _ _ _ _ _ _ _ _ _)
   | (with_reducible exact ih5 _ _ _ _ _ _ _ _ _ _ _ _)
   | (with_reducible exact define_Right.mono _ _ _)
   | (with_reducible exact palinodelaw19_examples.mono _)
   | (with_reducible exact palinodelaw19_run.mono _ _ _ _ _)
   | (with_reducible exact LeO.refl _)
   | (with_reducible exact LeO.none _)
   | (with_reducible refine LeO.ite ?_ ?_)
   | (with_reducible refine LeO.bind ?_ (fun _ => ?_))
   | exact ih0 _ _ _ _ _ _ _
   | exact ih1 _ _ _ _ _ _ _
   | exact ih2 _ _ _ _ _ _ _ _ _ _ _ _
   | exact ih3 _ _ _ _ _ _ _ _ _ _ _ _ _
   | exact ih4 _ _ _ _ _ _ _ _ _ _ _ _
   | exact ih5 _ _ _ _ _ _ _ _ _ _ _ _
   | exact define_Right.mono _ _ _
   | exact palinodelaw19_examples.mono _
   | exact palinodelaw19_run.mono _ _ _ _ _
   | exact LeO.none _
   | refine LeO.ite ?_ ?_
   | refine LeO.bind ?_ (fun _ => ?_)
  ·
   intro y0 y1 y2 y3 y4 y5 y6 y7 y8 y9 y10 y11
   unfold palinodelaw19_SagaOrder.j5
   repeat' first
   | (with_reducible exact ih0 _ _ _ _ _ _ _)
   | (with_reducible exact ih1 _ _ _ _ _ _ _)
   | (with_reducible exact ih2 _ _ _ _ _ _ _ _ _ _ _ _)
   | (with_reducible exact ih3 _ _ _ _ _ _ _ _ _ _ _ _ _)
   | (with_reducible exact ih4 _ _ _ _ _ _ _ _ _ _ _ _)
   | (with_reducible exact ih5 _ _ _ _ _ _ _ _ _ _ _ _)
   | (with_reducible exact define_Right.mono _ _ _)
   | (with_reducible exact palinodelaw19_examples.mono _)
   | (with_reducible exact palinodelaw19_run.mono _ _ _ _ _)
   | (with_reducible exact LeO.refl _)
   | (with_reducible exact LeO.none _)
   | (with_reducible refine LeO.ite ?_ ?_)
   | (with_reducible refine LeO.bind ?_ (fun _ => ?_))
   | exact ih0 _ _ _ _ _ _ _
   | exact ih1 _ _ _ _ _ _ _
   | exact ih2 _ _ _ _ _ _ _ _ _ _ _ _
   | exact ih3 _ _ _ _ _ _ _ _ _ _ _ _ _
   | exact ih4 _ _ _ _ _ _ _ _ _ _ _ _
   | exact ih5 _ _ _ _ _ _ _ _ _ _ _ _
   | exact define_Right.mono _ _ _
   | exact palinodelaw19_examples.mono _
   | exact palinodelaw19_run.mono _ _ _ _ _
   | exact LeO.none _
   | refine LeO.ite ?_ ?_
   | refine LeO.bind ?_ (fun _ => ?_)
theorem palinodelaw19_SagaOrder.mono : ∀ a0 a1 a2 a3 k, LeO (palinodelaw19_SagaOrder.f k a0 a1 a2 a3) (palinodelaw19_SagaOrder.f (k + 1) a0 a1 a2 a3) := by
 intro a0 a1 a2 a3 k
 obtain ⟨ih0, ih1, ih2, ih3, ih4, ih5⟩ := palinodelaw19_SagaOrder.mono_l k
 unfold palinodelaw19_SagaOrder.f
 repeat' first
   | (with_reducible exact ih0 _ _ _ _ _ _ _)
   | (with_reducible exact ih1 _ _ _ _ _ _ _)
   | (with_reducible exact ih2 _ _ _ _ _ _ _ _ _ _ _ _)
   | (with_reducible exact ih3 _ _ _ _ _ _ _ _ _ _ _ _ _)
   | (with_reducible exact ih4 _ _ _ _ _ _ _ _ _ _ _ _)
   | (with_reducible exact ih5 _ _ _ _ _ _ _ _ _ _ _ _)
   | (with_reducible exact define_Right.mono _ _ _)
   | (with_reducible exact palinodelaw19_examples.mono _)
   | (with_reducible exact palinodelaw19_run.mono _ _ _ _ _)
   | (with_reducible exact LeO.refl _)
   | (with_reducible exact LeO.none _)
   | (with_reducible refine LeO.ite ?_ ?_)
   | (with_reducible refine LeO.bind ?_ (fun _ => ?_))
   | exact ih0 _ _ _ _ _ _ _
   | exact ih1 _ _ _ _ _ _ _
   | exact ih2 _ _ _ _ _ _ _ _ _ _ _ _
   | exact ih3 _ _ _ _ _ _ _ _ _ _ _ _ _
   | exact ih4 _ _ _ _ _ _ _ _ _ _ _ _
   | exact ih5 _ _ _ _ _ _ _ _ _ _ _ _
   | exact define_Right.mono _ _ _
   | exact palinodelaw19_examples.mono _
   | exact palinodelaw19_run.mono _ _ _ _ _
   | exact LeO.none _
   | refine LeO.ite ?_ ?_
   | refine LeO.bind ?_ (fun _ => ?_)
set_option maxHeartbeats 8000000 in
set_option maxRecDepth 100000 in
theorem palinodelaw19_SagaOrder.calls (k : Nat) (a0_0 : ByteArray) (A0_1 : Option Addr) (c0_1 : Nat) (l0_1 : List (S53)) (A1 : Option Addr) (c1 : Nat) (l1 : List Int) (a2 : Int) (r : Bool) (w : World) (hr0_1 : Kd.C k53 w A0_1 l0_1.length l0_1) (hc0_1 : l0_1.length ≤ c0_1) (hr1 : Kd.C (Kd.int .i64) w A1 l1.length l1) (hc1 : l1.length ≤ c1) (h : palinodelaw19_SagaOrder.f k a0_0 l0_1 l1 a2 = some r) (HEX_ : Aside0 (∀ k_ r_, palinodelaw19_examples.f k_ = some r_ → r_ = true)) (HRT_ : Aside0 (r = true) := by first | exact ⟨rfl⟩ | assumption) :
  Calls Try.prog 5 #[.agg #[.string a0_0, .slice A0_1 l0_1.length c0_1], .slice A1 l1.length c1, .int .i64 a2] w fun e w' => e = .returned (.bool r) ∧ Below w.heap.size w w' := by
 have hu24 := Try.underlying24
 have hu26 := Try.underlying26
 have hu35 := Try.underlying35
 have HR0_1 := Aside0.mk hr0_1
 have HC0_1 := Aside0.mk hc0_1
 clear hr0_1 hc0_1
 have HR1 := Aside0.mk hr1
 have HC1 := Aside0.mk hc1
 clear hr1 hc1
 have HB := Aside0.mk (Below.refl w.heap.size w)
 have H : ((palinodelaw19_examples.f k).bind fun t325 => ((palinodelaw19_run.f k a0_0 l0_1 l1 a2).bind fun bt326 => (if bt326.2.2.2.2.2.2.2.2 = true then (palinodelaw19_SagaOrder.j0 k l1 a2 t325 bt326.1 ((bt326.1.length : Int) == 0) a0_0 l0_1) else (palinodelaw19_SagaOrder.j0 k l1 a2 t325 bt326.1 true a0_0 l0_1)))) = some r := h
 clear h
 replace H := Option.bind_eq_some_iff.mp H
 obtain ⟨t325, A40, H⟩ := H
 replace H : ((palinodelaw19_run.f k a0_0 l0_1 l1 a2).bind fun bt326 => (if bt326.2.2.2.2.2.2.2.2 = true then (palinodelaw19_SagaOrder.j0 k l1 a2 t325 bt326.1 ((bt326.1.length : Int) == 0) a0_0 l0_1) else (palinodelaw19_SagaOrder.j0 k l1 a2 t325 bt326.1 true a0_0 l0_1))) = some r := H
 have A4 := Aside0.mk A40
 have HTA4_ : Aside0 (t325 = true) := ⟨HEX_.out _ _ A40⟩
 clear A40
 replace H := Option.bind_eq_some_iff.mp H
 obtain ⟨⟨t326, t329, t330, t331, t332, t333, t334, t335, t336⟩, A50, H⟩ := H
 replace H : (if t336 = true then (palinodelaw19_SagaOrder.j0 k l1 a2 t325 t326 ((t326.length : Int) == 0) a0_0 l0_1) else (palinodelaw19_SagaOrder.j0 k l1 a2 t325 t326 true a0_0 l0_1)) = some r := H
 have A5 := Aside0.mk A50
 clear A50
 have HC6 := Aside0.mk H
 clear H
 go_enter Try.func5, Try.ntmps5
 go_upto_region 3 with (first | ((with_reducible refine gate_dst (N := 3) rfl ?_); (try (refine gate_guard (by rfl) ?_; dsimp only)); refine box_event ?hg (N := 3) ?hd (cs := #[.string a0_0, .slice A0_1 l0_1.length c0_1]) (t := 24) ?hr ?_; (case hd => rfl); (case hg => rfl); (case hr => first | (go_simp; done) | (go_simp; rfl)); intro gb324 hg w7 hbox hb; have n0_ := Aside0.mk (Yv HB hb); have n1_ := Aside0.mk (hbox); have n2_ := Aside0.mk (Yg HB hg); have n3_ := Aside0.mk (Yg HB hg); clear HB; have HB := n0_; have BK324 := n1_; have GW324 := n2_; have GE324 := n3_; clear n0_ n1_ n2_ n3_; clear hb hbox hg) | (go_at_call 13; (with_reducible refine (palinodelaw19_examples.calls k  t325 _ A4.out).mono ?_); rintro e w8 ⟨rfl, hb⟩; have n0_ := Aside0.mk (Zv BK324 hb); have n1_ := Aside0.mk (Yv HB hb); clear BK324; clear HB; have BK324 := n0_; have HB := n1_; clear n0_ n1_; (try clear hb); (try clear hb2); (try clear hk); (try clear hi); obtain ⟨⟨hcz9_0, hcz9_1⟩, hfz9_0, hfz9_1⟩ := Zk2 BK324) | (go_at_call 25; (with_reducible refine (palinodelaw19_run.calls k a0_0 _ _ l0_1 _ _ l1 a2 t326 t329 t330 t331 t332 t333 t334 t335 t336 _ ?side1 ?side2 ?side3 ?side4 A5.out).mono ?_); (case side1 => repeat (first | exact (Kd.C_below HR0_1.out HB.out) | (with_reducible refine Kd.C_alloc ?_ _) | (with_reducible refine Kd.C_drewN ?_ _) | (with_reducible refine Kd.C_drew ?_))); (case side2 => exact HC0_1.out); (case side3 => repeat (first | exact (Kd.C_below HR1.out HB.out) | (with_reducible refine Kd.C_alloc ?_ _) | (with_reducible refine Kd.C_drewN ?_ _) | (with_reducible refine Kd.C_drew ?_))); (case side4 => exact HC1.out); rintro e w10 ⟨v327, rfl, ho0, hb⟩; have n0_ := Aside0.mk (Kd.R_lower ho0 (below_size (Yr HB))); have n1_ := Aside0.mk (Zv BK324 hb); have n2_ := Aside0.mk (Yv HB hb); clear BK324; clear HB; have HO328 := n0_; have BK324 := n1_; have HB := n2_; clear n0_ n1_ n2_; (try clear hb); (try clear hb2); (try clear hk); (try clear hi); (try clear ho0)) | ((with_reducible refine gate_dst (N := 9) rfl ?_); (try (refine gate_guard (by rfl) ?_; dsimp only)); refine box_event ?hg (N := 9) ?hd (cs := #[.string (⟨#[]⟩ : ByteArray), .string (⟨#[]⟩ : ByteArray), .int .i64 0, .int .i64 0, .int .i64 0, .int .i64 0, .bool false]) (t := 26) ?hr ?_; (case hd => rfl); (case hg => rfl); (case hr => first | (go_simp; done) | (go_simp; rfl)); intro gb337 hg w11 hbox hb; have n0_ := Aside0.mk (Kd.R_below (by (with_reducible repeat (first | apply Kd.R_alloc | apply Kd.R_drewN | apply Kd.R_drew)); exact HO328.out) hb); have n1_ := Aside0.mk (Zv BK324 hb); have n2_ := Aside0.mk (Yv HB hb); have n3_ := Aside0.mk (hbox); have n4_ := Aside0.mk (Yg HB hg); have n5_ := Aside0.mk (Yg HB hg); have n6_ := Aside0.mk (Zl BK324 hg); have n7_ := Aside0.mk (Zg BK324 hg); clear HO328; clear BK324; clear HB; have HO328 := n0_; have BK324 := n1_; have HB := n2_; have BK337 := n3_; have GW337 := n4_; have GE337 := n5_; have NB324_337 := n6_; have NB337_324 := n7_; clear n0_ n1_ n2_ n3_ n4_ n5_ n6_ n7_; clear hb hbox hg; obtain ⟨hnb12, hnc12⟩ := Zo NB337_324; obtain ⟨⟨hcz13_0, hcz13_1, hcz13_2, hcz13_3, hcz13_4, hcz13_5, hcz13_6⟩, hfz13_0, hfz13_1, hfz13_2, hfz13_3, hfz13_4, hfz13_5, hfz13_6⟩ := Zk7 BK337))
 repeat (go_quiet (first | ((with_reducible refine gate_dst (N := 3) rfl ?_); (try (refine gate_guard (by rfl) ?_; dsimp only)); refine box_event ?hg (N := 3) ?hd (cs := #[.string a0_0, .slice A0_1 l0_1.length c0_1]) (t := 24) ?hr ?_; (case hd => rfl); (case hg => rfl); (case hr => first | (go_simp; done) | (go_simp; rfl)); intro gb324 hg w7 hbox hb; have n0_ := Aside0.mk (Yv HB hb); have n1_ := Aside0.mk (hbox); have n2_ := Aside0.mk (Yg HB hg); have n3_ := Aside0.mk (Yg HB hg); clear HB; have HB := n0_; have BK324 := n1_; have GW324 := n2_; have GE324 := n3_; clear n0_ n1_ n2_ n3_; clear hb hbox hg) | (go_at_call 13; (with_reducible refine (palinodelaw19_examples.calls k  t325 _ A4.out).mono ?_); rintro e w8 ⟨rfl, hb⟩; have n0_ := Aside0.mk (Zv BK324 hb); have n1_ := Aside0.mk (Yv HB hb); clear BK324; clear HB; have BK324 := n0_; have HB := n1_; clear n0_ n1_; (try clear hb); (try clear hb2); (try clear hk); (try clear hi); obtain ⟨⟨hcz9_0, hcz9_1⟩, hfz9_0, hfz9_1⟩ := Zk2 BK324) | (go_at_call 25; (with_reducible refine (palinodelaw19_run.calls k a0_0 _ _ l0_1 _ _ l1 a2 t326 t329 t330 t331 t332 t333 t334 t335 t336 _ ?side1 ?side2 ?side3 ?side4 A5.out).mono ?_); (case side1 => repeat (first | exact (Kd.C_below HR0_1.out HB.out) | (with_reducible refine Kd.C_alloc ?_ _) | (with_reducible refine Kd.C_drewN ?_ _) | (with_reducible refine Kd.C_drew ?_))); (case side2 => exact HC0_1.out); (case side3 => repeat (first | exact (Kd.C_below HR1.out HB.out) | (with_reducible refine Kd.C_alloc ?_ _) | (with_reducible refine Kd.C_drewN ?_ _) | (with_reducible refine Kd.C_drew ?_))); (case side4 => exact HC1.out); rintro e w10 ⟨v327, rfl, ho0, hb⟩; have n0_ := Aside0.mk (Kd.R_lower ho0 (below_size (Yr HB))); have n1_ := Aside0.mk (Zv BK324 hb); have n2_ := Aside0.mk (Yv HB hb); clear BK324; clear HB; have HO328 := n0_; have BK324 := n1_; have HB := n2_; clear n0_ n1_ n2_; (try clear hb); (try clear hb2); (try clear hk); (try clear hi); (try clear ho0)) | ((with_reducible refine gate_dst (N := 9) rfl ?_); (try (refine gate_guard (by rfl) ?_; dsimp only)); refine box_event ?hg (N := 9) ?hd (cs := #[.string (⟨#[]⟩ : ByteArray), .string (⟨#[]⟩ : ByteArray), .int .i64 0, .int .i64 0, .int .i64 0, .int .i64 0, .bool false]) (t := 26) ?hr ?_; (case hd => rfl); (case hg => rfl); (case hr => first | (go_simp; done) | (go_simp; rfl)); intro gb337 hg w11 hbox hb; have n0_ := Aside0.mk (Kd.R_below (by (with_reducible repeat (first | apply Kd.R_alloc | apply Kd.R_drewN | apply Kd.R_drew)); exact HO328.out) hb); have n1_ := Aside0.mk (Zv BK324 hb); have n2_ := Aside0.mk (Yv HB hb); have n3_ := Aside0.mk (hbox); have n4_ := Aside0.mk (Yg HB hg); have n5_ := Aside0.mk (Yg HB hg); have n6_ := Aside0.mk (Zl BK324 hg); have n7_ := Aside0.mk (Zg BK324 hg); clear HO328; clear BK324; clear HB; have HO328 := n0_; have BK324 := n1_; have HB := n2_; have BK337 := n3_; have GW337 := n4_; have GE337 := n5_; have NB324_337 := n6_; have NB337_324 := n7_; clear n0_ n1_ n2_ n3_ n4_ n5_ n6_ n7_; clear hb hbox hg; obtain ⟨hnb12, hnc12⟩ := Zo NB337_324; obtain ⟨⟨hcz13_0, hcz13_1, hcz13_2, hcz13_3, hcz13_4, hcz13_5, hcz13_6⟩, hfz13_0, hfz13_1, hfz13_2, hfz13_3, hfz13_4, hfz13_5, hfz13_6⟩ := Zk7 BK337)); go_upto_region 3 with (first | ((with_reducible refine gate_dst (N := 3) rfl ?_); (try (refine gate_guard (by rfl) ?_; dsimp only)); refine box_event ?hg (N := 3) ?hd (cs := #[.string a0_0, .slice A0_1 l0_1.length c0_1]) (t := 24) ?hr ?_; (case hd => rfl); (case hg => rfl); (case hr => first | (go_simp; done) | (go_simp; rfl)); intro gb324 hg w7 hbox hb; have n0_ := Aside0.mk (Yv HB hb); have n1_ := Aside0.mk (hbox); have n2_ := Aside0.mk (Yg HB hg); have n3_ := Aside0.mk (Yg HB hg); clear HB; have HB := n0_; have BK324 := n1_; have GW324 := n2_; have GE324 := n3_; clear n0_ n1_ n2_ n3_; clear hb hbox hg) | (go_at_call 13; (with_reducible refine (palinodelaw19_examples.calls k  t325 _ A4.out).mono ?_); rintro e w8 ⟨rfl, hb⟩; have n0_ := Aside0.mk (Zv BK324 hb); have n1_ := Aside0.mk (Yv HB hb); clear BK324; clear HB; have BK324 := n0_; have HB := n1_; clear n0_ n1_; (try clear hb); (try clear hb2); (try clear hk); (try clear hi); obtain ⟨⟨hcz9_0, hcz9_1⟩, hfz9_0, hfz9_1⟩ := Zk2 BK324) | (go_at_call 25; (with_reducible refine (palinodelaw19_run.calls k a0_0 _ _ l0_1 _ _ l1 a2 t326 t329 t330 t331 t332 t333 t334 t335 t336 _ ?side1 ?side2 ?side3 ?side4 A5.out).mono ?_); (case side1 => repeat (first | exact (Kd.C_below HR0_1.out HB.out) | (with_reducible refine Kd.C_alloc ?_ _) | (with_reducible refine Kd.C_drewN ?_ _) | (with_reducible refine Kd.C_drew ?_))); (case side2 => exact HC0_1.out); (case side3 => repeat (first | exact (Kd.C_below HR1.out HB.out) | (with_reducible refine Kd.C_alloc ?_ _) | (with_reducible refine Kd.C_drewN ?_ _) | (with_reducible refine Kd.C_drew ?_))); (case side4 => exact HC1.out); rintro e w10 ⟨v327, rfl, ho0, hb⟩; have n0_ := Aside0.mk (Kd.R_lower ho0 (below_size (Yr HB))); have n1_ := Aside0.mk (Zv BK324 hb); have n2_ := Aside0.mk (Yv HB hb); clear BK324; clear HB; have HO328 := n0_; have BK324 := n1_; have HB := n2_; clear n0_ n1_ n2_; (try clear hb); (try clear hb2); (try clear hk); (try clear hi); (try clear ho0)) | ((with_reducible refine gate_dst (N := 9) rfl ?_); (try (refine gate_guard (by rfl) ?_; dsimp only)); refine box_event ?hg (N := 9) ?hd (cs := #[.string (⟨#[]⟩ : ByteArray), .string (⟨#[]⟩ : ByteArray), .int .i64 0, .int .i64 0, .int .i64 0, .int .i64 0, .bool false]) (t := 26) ?hr ?_; (case hd => rfl); (case hg => rfl); (case hr => first | (go_simp; done) | (go_simp; rfl)); intro gb337 hg w11 hbox hb; have n0_ := Aside0.mk (Kd.R_below (by (with_reducible repeat (first | apply Kd.R_alloc | apply Kd.R_drewN | apply Kd.R_drew)); exact HO328.out) hb); have n1_ := Aside0.mk (Zv BK324 hb); have n2_ := Aside0.mk (Yv HB hb); have n3_ := Aside0.mk (hbox); have n4_ := Aside0.mk (Yg HB hg); have n5_ := Aside0.mk (Yg HB hg); have n6_ := Aside0.mk (Zl BK324 hg); have n7_ := Aside0.mk (Zg BK324 hg); clear HO328; clear BK324; clear HB; have HO328 := n0_; have BK324 := n1_; have HB := n2_; have BK337 := n3_; have GW337 := n4_; have GE337 := n5_; have NB324_337 := n6_; have NB337_324 := n7_; clear n0_ n1_ n2_ n3_ n4_ n5_ n6_ n7_; clear hb hbox hg; obtain ⟨hnb12, hnc12⟩ := Zo NB337_324; obtain ⟨⟨hcz13_0, hcz13_1, hcz13_2, hcz13_3, hcz13_4, hcz13_5, hcz13_6⟩, hfz13_0, hfz13_1, hfz13_2, hfz13_3, hfz13_4, hfz13_5, hfz13_6⟩ := Zk7 BK337)))
 (try simp only [Act.put, List.setIfInBounds_toArray, List.set_cons_zero, List.set_cons_succ])
 go_cut [32] (fun v32 wc => ∃ (kq : Nat) (x32_5 : Bool), v32 = .bool x32_5 ∧ Aside0 (palinodelaw19_SagaOrder.j0 kq l1 a2 t325 t326 x32_5 a0_0 l0_1 = some r) ∧ Aside0 (kq ≤ k) ∧ Aside0 (Kd.R k35 35 wc w.heap.size (fun _ => True) v327 t326) ∧ Aside0 (wc.heap[gb324]? = some (.cells #[.string a0_0, (.slice A0_1 l0_1.length c0_1)] 24 (0, 0))) ∧ Aside0 (wc.heap[gb337]? = some (.cells #[.string t329, .string t330, .int .i64 t331, .int .i64 t332, .int .i64 t333, .int .i64 t334, .bool t335] 26 (0, 0))) ∧ Aside0 (Below w.heap.size w wc))
 case first =>
  have H := HC6.out
  clear HC6
  by_cases c14 : t336 = true
  ·
   subst c14
   have H1 : (palinodelaw19_SagaOrder.j0 k l1 a2 t325 t326 ((t326.length : Int) == 0) a0_0 l0_1) = some r := by rw [if_pos rfl] at H; exact H
   clear H
   have H := H1
   clear H1
   have H' := Aside0.mk H
   clear H
   obtain ⟨Ao15, co15, eo15⟩ := Kd.R_slice HO328.out
   subst eo15
   go_wp2
   repeat (go_quiet (fail); try go_wp2)
   go_meet
   case rel => exact ⟨_, (((t326.length : Int) == 0)), (by first | rfl | (simp; done) | (simp [*]; done)), H', ⟨by first | omega | exact Nat.le_refl _⟩, ⟨by (with_reducible repeat (first | apply Kd.R_alloc | apply Kd.R_drewN | apply Kd.R_drew)); exact Kd.R_mono (Kd.R_far (p := ⟨gb337, 6, none⟩) (Kd.R_far (p := ⟨gb337, 5, none⟩) (Kd.R_far (p := ⟨gb337, 4, none⟩) (Kd.R_far (p := ⟨gb337, 3, none⟩) (Kd.R_far (p := ⟨gb337, 2, none⟩) (Kd.R_far (p := ⟨gb337, 1, none⟩) (Kd.R_far (p := ⟨gb337, 0, none⟩) (Kd.R_types HO328.out BK337.out (by decide)) (fun _ hk => hk.2) (.string t329)) (fun _ hk => hk.2) (.string t330)) (fun _ hk => hk.2) (.int .i64 t331)) (fun _ hk => hk.2) (.int .i64 t332)) (fun _ hk => hk.2) (.int .i64 t333)) (fun _ hk => hk.2) (.int .i64 t334)) (fun _ hk => hk.2) (.bool t335)) (fun _ hk => trivial)⟩, ⟨by (with_reducible repeat first | apply Zn | apply Zd | apply Za); refine Zq ?_ NB324_337.out _; (with_reducible repeat first | apply Zn | apply Zd | apply Za); refine Zq ?_ NB324_337.out _; (with_reducible repeat first | apply Zn | apply Zd | apply Za); refine Zq ?_ NB324_337.out _; (with_reducible repeat first | apply Zn | apply Zd | apply Za); refine Zq ?_ NB324_337.out _; (with_reducible repeat first | apply Zn | apply Zd | apply Za); refine Zq ?_ NB324_337.out _; (with_reducible repeat first | apply Zn | apply Zd | apply Za); refine Zq ?_ NB324_337.out _; (with_reducible repeat first | apply Zn | apply Zd | apply Za); refine Zq ?_ NB324_337.out _; (with_reducible repeat first | apply Zn | apply Zd | apply Za); exact BK324.out⟩, ⟨by (with_reducible repeat first | apply Zn | apply Zd | apply Za); refine Zp (cs := #[.string t329, .string t330, .int .i64 t331, .int .i64 t332, .int .i64 t333, .int .i64 t334, .bool false]) ?_ 6 _ rfl; (with_reducible repeat first | apply Zn | apply Zd | apply Za); refine Zp (cs := #[.string t329, .string t330, .int .i64 t331, .int .i64 t332, .int .i64 t333, .int .i64 0, .bool false]) ?_ 5 _ rfl; (with_reducible repeat first | apply Zn | apply Zd | apply Za); refine Zp (cs := #[.string t329, .string t330, .int .i64 t331, .int .i64 t332, .int .i64 0, .int .i64 0, .bool false]) ?_ 4 _ rfl; (with_reducible repeat first | apply Zn | apply Zd | apply Za); refine Zp (cs := #[.string t329, .string t330, .int .i64 t331, .int .i64 0, .int .i64 0, .int .i64 0, .bool false]) ?_ 3 _ rfl; (with_reducible repeat first | apply Zn | apply Zd | apply Za); refine Zp (cs := #[.string t329, .string t330, .int .i64 0, .int .i64 0, .int .i64 0, .int .i64 0, .bool false]) ?_ 2 _ rfl; (with_reducible repeat first | apply Zn | apply Zd | apply Za); refine Zp (cs := #[.string t329, .string (⟨#[]⟩ : ByteArray), .int .i64 0, .int .i64 0, .int .i64 0, .int .i64 0, .bool false]) ?_ 1 _ rfl; (with_reducible repeat first | apply Zn | apply Zd | apply Za); refine Zp (cs := #[.string (⟨#[]⟩ : ByteArray), .string (⟨#[]⟩ : ByteArray), .int .i64 0, .int .i64 0, .int .i64 0, .int .i64 0, .bool false]) ?_ 0 _ rfl; (with_reducible repeat first | apply Zn | apply Zd | apply Za); exact BK337.out⟩, ⟨Yr HB⟩⟩
  ·
   replace c14 := Bool.eq_false_iff.mpr c14
   subst c14
   have H1 : (palinodelaw19_SagaOrder.j0 k l1 a2 t325 t326 true a0_0 l0_1) = some r := by rw [if_neg (show ¬ (false = true) by decide)] at H; exact H
   clear H
   have H := H1
   clear H1
   have H' := Aside0.mk H
   clear H
   go_wp2
   repeat (go_quiet (fail); try go_wp2)
   go_meet
   case rel => exact ⟨_, (true), (by first | rfl | (simp; done) | (simp [*]; done)), H', ⟨by first | omega | exact Nat.le_refl _⟩, ⟨by (with_reducible repeat (first | apply Kd.R_alloc | apply Kd.R_drewN | apply Kd.R_drew)); exact Kd.R_mono (Kd.R_far (p := ⟨gb337, 6, none⟩) (Kd.R_far (p := ⟨gb337, 5, none⟩) (Kd.R_far (p := ⟨gb337, 4, none⟩) (Kd.R_far (p := ⟨gb337, 3, none⟩) (Kd.R_far (p := ⟨gb337, 2, none⟩) (Kd.R_far (p := ⟨gb337, 1, none⟩) (Kd.R_far (p := ⟨gb337, 0, none⟩) (Kd.R_types HO328.out BK337.out (by decide)) (fun _ hk => hk.2) (.string t329)) (fun _ hk => hk.2) (.string t330)) (fun _ hk => hk.2) (.int .i64 t331)) (fun _ hk => hk.2) (.int .i64 t332)) (fun _ hk => hk.2) (.int .i64 t333)) (fun _ hk => hk.2) (.int .i64 t334)) (fun _ hk => hk.2) (.bool t335)) (fun _ hk => trivial)⟩, ⟨by (with_reducible repeat first | apply Zn | apply Zd | apply Za); refine Zq ?_ NB324_337.out _; (with_reducible repeat first | apply Zn | apply Zd | apply Za); refine Zq ?_ NB324_337.out _; (with_reducible repeat first | apply Zn | apply Zd | apply Za); refine Zq ?_ NB324_337.out _; (with_reducible repeat first | apply Zn | apply Zd | apply Za); refine Zq ?_ NB324_337.out _; (with_reducible repeat first | apply Zn | apply Zd | apply Za); refine Zq ?_ NB324_337.out _; (with_reducible repeat first | apply Zn | apply Zd | apply Za); refine Zq ?_ NB324_337.out _; (with_reducible repeat first | apply Zn | apply Zd | apply Za); refine Zq ?_ NB324_337.out _; (with_reducible repeat first | apply Zn | apply Zd | apply Za); exact BK324.out⟩, ⟨by (with_reducible repeat first | apply Zn | apply Zd | apply Za); refine Zp (cs := #[.string t329, .string t330, .int .i64 t331, .int .i64 t332, .int .i64 t333, .int .i64 t334, .bool false]) ?_ 6 _ rfl; (with_reducible repeat first | apply Zn | apply Zd | apply Za); refine Zp (cs := #[.string t329, .string t330, .int .i64 t331, .int .i64 t332, .int .i64 t333, .int .i64 0, .bool false]) ?_ 5 _ rfl; (with_reducible repeat first | apply Zn | apply Zd | apply Za); refine Zp (cs := #[.string t329, .string t330, .int .i64 t331, .int .i64 t332, .int .i64 0, .int .i64 0, .bool false]) ?_ 4 _ rfl; (with_reducible repeat first | apply Zn | apply Zd | apply Za); refine Zp (cs := #[.string t329, .string t330, .int .i64 t331, .int .i64 0, .int .i64 0, .int .i64 0, .bool false]) ?_ 3 _ rfl; (with_reducible repeat first | apply Zn | apply Zd | apply Za); refine Zp (cs := #[.string t329, .string t330, .int .i64 0, .int .i64 0, .int .i64 0, .int .i64 0, .bool false]) ?_ 2 _ rfl; (with_reducible repeat first | apply Zn | apply Zd | apply Za); refine Zp (cs := #[.string t329, .string (⟨#[]⟩ : ByteArray), .int .i64 0, .int .i64 0, .int .i64 0, .int .i64 0, .bool false]) ?_ 1 _ rfl; (with_reducible repeat first | apply Zn | apply Zd | apply Za); refine Zp (cs := #[.string (⟨#[]⟩ : ByteArray), .string (⟨#[]⟩ : ByteArray), .int .i64 0, .int .i64 0, .int .i64 0, .int .i64 0, .bool false]) ?_ 0 _ rfl; (with_reducible repeat first | apply Zn | apply Zd | apply Za); exact BK337.out⟩, ⟨Yr HB⟩⟩
 case rest =>
  as_aux_lemma =>
  clear HC6
  try clear c1
  try clear p2
  try clear c5
  try clear c12
  try clear c14
  try clear hcz13_0
  try clear hcz13_1
  try clear hcz13_2
  try clear hcz13_3
  try clear hcz13_4
  try clear hcz13_5
  try clear hcz13_6
  try clear hcz9_0
  try clear hcz9_1
  try clear hfz13_0
  try clear hfz13_1
  try clear hfz13_2
  try clear hfz13_3
  try clear hfz13_4
  try clear hfz13_5
  try clear hfz13_6
  try clear hfz9_0
  try clear hfz9_1
  obtain ⟨kq, x32_5, rfl, HA, HJ5, HO_8, BK324, BK337, HB⟩ := hcut
  cases kq with
  | zero => exact absurd HA.out (by simp [palinodelaw19_SagaOrder.j0])
  | succ kj5 =>
   have H := HA.out
   clear HA
   simp only [palinodelaw19_SagaOrder.j0] at H
   by_cases c16 : x32_5 = true
   ·
    subst c16
    have H1 : (if t325 = true then ((define_Right.f kj5 a0_0 l0_1).bind fun t338 => (if t338 = true then (if a2 < 0 then (some true) else (some (decide (a2 > 1099511627776)))) else (some true))) else (some false)) = some r := by rw [if_pos rfl] at H; exact H
    clear H
    have H := H1
    clear H1
    by_cases c17 : t325 = true
    ·
     subst c17
     have H1 : ((define_Right.f kj5 a0_0 l0_1).bind fun t338 => (if t338 = true then (if a2 < 0 then (some true) else (some (decide (a2 > 1099511627776)))) else (some true))) = some r := by rw [if_pos rfl] at H; exact H
     clear H
     have H := H1
     clear H1
     replace H := Option.bind_eq_some_iff.mp H
     obtain ⟨t338, A180, H⟩ := H
     replace H : (if t338 = true then (if a2 < 0 then (some true) else (some (decide (a2 > 1099511627776)))) else (some true)) = some r := H
     have A18 := Aside0.mk A180
     clear A180
     by_cases c19 : t338 = true
     ·
      subst c19
      have H1 : (if a2 < 0 then (some true) else (some (decide (a2 > 1099511627776)))) = some r := by rw [if_pos rfl] at H; exact H
      clear H
      have H := H1
      clear H1
      by_cases c20 : a2 < 0
      ·
       rw [if_pos c20] at H
       have c20b0 : decide (a2 < 0) = true := decide_eq_true c20
       clear c20
       obtain rfl := Option.some.inj H
       obtain ⟨hnb21, hnc21⟩ := Zo NB324_337
       obtain ⟨⟨hcz22_0, hcz22_1⟩, hfz22_0, hfz22_1⟩ := Zk2 BK324
       go_wp2_with (first | (go_at_call 26; (with_reducible refine (define_Right.calls kj5 a0_0 _ _ l0_1 true _ ?side1 ?side2 A18.out).mono ?_); (case side1 => repeat (first | exact (Kd.C_below HR0_1.out HB.out) | (with_reducible refine Kd.C_alloc ?_ _) | (with_reducible refine Kd.C_drewN ?_ _) | (with_reducible refine Kd.C_drew ?_))); (case side2 => exact HC0_1.out); rintro e w23 ⟨rfl, hb⟩; have n0_ := Aside0.mk (Kd.R_below (by (with_reducible repeat (first | apply Kd.R_alloc | apply Kd.R_drewN | apply Kd.R_drew)); exact HO_8.out) hb); have n1_ := Aside0.mk (Zv BK324 hb); have n2_ := Aside0.mk (Zv BK337 hb); have n3_ := Aside0.mk (Yv HB hb); clear HO_8; clear BK324; clear BK337; clear HB; have HO_8 := n0_; have BK324 := n1_; have BK337 := n2_; have HB := n3_; clear n0_ n1_ n2_ n3_; (try clear hb); (try clear hb2); (try clear hk); (try clear hi)))
       repeat (go_quiet (first | (go_at_call 26; (with_reducible refine (define_Right.calls kj5 a0_0 _ _ l0_1 true _ ?side1 ?side2 A18.out).mono ?_); (case side1 => repeat (first | exact (Kd.C_below HR0_1.out HB.out) | (with_reducible refine Kd.C_alloc ?_ _) | (with_reducible refine Kd.C_drewN ?_ _) | (with_reducible refine Kd.C_drew ?_))); (case side2 => exact HC0_1.out); rintro e w23 ⟨rfl, hb⟩; have n0_ := Aside0.mk (Kd.R_below (by (with_reducible repeat (first | apply Kd.R_alloc | apply Kd.R_drewN | apply Kd.R_drew)); exact HO_8.out) hb); have n1_ := Aside0.mk (Zv BK324 hb); have n2_ := Aside0.mk (Zv BK337 hb); have n3_ := Aside0.mk (Yv HB hb); clear HO_8; clear BK324; clear BK337; clear HB; have HO_8 := n0_; have BK324 := n1_; have BK337 := n2_; have HB := n3_; clear n0_ n1_ n2_ n3_; (try clear hb); (try clear hb2); (try clear hk); (try clear hi))); try go_wp2_with (first | (go_at_call 26; (with_reducible refine (define_Right.calls kj5 a0_0 _ _ l0_1 true _ ?side1 ?side2 A18.out).mono ?_); (case side1 => repeat (first | exact (Kd.C_below HR0_1.out HB.out) | (with_reducible refine Kd.C_alloc ?_ _) | (with_reducible refine Kd.C_drewN ?_ _) | (with_reducible refine Kd.C_drew ?_))); (case side2 => exact HC0_1.out); rintro e w23 ⟨rfl, hb⟩; have n0_ := Aside0.mk (Kd.R_below (by (with_reducible repeat (first | apply Kd.R_alloc | apply Kd.R_drewN | apply Kd.R_drew)); exact HO_8.out) hb); have n1_ := Aside0.mk (Zv BK324 hb); have n2_ := Aside0.mk (Zv BK337 hb); have n3_ := Aside0.mk (Yv HB hb); clear HO_8; clear BK324; clear BK337; clear HB; have HO_8 := n0_; have BK324 := n1_; have BK337 := n2_; have HB := n3_; clear n0_ n1_ n2_ n3_; (try clear hb); (try clear hb2); (try clear hk); (try clear hi))))
       go_ret
       exact ⟨by first | rfl | (simp [errW_none, errW_some] <;> rfl) | (simp [*, errW_none, errW_some] <;> rfl), Yr HB⟩
      ·
       rw [if_neg c20] at H
       have c20b0 : decide (a2 < 0) = false := decide_eq_false c20
       clear c20
       obtain rfl := Option.some.inj H
       obtain ⟨hnb24, hnc24⟩ := Zo NB324_337
       obtain ⟨⟨hcz25_0, hcz25_1⟩, hfz25_0, hfz25_1⟩ := Zk2 BK324
       go_wp2_with (first | (go_at_call 26; (with_reducible refine (define_Right.calls kj5 a0_0 _ _ l0_1 true _ ?side1 ?side2 A18.out).mono ?_); (case side1 => repeat (first | exact (Kd.C_below HR0_1.out HB.out) | (with_reducible refine Kd.C_alloc ?_ _) | (with_reducible refine Kd.C_drewN ?_ _) | (with_reducible refine Kd.C_drew ?_))); (case side2 => exact HC0_1.out); rintro e w26 ⟨rfl, hb⟩; have n0_ := Aside0.mk (Kd.R_below (by (with_reducible repeat (first | apply Kd.R_alloc | apply Kd.R_drewN | apply Kd.R_drew)); exact HO_8.out) hb); have n1_ := Aside0.mk (Zv BK324 hb); have n2_ := Aside0.mk (Zv BK337 hb); have n3_ := Aside0.mk (Yv HB hb); clear HO_8; clear BK324; clear BK337; clear HB; have HO_8 := n0_; have BK324 := n1_; have BK337 := n2_; have HB := n3_; clear n0_ n1_ n2_ n3_; (try clear hb); (try clear hb2); (try clear hk); (try clear hi)))
       repeat (go_quiet (first | (go_at_call 26; (with_reducible refine (define_Right.calls kj5 a0_0 _ _ l0_1 true _ ?side1 ?side2 A18.out).mono ?_); (case side1 => repeat (first | exact (Kd.C_below HR0_1.out HB.out) | (with_reducible refine Kd.C_alloc ?_ _) | (with_reducible refine Kd.C_drewN ?_ _) | (with_reducible refine Kd.C_drew ?_))); (case side2 => exact HC0_1.out); rintro e w26 ⟨rfl, hb⟩; have n0_ := Aside0.mk (Kd.R_below (by (with_reducible repeat (first | apply Kd.R_alloc | apply Kd.R_drewN | apply Kd.R_drew)); exact HO_8.out) hb); have n1_ := Aside0.mk (Zv BK324 hb); have n2_ := Aside0.mk (Zv BK337 hb); have n3_ := Aside0.mk (Yv HB hb); clear HO_8; clear BK324; clear BK337; clear HB; have HO_8 := n0_; have BK324 := n1_; have BK337 := n2_; have HB := n3_; clear n0_ n1_ n2_ n3_; (try clear hb); (try clear hb2); (try clear hk); (try clear hi))); try go_wp2_with (first | (go_at_call 26; (with_reducible refine (define_Right.calls kj5 a0_0 _ _ l0_1 true _ ?side1 ?side2 A18.out).mono ?_); (case side1 => repeat (first | exact (Kd.C_below HR0_1.out HB.out) | (with_reducible refine Kd.C_alloc ?_ _) | (with_reducible refine Kd.C_drewN ?_ _) | (with_reducible refine Kd.C_drew ?_))); (case side2 => exact HC0_1.out); rintro e w26 ⟨rfl, hb⟩; have n0_ := Aside0.mk (Kd.R_below (by (with_reducible repeat (first | apply Kd.R_alloc | apply Kd.R_drewN | apply Kd.R_drew)); exact HO_8.out) hb); have n1_ := Aside0.mk (Zv BK324 hb); have n2_ := Aside0.mk (Zv BK337 hb); have n3_ := Aside0.mk (Yv HB hb); clear HO_8; clear BK324; clear BK337; clear HB; have HO_8 := n0_; have BK324 := n1_; have BK337 := n2_; have HB := n3_; clear n0_ n1_ n2_ n3_; (try clear hb); (try clear hb2); (try clear hk); (try clear hi))))
       go_ret
       exact ⟨by first | rfl | (simp [errW_none, errW_some] <;> rfl) | (simp [*, errW_none, errW_some] <;> rfl), Yr HB⟩
     ·
      replace c19 := Bool.eq_false_iff.mpr c19
      subst c19
      have H1 : (some true) = some r := by rw [if_neg (show ¬ (false = true) by decide)] at H; exact H
      clear H
      have H := H1
      clear H1
      obtain rfl := Option.some.inj H
      obtain ⟨hnb27, hnc27⟩ := Zo NB324_337
      obtain ⟨⟨hcz28_0, hcz28_1⟩, hfz28_0, hfz28_1⟩ := Zk2 BK324
      go_wp2_with (first | (go_at_call 26; (with_reducible refine (define_Right.calls kj5 a0_0 _ _ l0_1 false _ ?side1 ?side2 A18.out).mono ?_); (case side1 => repeat (first | exact (Kd.C_below HR0_1.out HB.out) | (with_reducible refine Kd.C_alloc ?_ _) | (with_reducible refine Kd.C_drewN ?_ _) | (with_reducible refine Kd.C_drew ?_))); (case side2 => exact HC0_1.out); rintro e w29 ⟨rfl, hb⟩; have n0_ := Aside0.mk (Kd.R_below (by (with_reducible repeat (first | apply Kd.R_alloc | apply Kd.R_drewN | apply Kd.R_drew)); exact HO_8.out) hb); have n1_ := Aside0.mk (Zv BK324 hb); have n2_ := Aside0.mk (Zv BK337 hb); have n3_ := Aside0.mk (Yv HB hb); clear HO_8; clear BK324; clear BK337; clear HB; have HO_8 := n0_; have BK324 := n1_; have BK337 := n2_; have HB := n3_; clear n0_ n1_ n2_ n3_; (try clear hb); (try clear hb2); (try clear hk); (try clear hi)))
      repeat (go_quiet (first | (go_at_call 26; (with_reducible refine (define_Right.calls kj5 a0_0 _ _ l0_1 false _ ?side1 ?side2 A18.out).mono ?_); (case side1 => repeat (first | exact (Kd.C_below HR0_1.out HB.out) | (with_reducible refine Kd.C_alloc ?_ _) | (with_reducible refine Kd.C_drewN ?_ _) | (with_reducible refine Kd.C_drew ?_))); (case side2 => exact HC0_1.out); rintro e w29 ⟨rfl, hb⟩; have n0_ := Aside0.mk (Kd.R_below (by (with_reducible repeat (first | apply Kd.R_alloc | apply Kd.R_drewN | apply Kd.R_drew)); exact HO_8.out) hb); have n1_ := Aside0.mk (Zv BK324 hb); have n2_ := Aside0.mk (Zv BK337 hb); have n3_ := Aside0.mk (Yv HB hb); clear HO_8; clear BK324; clear BK337; clear HB; have HO_8 := n0_; have BK324 := n1_; have BK337 := n2_; have HB := n3_; clear n0_ n1_ n2_ n3_; (try clear hb); (try clear hb2); (try clear hk); (try clear hi))); try go_wp2_with (first | (go_at_call 26; (with_reducible refine (define_Right.calls kj5 a0_0 _ _ l0_1 false _ ?side1 ?side2 A18.out).mono ?_); (case side1 => repeat (first | exact (Kd.C_below HR0_1.out HB.out) | (with_reducible refine Kd.C_alloc ?_ _) | (with_reducible refine Kd.C_drewN ?_ _) | (with_reducible refine Kd.C_drew ?_))); (case side2 => exact HC0_1.out); rintro e w29 ⟨rfl, hb⟩; have n0_ := Aside0.mk (Kd.R_below (by (with_reducible repeat (first | apply Kd.R_alloc | apply Kd.R_drewN | apply Kd.R_drew)); exact HO_8.out) hb); have n1_ := Aside0.mk (Zv BK324 hb); have n2_ := Aside0.mk (Zv BK337 hb); have n3_ := Aside0.mk (Yv HB hb); clear HO_8; clear BK324; clear BK337; clear HB; have HO_8 := n0_; have BK324 := n1_; have BK337 := n2_; have HB := n3_; clear n0_ n1_ n2_ n3_; (try clear hb); (try clear hb2); (try clear hk); (try clear hi))))
      go_ret
      exact ⟨by first | rfl | (simp [errW_none, errW_some] <;> rfl) | (simp [*, errW_none, errW_some] <;> rfl), Yr HB⟩
    ·
     replace c17 := Bool.eq_false_iff.mpr c17
     subst c17
     have H1 : (some false) = some r := by rw [if_neg (show ¬ (false = true) by decide)] at H; exact H
     clear H
     have H := H1
     clear H1
     exact absurd ((Option.some.inj H).trans HRT_.out) (by decide)
   ·
    replace c16 := Bool.eq_false_iff.mpr c16
    subst c16
    have H1 : (palinodelaw19_SagaOrder.l0 kj5 l1 t325 t326 (-1) (-1) false 0) = some r := by rw [if_neg (show ¬ (false = true) by decide)] at H; exact H
    clear H
    have H := H1
    clear H1
    have H' := Aside0.mk H
    clear H
    go_wp2
    repeat (go_quiet (fail); try go_wp2)
    go_loopg [11, 12, 13, 14] kj5 (fun kq v11 v12 v13 v14 w' => ∃ (x11_2 : Int) (x12_2 : Int) (x13_2 : Bool) (x14_2 : Int), v11 = .int .i64 x11_2 ∧ v12 = .int .i64 x12_2 ∧ v13 = .bool x13_2 ∧ v14 = .int .i64 x14_2 ∧ Aside0 (palinodelaw19_SagaOrder.l0 kq l1 t325 t326 x11_2 x12_2 x13_2 x14_2 = some r) ∧ Aside0 (kq ≤ kj5) ∧ Aside0 (Kd.R k35 35 w' w.heap.size (fun _ => True) v327 t326) ∧ Aside0 (w'.heap[gb324]? = some (.cells #[.string a0_0, (.slice A0_1 l0_1.length c0_1)] 24 (0, 0))) ∧ Aside0 (w'.heap[gb337]? = some (.cells #[.string t329, .string t330, .int .i64 t331, .int .i64 t332, .int .i64 t333, .int .i64 t334, .bool t335] 26 (0, 0))) ∧ Aside0 (Below w.heap.size w w'))
    case atStart => exact ⟨((-1)), ((-1)), (false), (0), (by first | rfl | (simp; done) | (simp [*]; done)), (by first | rfl | (simp; done) | (simp [*]; done)), (by first | rfl | (simp; done) | (simp [*]; done)), (by first | rfl | (simp; done) | (simp [*]; done)), H', ⟨Nat.le_refl _⟩, ⟨by (with_reducible repeat (first | apply Kd.R_alloc | apply Kd.R_drewN | apply Kd.R_drew)); exact HO_8.out⟩, ⟨by (with_reducible repeat first | apply Zn | apply Zd | apply Za); exact BK324.out⟩, ⟨by (with_reducible repeat first | apply Zn | apply Zd | apply Za); exact BK337.out⟩, ⟨Yr HB⟩⟩
    case round =>
     clear H'
     try clear c1
     try clear c2
     try clear p2
     try clear c5
     try clear c12
     try clear c14
     try clear c16
     try clear c17
     try clear c19
     try clear c20
     try clear c20b0
     try clear c21
     try clear c24
     try clear c27
     try clear hcz13_0
     try clear hcz13_1
     try clear hcz13_2
     try clear hcz13_3
     try clear hcz13_4
     try clear hcz13_5
     try clear hcz13_6
     try clear hcz22_0
     try clear hcz22_1
     try clear hcz25_0
     try clear hcz25_1
     try clear hcz28_0
     try clear hcz28_1
     try clear hcz9_0
     try clear hcz9_1
     try clear hfz13_0
     try clear hfz13_1
     try clear hfz13_2
     try clear hfz13_3
     try clear hfz13_4
     try clear hfz13_5
     try clear hfz13_6
     try clear hfz22_0
     try clear hfz22_1
     try clear hfz25_0
     try clear hfz25_1
     try clear hfz28_0
     try clear hfz28_1
     try clear hfz9_0
     try clear hfz9_1
     try clear p2
     obtain ⟨x11_2, x12_2, x13_2, x14_2, rfl, rfl, rfl, rfl, HA, HK2, HO_8, BK324, BK337, HB⟩ := hrel
     cases gk with
     | zero => exact absurd HA.out (by simp [palinodelaw19_SagaOrder.l0])
     | succ k2 =>
      have H := HA.out
      clear HA
      simp only [palinodelaw19_SagaOrder.l0] at H
      by_cases c30 : x14_2 < (t326.length : Int)
      ·
       rw [if_pos c30] at H
       have c30b0 : decide (x14_2 < (t326.length : Int)) = true := decide_eq_true c30
       clear c30
       by_cases c31 : 0 ≤ x14_2
       ·
        rw [if_pos c31] at H
        have c31b0 : decide (0 ≤ x14_2) = true := decide_eq_true c31
        clear c31
        have HC32 := Aside0.mk H
        clear H
        obtain ⟨Ao33, co33, eo33⟩ := Kd.R_slice HO_8.out
        subst eo33
        have p340 : 0 ≤ (x14_2 : Int) := of_decide_eq_true (by first | (with_reducible assumption) | assumption)
        have q340 : x14_2 < (t326.length : Int) := of_decide_eq_true (by first | (with_reducible assumption) | assumption)
        obtain ⟨ad340, e340, hx340_0, hx340_1, hx340_2, hx340_3⟩ := at_T35 (Kd.R_reads' HO_8.out).2.2 x14_2 p340 q340
        cases e340
        replace p340 := eq_true p340
        replace q340 := eq_true q340
        go_upto_region 12 with (first | ((with_reducible refine gate_dst (N := 15) rfl ?_); (try (refine gate_guard (by rfl) ?_; dsimp only)); refine box_event ?hg (N := 15) ?hd (cs := #[.string (⟨#[]⟩ : ByteArray), .int .i64 0, .int .i64 0, .int .i64 0]) (t := 35) ?hr ?_; (case hd => rfl); (case hg => rfl); (case hr => first | (go_simp; done) | (go_simp; rfl)); intro gb341 hg w34 hbox hb; have n0_ := Aside0.mk (Kd.R_below (Kd.R_elderB (by (with_reducible repeat (first | apply Kd.R_alloc | apply Kd.R_drewN | apply Kd.R_drew)); exact HO_8.out) gb341 (Nat.le_of_eq hg.symm)) hb); have n1_ := Aside0.mk (Zv BK324 hb); have n2_ := Aside0.mk (Zv BK337 hb); have n3_ := Aside0.mk (Yv HB hb); have n4_ := Aside0.mk (hbox); have n5_ := Aside0.mk (Yg HB hg); have n6_ := Aside0.mk (Yg HB hg); have n7_ := Aside0.mk (Zl BK324 hg); have n8_ := Aside0.mk (Zg BK324 hg); have n9_ := Aside0.mk (Zl BK337 hg); have n10_ := Aside0.mk (Zg BK337 hg); clear HO_8; clear BK324; clear BK337; clear HB; have HO_8 := n0_; have BK324 := n1_; have BK337 := n2_; have HB := n3_; have BK341 := n4_; have GW341 := n5_; have GE341 := n6_; have NB324_341 := n7_; have NB341_324 := n8_; have NB337_341 := n9_; have NB341_337 := n10_; clear n0_ n1_ n2_ n3_ n4_ n5_ n6_ n7_ n8_ n9_ n10_; clear hb hbox hg; obtain ⟨hnb35, hnc35⟩ := Zo NB341_324; obtain ⟨hnb36, hnc36⟩ := Zo NB341_337; obtain ⟨⟨hcz37_0, hcz37_1, hcz37_2, hcz37_3⟩, hfz37_0, hfz37_1, hfz37_2, hfz37_3⟩ := Zk4 BK341))
        repeat (go_quiet (first | ((with_reducible refine gate_dst (N := 15) rfl ?_); (try (refine gate_guard (by rfl) ?_; dsimp only)); refine box_event ?hg (N := 15) ?hd (cs := #[.string (⟨#[]⟩ : ByteArray), .int .i64 0, .int .i64 0, .int .i64 0]) (t := 35) ?hr ?_; (case hd => rfl); (case hg => rfl); (case hr => first | (go_simp; done) | (go_simp; rfl)); intro gb341 hg w34 hbox hb; have n0_ := Aside0.mk (Kd.R_below (Kd.R_elderB (by (with_reducible repeat (first | apply Kd.R_alloc | apply Kd.R_drewN | apply Kd.R_drew)); exact HO_8.out) gb341 (Nat.le_of_eq hg.symm)) hb); have n1_ := Aside0.mk (Zv BK324 hb); have n2_ := Aside0.mk (Zv BK337 hb); have n3_ := Aside0.mk (Yv HB hb); have n4_ := Aside0.mk (hbox); have n5_ := Aside0.mk (Yg HB hg); have n6_ := Aside0.mk (Yg HB hg); have n7_ := Aside0.mk (Zl BK324 hg); have n8_ := Aside0.mk (Zg BK324 hg); have n9_ := Aside0.mk (Zl BK337 hg); have n10_ := Aside0.mk (Zg BK337 hg); clear HO_8; clear BK324; clear BK337; clear HB; have HO_8 := n0_; have BK324 := n1_; have BK337 := n2_; have HB := n3_; have BK341 := n4_; have GW341 := n5_; have GE341 := n6_; have NB324_341 := n7_; have NB341_324 := n8_; have NB337_341 := n9_; have NB341_337 := n10_; clear n0_ n1_ n2_ n3_ n4_ n5_ n6_ n7_ n8_ n9_ n10_; clear hb hbox hg; obtain ⟨hnb35, hnc35⟩ := Zo NB341_324; obtain ⟨hnb36, hnc36⟩ := Zo NB341_337; obtain ⟨⟨hcz37_0, hcz37_1, hcz37_2, hcz37_3⟩, hfz37_0, hfz37_1, hfz37_2, hfz37_3⟩ := Zk4 BK341)); go_upto_region 12 with (first | ((with_reducible refine gate_dst (N := 15) rfl ?_); (try (refine gate_guard (by rfl) ?_; dsimp only)); refine box_event ?hg (N := 15) ?hd (cs := #[.string (⟨#[]⟩ : ByteArray), .int .i64 0, .int .i64 0, .int .i64 0]) (t := 35) ?hr ?_; (case hd => rfl); (case hg => rfl); (case hr => first | (go_simp; done) | (go_simp; rfl)); intro gb341 hg w34 hbox hb; have n0_ := Aside0.mk (Kd.R_below (Kd.R_elderB (by (with_reducible repeat (first | apply Kd.R_alloc | apply Kd.R_drewN | apply Kd.R_drew)); exact HO_8.out) gb341 (Nat.le_of_eq hg.symm)) hb); have n1_ := Aside0.mk (Zv BK324 hb); have n2_ := Aside0.mk (Zv BK337 hb); have n3_ := Aside0.mk (Yv HB hb); have n4_ := Aside0.mk (hbox); have n5_ := Aside0.mk (Yg HB hg); have n6_ := Aside0.mk (Yg HB hg); have n7_ := Aside0.mk (Zl BK324 hg); have n8_ := Aside0.mk (Zg BK324 hg); have n9_ := Aside0.mk (Zl BK337 hg); have n10_ := Aside0.mk (Zg BK337 hg); clear HO_8; clear BK324; clear BK337; clear HB; have HO_8 := n0_; have BK324 := n1_; have BK337 := n2_; have HB := n3_; have BK341 := n4_; have GW341 := n5_; have GE341 := n6_; have NB324_341 := n7_; have NB341_324 := n8_; have NB337_341 := n9_; have NB341_337 := n10_; clear n0_ n1_ n2_ n3_ n4_ n5_ n6_ n7_ n8_ n9_ n10_; clear hb hbox hg; obtain ⟨hnb35, hnc35⟩ := Zo NB341_324; obtain ⟨hnb36, hnc36⟩ := Zo NB341_337; obtain ⟨⟨hcz37_0, hcz37_1, hcz37_2, hcz37_3⟩, hfz37_0, hfz37_1, hfz37_2, hfz37_3⟩ := Zk4 BK341)))
        (try simp only [Act.put, List.setIfInBounds_toArray, List.set_cons_zero, List.set_cons_succ])
        go_cut [16] (fun v16 wc => ∃ (kq : Nat) (x16_31 : Bool), v16 = .bool x16_31 ∧ Aside0 (palinodelaw19_SagaOrder.j2 kq l1 t325 t326 x11_2 x12_2 x13_2 x14_2 x16_31 ((rd_T35 t326 x14_2).f0) ((rd_T35 t326 x14_2).f1) ((rd_T35 t326 x14_2).f2) ((rd_T35 t326 x14_2).f3) = some r) ∧ Aside0 (kq ≤ k2) ∧ Aside0 (Kd.R k35 35 wc w.heap.size (fun k_ => k_ ≠ gb341) (.slice (some ad340) t326.length co33) t326) ∧ Aside0 (wc.heap[gb324]? = some (.cells #[.string a0_0, (.slice A0_1 l0_1.length c0_1)] 24 (0, 0))) ∧ Aside0 (wc.heap[gb337]? = some (.cells #[.string t329, .string t330, .int .i64 t331, .int .i64 t332, .int .i64 t333, .int .i64 t334, .bool t335] 26 (0, 0))) ∧ Aside0 (wc.heap[gb341]? = some (.cells #[.string ((rd_T35 t326 x14_2).f0), .int .i64 ((rd_T35 t326 x14_2).f1), .int .i64 ((rd_T35 t326 x14_2).f2), .int .i64 ((rd_T35 t326 x14_2).f3)] 35 (0, 0))) ∧ Aside0 (Below w.heap.size w wc))
        case first =>
         have H := HC32.out
         clear HC32
         by_cases c38 : x14_2 > 0
         ·
          rw [if_pos c38] at H
          have c38b0 : decide (0 < x14_2) = true := decide_eq_true c38
          clear c38
          (first | rw [c38b0] | (simp only [i64_w, i32_w]; rw [c38b0]) | skip)
          obtain ⟨ji39, hji39⟩ : ∃ j_ : Int, (wrap64 (x14_2 - 1)) = j_ := ⟨_, rfl⟩
          replace H : (if 0 ≤ (ji39) then (if (ji39) < (t326.length : Int) then (if ((rd_T35 t326 (ji39)).f1) = ((rd_T35 t326 x14_2).f1) then (palinodelaw19_SagaOrder.j2 k2 l1 t325 t326 x11_2 x12_2 x13_2 x14_2 (((rd_T35 t326 (ji39)).f2) == ((rd_T35 t326 x14_2).f2)) ((rd_T35 t326 x14_2).f0) ((rd_T35 t326 x14_2).f1) ((rd_T35 t326 x14_2).f2) ((rd_T35 t326 x14_2).f3)) else (palinodelaw19_SagaOrder.j2 k2 l1 t325 t326 x11_2 x12_2 x13_2 x14_2 false ((rd_T35 t326 x14_2).f0) ((rd_T35 t326 x14_2).f1) ((rd_T35 t326 x14_2).f2) ((rd_T35 t326 x14_2).f3))) else (none)) else (none)) = some r := by first | (rw [hji39] at H; exact H) | (simp only [hji39] at H ⊢; exact H)
          have hji39w : (IntKind.i64.wrap (x14_2 - 1)) = ji39 := (i64_w _).trans hji39
          by_cases c40 : 0 ≤ (ji39)
          ·
           rw [if_pos c40] at H
           have c40b0 : decide (0 ≤ (ji39)) = true := decide_eq_true c40
           clear c40
           by_cases c41 : (ji39) < (t326.length : Int)
           ·
            rw [if_pos c41] at H
            have c41b0 : decide ((ji39) < (t326.length : Int)) = true := decide_eq_true c41
            clear c41
            by_cases c42 : ((rd_T35 t326 (ji39)).f1) = ((rd_T35 t326 x14_2).f1)
            ·
             rw [if_pos c42] at H
             have c42b0 : (((rd_T35 t326 (ji39)).f1) == ((rd_T35 t326 x14_2).f1)) = true := beq_iff_eq.mpr c42
             have c42b1 : (((rd_T35 t326 (ji39)).f1) != ((rd_T35 t326 x14_2).f1)) = false := bne_eq_false_iff_eq.mpr c42
             clear c42
             have H' := Aside0.mk H
             clear H
             have p342 : 0 ≤ ((ji39) : Int) := of_decide_eq_true (by first | (with_reducible assumption) | assumption)
             have q342 : (ji39) < (t326.length : Int) := of_decide_eq_true (by first | (with_reducible assumption) | assumption)
             obtain ⟨ad342, e342, hx342_0, hx342_1, hx342_2, hx342_3⟩ := at_T35 (Kd.R_reads' HO_8.out).2.2 (ji39) p342 q342
             obtain rfl : ad340 = ad342 := (by injection e342)
             have hn342_0 : ad340.block ≠ gb341 := (by first | exact Kd.own_blk (Kd.R_ne HO_8.out BK341.out (by decide)) | exact Kd.own_blk (Kd.R_away HO_8.out (fun _ hk => hk.2)))
             have hn342_1 : ad340.block ≠ gb341 := (by first | exact Kd.own_blk (Kd.R_ne HO_8.out BK341.out (by decide)) | exact Kd.own_blk (Kd.R_away HO_8.out (fun _ hk => hk.2)))
             have hn342_2 : ad340.block ≠ gb341 := (by first | exact Kd.own_blk (Kd.R_ne HO_8.out BK341.out (by decide)) | exact Kd.own_blk (Kd.R_away HO_8.out (fun _ hk => hk.2)))
             have hn342_3 : ad340.block ≠ gb341 := (by first | exact Kd.own_blk (Kd.R_ne HO_8.out BK341.out (by decide)) | exact Kd.own_blk (Kd.R_away HO_8.out (fun _ hk => hk.2)))
             replace hx342_0 := (cell_far (p := ⟨gb341, 0, none⟩) (by first | (rw [add_block]; exact hn342_0) | (show (Addr.add _ _).block ≠ _; rw [add_block]; exact hn342_0) | exact hn342_0) (.string ((rd_T35 t326 x14_2).f0))).trans hx342_0
             replace hx342_1 := (cell_far (p := ⟨gb341, 0, none⟩) (by first | (rw [add_block]; exact hn342_0) | (show (Addr.add _ _).block ≠ _; rw [add_block]; exact hn342_0) | exact hn342_0) (.string ((rd_T35 t326 x14_2).f0))).trans hx342_1
             replace hx342_2 := (cell_far (p := ⟨gb341, 0, none⟩) (by first | (rw [add_block]; exact hn342_0) | (show (Addr.add _ _).block ≠ _; rw [add_block]; exact hn342_0) | exact hn342_0) (.string ((rd_T35 t326 x14_2).f0))).trans hx342_2
             replace hx342_3 := (cell_far (p := ⟨gb341, 0, none⟩) (by first | (rw [add_block]; exact hn342_0) | (show (Addr.add _ _).block ≠ _; rw [add_block]; exact hn342_0) | exact hn342_0) (.string ((rd_T35 t326 x14_2).f0))).trans hx342_3
             replace hx342_0 := (cell_far (p := ⟨gb341, 1, none⟩) (by first | (rw [add_block]; exact hn342_1) | (show (Addr.add _ _).block ≠ _; rw [add_block]; exact hn342_1) | exact hn342_1) (.int .i64 ((rd_T35 t326 x14_2).f1))).trans hx342_0
             replace hx342_1 := (cell_far (p := ⟨gb341, 1, none⟩) (by first | (rw [add_block]; exact hn342_1) | (show (Addr.add _ _).block ≠ _; rw [add_block]; exact hn342_1) | exact hn342_1) (.int .i64 ((rd_T35 t326 x14_2).f1))).trans hx342_1
             replace hx342_2 := (cell_far (p := ⟨gb341, 1, none⟩) (by first | (rw [add_block]; exact hn342_1) | (show (Addr.add _ _).block ≠ _; rw [add_block]; exact hn342_1) | exact hn342_1) (.int .i64 ((rd_T35 t326 x14_2).f1))).trans hx342_2
             replace hx342_3 := (cell_far (p := ⟨gb341, 1, none⟩) (by first | (rw [add_block]; exact hn342_1) | (show (Addr.add _ _).block ≠ _; rw [add_block]; exact hn342_1) | exact hn342_1) (.int .i64 ((rd_T35 t326 x14_2).f1))).trans hx342_3
             replace hx342_0 := (cell_far (p := ⟨gb341, 2, none⟩) (by first | (rw [add_block]; exact hn342_2) | (show (Addr.add _ _).block ≠ _; rw [add_block]; exact hn342_2) | exact hn342_2) (.int .i64 ((rd_T35 t326 x14_2).f2))).trans hx342_0
             replace hx342_1 := (cell_far (p := ⟨gb341, 2, none⟩) (by first | (rw [add_block]; exact hn342_2) | (show (Addr.add _ _).block ≠ _; rw [add_block]; exact hn342_2) | exact hn342_2) (.int .i64 ((rd_T35 t326 x14_2).f2))).trans hx342_1
             replace hx342_2 := (cell_far (p := ⟨gb341, 2, none⟩) (by first | (rw [add_block]; exact hn342_2) | (show (Addr.add _ _).block ≠ _; rw [add_block]; exact hn342_2) | exact hn342_2) (.int .i64 ((rd_T35 t326 x14_2).f2))).trans hx342_2
             replace hx342_3 := (cell_far (p := ⟨gb341, 2, none⟩) (by first | (rw [add_block]; exact hn342_2) | (show (Addr.add _ _).block ≠ _; rw [add_block]; exact hn342_2) | exact hn342_2) (.int .i64 ((rd_T35 t326 x14_2).f2))).trans hx342_3
             replace hx342_0 := (cell_far (p := ⟨gb341, 3, none⟩) (by first | (rw [add_block]; exact hn342_3) | (show (Addr.add _ _).block ≠ _; rw [add_block]; exact hn342_3) | exact hn342_3) (.int .i64 ((rd_T35 t326 x14_2).f3))).trans hx342_0
             replace hx342_1 := (cell_far (p := ⟨gb341, 3, none⟩) (by first | (rw [add_block]; exact hn342_3) | (show (Addr.add _ _).block ≠ _; rw [add_block]; exact hn342_3) | exact hn342_3) (.int .i64 ((rd_T35 t326 x14_2).f3))).trans hx342_1
             replace hx342_2 := (cell_far (p := ⟨gb341, 3, none⟩) (by first | (rw [add_block]; exact hn342_3) | (show (Addr.add _ _).block ≠ _; rw [add_block]; exact hn342_3) | exact hn342_3) (.int .i64 ((rd_T35 t326 x14_2).f3))).trans hx342_2
             replace hx342_3 := (cell_far (p := ⟨gb341, 3, none⟩) (by first | (rw [add_block]; exact hn342_3) | (show (Addr.add _ _).block ≠ _; rw [add_block]; exact hn342_3) | exact hn342_3) (.int .i64 ((rd_T35 t326 x14_2).f3))).trans hx342_3
             (try have hy342_0 := fun (n_ : Nat) => (show ((((((w34.drewN n_).setCell ⟨gb341, 0, none⟩ (.string ((rd_T35 t326 x14_2).f0))).setCell ⟨gb341, 1, none⟩ (.int .i64 ((rd_T35 t326 x14_2).f1))).setCell ⟨gb341, 2, none⟩ (.int .i64 ((rd_T35 t326 x14_2).f2))).setCell ⟨gb341, 3, none⟩ (.int .i64 ((rd_T35 t326 x14_2).f3)))).cell? _ = some _ from hx342_0))
             (try have hy342_1 := fun (n_ : Nat) => (show ((((((w34.drewN n_).setCell ⟨gb341, 0, none⟩ (.string ((rd_T35 t326 x14_2).f0))).setCell ⟨gb341, 1, none⟩ (.int .i64 ((rd_T35 t326 x14_2).f1))).setCell ⟨gb341, 2, none⟩ (.int .i64 ((rd_T35 t326 x14_2).f2))).setCell ⟨gb341, 3, none⟩ (.int .i64 ((rd_T35 t326 x14_2).f3)))).cell? _ = some _ from hx342_1))
             (try have hy342_2 := fun (n_ : Nat) => (show ((((((w34.drewN n_).setCell ⟨gb341, 0, none⟩ (.string ((rd_T35 t326 x14_2).f0))).setCell ⟨gb341, 1, none⟩ (.int .i64 ((rd_T35 t326 x14_2).f1))).setCell ⟨gb341, 2, none⟩ (.int .i64 ((rd_T35 t326 x14_2).f2))).setCell ⟨gb341, 3, none⟩ (.int .i64 ((rd_T35 t326 x14_2).f3)))).cell? _ = some _ from hx342_2))
             (try have hy342_3 := fun (n_ : Nat) => (show ((((((w34.drewN n_).setCell ⟨gb341, 0, none⟩ (.string ((rd_T35 t326 x14_2).f0))).setCell ⟨gb341, 1, none⟩ (.int .i64 ((rd_T35 t326 x14_2).f1))).setCell ⟨gb341, 2, none⟩ (.int .i64 ((rd_T35 t326 x14_2).f2))).setCell ⟨gb341, 3, none⟩ (.int .i64 ((rd_T35 t326 x14_2).f3)))).cell? _ = some _ from hx342_3))
             clear hn342_0
             clear hn342_1
             clear hn342_2
             clear hn342_3
             replace p342 := eq_true p342
             replace q342 := eq_true q342
             obtain ⟨hnb43, hnc43⟩ := Zo NB341_324
             obtain ⟨hnb44, hnc44⟩ := Zo NB341_337
             obtain ⟨⟨hcz45_0, hcz45_1, hcz45_2, hcz45_3⟩, hfz45_0, hfz45_1, hfz45_2, hfz45_3⟩ := Zk4 BK341
             have p343 : 0 ≤ ((ji39) : Int) := of_decide_eq_true (by first | (with_reducible assumption) | assumption)
             have q343 : (ji39) < (t326.length : Int) := of_decide_eq_true (by first | (with_reducible assumption) | assumption)
             obtain ⟨ad343, e343, hx343_0, hx343_1, hx343_2, hx343_3⟩ := at_T35 (Kd.R_reads' HO_8.out).2.2 (ji39) p343 q343
             obtain rfl : ad340 = ad343 := (by injection e343)
             have hn343_0 : ad340.block ≠ gb341 := (by first | exact Kd.own_blk (Kd.R_ne HO_8.out BK341.out (by decide)) | exact Kd.own_blk (Kd.R_away HO_8.out (fun _ hk => hk.2)))
             have hn343_1 : ad340.block ≠ gb341 := (by first | exact Kd.own_blk (Kd.R_ne HO_8.out BK341.out (by decide)) | exact Kd.own_blk (Kd.R_away HO_8.out (fun _ hk => hk.2)))
             have hn343_2 : ad340.block ≠ gb341 := (by first | exact Kd.own_blk (Kd.R_ne HO_8.out BK341.out (by decide)) | exact Kd.own_blk (Kd.R_away HO_8.out (fun _ hk => hk.2)))
             have hn343_3 : ad340.block ≠ gb341 := (by first | exact Kd.own_blk (Kd.R_ne HO_8.out BK341.out (by decide)) | exact Kd.own_blk (Kd.R_away HO_8.out (fun _ hk => hk.2)))
             replace hx343_0 := (cell_far (p := ⟨gb341, 0, none⟩) (by first | (rw [add_block]; exact hn343_0) | (show (Addr.add _ _).block ≠ _; rw [add_block]; exact hn343_0) | exact hn343_0) (.string ((rd_T35 t326 x14_2).f0))).trans hx343_0
             replace hx343_1 := (cell_far (p := ⟨gb341, 0, none⟩) (by first | (rw [add_block]; exact hn343_0) | (show (Addr.add _ _).block ≠ _; rw [add_block]; exact hn343_0) | exact hn343_0) (.string ((rd_T35 t326 x14_2).f0))).trans hx343_1
             replace hx343_2 := (cell_far (p := ⟨gb341, 0, none⟩) (by first | (rw [add_block]; exact hn343_0) | (show (Addr.add _ _).block ≠ _; rw [add_block]; exact hn343_0) | exact hn343_0) (.string ((rd_T35 t326 x14_2).f0))).trans hx343_2
             replace hx343_3 := (cell_far (p := ⟨gb341, 0, none⟩) (by first | (rw [add_block]; exact hn343_0) | (show (Addr.add _ _).block ≠ _; rw [add_block]; exact hn343_0) | exact hn343_0) (.string ((rd_T35 t326 x14_2).f0))).trans hx343_3
             replace hx343_0 := (cell_far (p := ⟨gb341, 1, none⟩) (by first | (rw [add_block]; exact hn343_1) | (show (Addr.add _ _).block ≠ _; rw [add_block]; exact hn343_1) | exact hn343_1) (.int .i64 ((rd_T35 t326 x14_2).f1))).trans hx343_0
             replace hx343_1 := (cell_far (p := ⟨gb341, 1, none⟩) (by first | (rw [add_block]; exact hn343_1) | (show (Addr.add _ _).block ≠ _; rw [add_block]; exact hn343_1) | exact hn343_1) (.int .i64 ((rd_T35 t326 x14_2).f1))).trans hx343_1
             replace hx343_2 := (cell_far (p := ⟨gb341, 1, none⟩) (by first | (rw [add_block]; exact hn343_1) | (show (Addr.add _ _).block ≠ _; rw [add_block]; exact hn343_1) | exact hn343_1) (.int .i64 ((rd_T35 t326 x14_2).f1))).trans hx343_2
             replace hx343_3 := (cell_far (p := ⟨gb341, 1, none⟩) (by first | (rw [add_block]; exact hn343_1) | (show (Addr.add _ _).block ≠ _; rw [add_block]; exact hn343_1) | exact hn343_1) (.int .i64 ((rd_T35 t326 x14_2).f1))).trans hx343_3
             replace hx343_0 := (cell_far (p := ⟨gb341, 2, none⟩) (by first | (rw [add_block]; exact hn343_2) | (show (Addr.add _ _).block ≠ _; rw [add_block]; exact hn343_2) | exact hn343_2) (.int .i64 ((rd_T35 t326 x14_2).f2))).trans hx343_0
             replace hx343_1 := (cell_far (p := ⟨gb341, 2, none⟩) (by first | (rw [add_block]; exact hn343_2) | (show (Addr.add _ _).block ≠ _; rw [add_block]; exact hn343_2) | exact hn343_2) (.int .i64 ((rd_T35 t326 x14_2).f2))).trans hx343_1
             replace hx343_2 := (cell_far (p := ⟨gb341, 2, none⟩) (by first | (rw [add_block]; exact hn343_2) | (show (Addr.add _ _).block ≠ _; rw [add_block]; exact hn343_2) | exact hn343_2) (.int .i64 ((rd_T35 t326 x14_2).f2))).trans hx343_2
             replace hx343_3 := (cell_far (p := ⟨gb341, 2, none⟩) (by first | (rw [add_block]; exact hn343_2) | (show (Addr.add _ _).block ≠ _; rw [add_block]; exact hn343_2) | exact hn343_2) (.int .i64 ((rd_T35 t326 x14_2).f2))).trans hx343_3
             replace hx343_0 := (cell_far (p := ⟨gb341, 3, none⟩) (by first | (rw [add_block]; exact hn343_3) | (show (Addr.add _ _).block ≠ _; rw [add_block]; exact hn343_3) | exact hn343_3) (.int .i64 ((rd_T35 t326 x14_2).f3))).trans hx343_0
             replace hx343_1 := (cell_far (p := ⟨gb341, 3, none⟩) (by first | (rw [add_block]; exact hn343_3) | (show (Addr.add _ _).block ≠ _; rw [add_block]; exact hn343_3) | exact hn343_3) (.int .i64 ((rd_T35 t326 x14_2).f3))).trans hx343_1
             replace hx343_2 := (cell_far (p := ⟨gb341, 3, none⟩) (by first | (rw [add_block]; exact hn343_3) | (show (Addr.add _ _).block ≠ _; rw [add_block]; exact hn343_3) | exact hn343_3) (.int .i64 ((rd_T35 t326 x14_2).f3))).trans hx343_2
             replace hx343_3 := (cell_far (p := ⟨gb341, 3, none⟩) (by first | (rw [add_block]; exact hn343_3) | (show (Addr.add _ _).block ≠ _; rw [add_block]; exact hn343_3) | exact hn343_3) (.int .i64 ((rd_T35 t326 x14_2).f3))).trans hx343_3
             (try have hy343_0 := fun (n_ : Nat) => (show ((((((w34.drewN n_).setCell ⟨gb341, 0, none⟩ (.string ((rd_T35 t326 x14_2).f0))).setCell ⟨gb341, 1, none⟩ (.int .i64 ((rd_T35 t326 x14_2).f1))).setCell ⟨gb341, 2, none⟩ (.int .i64 ((rd_T35 t326 x14_2).f2))).setCell ⟨gb341, 3, none⟩ (.int .i64 ((rd_T35 t326 x14_2).f3)))).cell? _ = some _ from hx343_0))
             (try have hy343_1 := fun (n_ : Nat) => (show ((((((w34.drewN n_).setCell ⟨gb341, 0, none⟩ (.string ((rd_T35 t326 x14_2).f0))).setCell ⟨gb341, 1, none⟩ (.int .i64 ((rd_T35 t326 x14_2).f1))).setCell ⟨gb341, 2, none⟩ (.int .i64 ((rd_T35 t326 x14_2).f2))).setCell ⟨gb341, 3, none⟩ (.int .i64 ((rd_T35 t326 x14_2).f3)))).cell? _ = some _ from hx343_1))
             (try have hy343_2 := fun (n_ : Nat) => (show ((((((w34.drewN n_).setCell ⟨gb341, 0, none⟩ (.string ((rd_T35 t326 x14_2).f0))).setCell ⟨gb341, 1, none⟩ (.int .i64 ((rd_T35 t326 x14_2).f1))).setCell ⟨gb341, 2, none⟩ (.int .i64 ((rd_T35 t326 x14_2).f2))).setCell ⟨gb341, 3, none⟩ (.int .i64 ((rd_T35 t326 x14_2).f3)))).cell? _ = some _ from hx343_2))
             (try have hy343_3 := fun (n_ : Nat) => (show ((((((w34.drewN n_).setCell ⟨gb341, 0, none⟩ (.string ((rd_T35 t326 x14_2).f0))).setCell ⟨gb341, 1, none⟩ (.int .i64 ((rd_T35 t326 x14_2).f1))).setCell ⟨gb341, 2, none⟩ (.int .i64 ((rd_T35 t326 x14_2).f2))).setCell ⟨gb341, 3, none⟩ (.int .i64 ((rd_T35 t326 x14_2).f3)))).cell? _ = some _ from hx343_3))
             clear hn343_0
             clear hn343_1
             clear hn343_2
             clear hn343_3
             replace p343 := eq_true p343
             replace q343 := eq_true q343
             go_wp2
             repeat (go_quiet (fail); try go_wp2)
             go_meet
             case rel => exact ⟨_, ((((rd_T35 t326 (ji39)).f2) == ((rd_T35 t326 x14_2).f2))), (by first | rfl | (simp; done) | (simp only [← hji39] <;> (first | rfl | simp)) | (simp [*]; done)), H', ⟨by have := HJ5.out; have := HK2.out; first | omega | exact Nat.le_refl _⟩, ⟨by (with_reducible repeat (first | apply Kd.R_alloc | apply Kd.R_drewN | apply Kd.R_drew)); exact Kd.R_mono (Kd.R_far (p := ⟨gb341, 3, none⟩) (Kd.R_far (p := ⟨gb341, 2, none⟩) (Kd.R_far (p := ⟨gb341, 1, none⟩) (Kd.R_far (p := ⟨gb341, 0, none⟩) (Kd.R_mono HO_8.out (fun k_ hk => (⟨hk, hk.2⟩ : _ ∧ k_ ≠ gb341))) (fun _ hk => hk.2) (.string ((rd_T35 t326 x14_2).f0))) (fun _ hk => hk.2) (.int .i64 ((rd_T35 t326 x14_2).f1))) (fun _ hk => hk.2) (.int .i64 ((rd_T35 t326 x14_2).f2))) (fun _ hk => hk.2) (.int .i64 ((rd_T35 t326 x14_2).f3))) (fun _ hk => hk.1.2)⟩, ⟨by (with_reducible repeat first | apply Zn | apply Zd | apply Za); refine Zq ?_ NB324_341.out _; (with_reducible repeat first | apply Zn | apply Zd | apply Za); refine Zq ?_ NB324_341.out _; (with_reducible repeat first | apply Zn | apply Zd | apply Za); refine Zq ?_ NB324_341.out _; (with_reducible repeat first | apply Zn | apply Zd | apply Za); refine Zq ?_ NB324_341.out _; (with_reducible repeat first | apply Zn | apply Zd | apply Za); exact BK324.out⟩, ⟨by (with_reducible repeat first | apply Zn | apply Zd | apply Za); refine Zq ?_ NB337_341.out _; (with_reducible repeat first | apply Zn | apply Zd | apply Za); refine Zq ?_ NB337_341.out _; (with_reducible repeat first | apply Zn | apply Zd | apply Za); refine Zq ?_ NB337_341.out _; (with_reducible repeat first | apply Zn | apply Zd | apply Za); refine Zq ?_ NB337_341.out _; (with_reducible repeat first | apply Zn | apply Zd | apply Za); exact BK337.out⟩, ⟨by (with_reducible repeat first | apply Zn | apply Zd | apply Za); refine Zp (cs := #[.string ((rd_T35 t326 x14_2).f0), .int .i64 ((rd_T35 t326 x14_2).f1), .int .i64 ((rd_T35 t326 x14_2).f2), .int .i64 0]) ?_ 3 _ rfl; (with_reducible repeat first | apply Zn | apply Zd | apply Za); refine Zp (cs := #[.string ((rd_T35 t326 x14_2).f0), .int .i64 ((rd_T35 t326 x14_2).f1), .int .i64 0, .int .i64 0]) ?_ 2 _ rfl; (with_reducible repeat first | apply Zn | apply Zd | apply Za); refine Zp (cs := #[.string ((rd_T35 t326 x14_2).f0), .int .i64 0, .int .i64 0, .int .i64 0]) ?_ 1 _ rfl; (with_reducible repeat first | apply Zn | apply Zd | apply Za); refine Zp (cs := #[.string (⟨#[]⟩ : ByteArray), .int .i64 0, .int .i64 0, .int .i64 0]) ?_ 0 _ rfl; (with_reducible repeat first | apply Zn | apply Zd | apply Za); exact BK341.out⟩, ⟨Yr HB⟩⟩
            ·
             rw [if_neg c42] at H
             have c42b0 : (((rd_T35 t326 (ji39)).f1) == ((rd_T35 t326 x14_2).f1)) = false := beq_eq_false_iff_ne.mpr c42
             have c42b1 : (((rd_T35 t326 (ji39)).f1) != ((rd_T35 t326 x14_2).f1)) = true := bne_iff_ne.mpr c42
             have H' := Aside0.mk H
             clear H
             have p342 : 0 ≤ ((ji39) : Int) := of_decide_eq_true (by first | (with_reducible assumption) | assumption)
             have q342 : (ji39) < (t326.length : Int) := of_decide_eq_true (by first | (with_reducible assumption) | assumption)
             obtain ⟨ad342, e342, hx342_0, hx342_1, hx342_2, hx342_3⟩ := at_T35 (Kd.R_reads' HO_8.out).2.2 (ji39) p342 q342
             obtain rfl : ad340 = ad342 := (by injection e342)
             have hn342_0 : ad340.block ≠ gb341 := (by first | exact Kd.own_blk (Kd.R_ne HO_8.out BK341.out (by decide)) | exact Kd.own_blk (Kd.R_away HO_8.out (fun _ hk => hk.2)))
             have hn342_1 : ad340.block ≠ gb341 := (by first | exact Kd.own_blk (Kd.R_ne HO_8.out BK341.out (by decide)) | exact Kd.own_blk (Kd.R_away HO_8.out (fun _ hk => hk.2)))
             have hn342_2 : ad340.block ≠ gb341 := (by first | exact Kd.own_blk (Kd.R_ne HO_8.out BK341.out (by decide)) | exact Kd.own_blk (Kd.R_away HO_8.out (fun _ hk => hk.2)))
             have hn342_3 : ad340.block ≠ gb341 := (by first | exact Kd.own_blk (Kd.R_ne HO_8.out BK341.out (by decide)) | exact Kd.own_blk (Kd.R_away HO_8.out (fun _ hk => hk.2)))
             replace hx342_0 := (cell_far (p := ⟨gb341, 0, none⟩) (by first | (rw [add_block]; exact hn342_0) | (show (Addr.add _ _).block ≠ _; rw [add_block]; exact hn342_0) | exact hn342_0) (.string ((rd_T35 t326 x14_2).f0))).trans hx342_0
             replace hx342_1 := (cell_far (p := ⟨gb341, 0, none⟩) (by first | (rw [add_block]; exact hn342_0) | (show (Addr.add _ _).block ≠ _; rw [add_block]; exact hn342_0) | exact hn342_0) (.string ((rd_T35 t326 x14_2).f0))).trans hx342_1
             replace hx342_2 := (cell_far (p := ⟨gb341, 0, none⟩) (by first | (rw [add_block]; exact hn342_0) | (show (Addr.add _ _).block ≠ _; rw [add_block]; exact hn342_0) | exact hn342_0) (.string ((rd_T35 t326 x14_2).f0))).trans hx342_2
             replace hx342_3 := (cell_far (p := ⟨gb341, 0, none⟩) (by first | (rw [add_block]; exact hn342_0) | (show (Addr.add _ _).block ≠ _; rw [add_block]; exact hn342_0) | exact hn342_0) (.string ((rd_T35 t326 x14_2).f0))).trans hx342_3
             replace hx342_0 := (cell_far (p := ⟨gb341, 1, none⟩) (by first | (rw [add_block]; exact hn342_1) | (show (Addr.add _ _).block ≠ _; rw [add_block]; exact hn342_1) | exact hn342_1) (.int .i64 ((rd_T35 t326 x14_2).f1))).trans hx342_0
             replace hx342_1 := (cell_far (p := ⟨gb341, 1, none⟩) (by first | (rw [add_block]; exact hn342_1) | (show (Addr.add _ _).block ≠ _; rw [add_block]; exact hn342_1) | exact hn342_1) (.int .i64 ((rd_T35 t326 x14_2).f1))).trans hx342_1
             replace hx342_2 := (cell_far (p := ⟨gb341, 1, none⟩) (by first | (rw [add_block]; exact hn342_1) | (show (Addr.add _ _).block ≠ _; rw [add_block]; exact hn342_1) | exact hn342_1) (.int .i64 ((rd_T35 t326 x14_2).f1))).trans hx342_2
             replace hx342_3 := (cell_far (p := ⟨gb341, 1, none⟩) (by first | (rw [add_block]; exact hn342_1) | (show (Addr.add _ _).block ≠ _; rw [add_block]; exact hn342_1) | exact hn342_1) (.int .i64 ((rd_T35 t326 x14_2).f1))).trans hx342_3
             replace hx342_0 := (cell_far (p := ⟨gb341, 2, none⟩) (by first | (rw [add_block]; exact hn342_2) | (show (Addr.add _ _).block ≠ _; rw [add_block]; exact hn342_2) | exact hn342_2) (.int .i64 ((rd_T35 t326 x14_2).f2))).trans hx342_0
             replace hx342_1 := (cell_far (p := ⟨gb341, 2, none⟩) (by first | (rw [add_block]; exact hn342_2) | (show (Addr.add _ _).block ≠ _; rw [add_block]; exact hn342_2) | exact hn342_2) (.int .i64 ((rd_T35 t326 x14_2).f2))).trans hx342_1
             replace hx342_2 := (cell_far (p := ⟨gb341, 2, none⟩) (by first | (rw [add_block]; exact hn342_2) | (show (Addr.add _ _).block ≠ _; rw [add_block]; exact hn342_2) | exact hn342_2) (.int .i64 ((rd_T35 t326 x14_2).f2))).trans hx342_2
             replace hx342_3 := (cell_far (p := ⟨gb341, 2, none⟩) (by first | (rw [add_block]; exact hn342_2) | (show (Addr.add _ _).block ≠ _; rw [add_block]; exact hn342_2) | exact hn342_2) (.int .i64 ((rd_T35 t326 x14_2).f2))).trans hx342_3
             replace hx342_0 := (cell_far (p := ⟨gb341, 3, none⟩) (by first | (rw [add_block]; exact hn342_3) | (show (Addr.add _ _).block ≠ _; rw [add_block]; exact hn342_3) | exact hn342_3) (.int .i64 ((rd_T35 t326 x14_2).f3))).trans hx342_0
             replace hx342_1 := (cell_far (p := ⟨gb341, 3, none⟩) (by first | (rw [add_block]; exact hn342_3) | (show (Addr.add _ _).block ≠ _; rw [add_block]; exact hn342_3) | exact hn342_3) (.int .i64 ((rd_T35 t326 x14_2).f3))).trans hx342_1
             replace hx342_2 := (cell_far (p := ⟨gb341, 3, none⟩) (by first | (rw [add_block]; exact hn342_3) | (show (Addr.add _ _).block ≠ _; rw [add_block]; exact hn342_3) | exact hn342_3) (.int .i64 ((rd_T35 t326 x14_2).f3))).trans hx342_2
             replace hx342_3 := (cell_far (p := ⟨gb341, 3, none⟩) (by first | (rw [add_block]; exact hn342_3) | (show (Addr.add _ _).block ≠ _; rw [add_block]; exact hn342_3) | exact hn342_3) (.int .i64 ((rd_T35 t326 x14_2).f3))).trans hx342_3
             (try have hy342_0 := fun (n_ : Nat) => (show ((((((w34.drewN n_).setCell ⟨gb341, 0, none⟩ (.string ((rd_T35 t326 x14_2).f0))).setCell ⟨gb341, 1, none⟩ (.int .i64 ((rd_T35 t326 x14_2).f1))).setCell ⟨gb341, 2, none⟩ (.int .i64 ((rd_T35 t326 x14_2).f2))).setCell ⟨gb341, 3, none⟩ (.int .i64 ((rd_T35 t326 x14_2).f3)))).cell? _ = some _ from hx342_0))
             (try have hy342_1 := fun (n_ : Nat) => (show ((((((w34.drewN n_).setCell ⟨gb341, 0, none⟩ (.string ((rd_T35 t326 x14_2).f0))).setCell ⟨gb341, 1, none⟩ (.int .i64 ((rd_T35 t326 x14_2).f1))).setCell ⟨gb341, 2, none⟩ (.int .i64 ((rd_T35 t326 x14_2).f2))).setCell ⟨gb341, 3, none⟩ (.int .i64 ((rd_T35 t326 x14_2).f3)))).cell? _ = some _ from hx342_1))
             (try have hy342_2 := fun (n_ : Nat) => (show ((((((w34.drewN n_).setCell ⟨gb341, 0, none⟩ (.string ((rd_T35 t326 x14_2).f0))).setCell ⟨gb341, 1, none⟩ (.int .i64 ((rd_T35 t326 x14_2).f1))).setCell ⟨gb341, 2, none⟩ (.int .i64 ((rd_T35 t326 x14_2).f2))).setCell ⟨gb341, 3, none⟩ (.int .i64 ((rd_T35 t326 x14_2).f3)))).cell? _ = some _ from hx342_2))
             (try have hy342_3 := fun (n_ : Nat) => (show ((((((w34.drewN n_).setCell ⟨gb341, 0, none⟩ (.string ((rd_T35 t326 x14_2).f0))).setCell ⟨gb341, 1, none⟩ (.int .i64 ((rd_T35 t326 x14_2).f1))).setCell ⟨gb341, 2, none⟩ (.int .i64 ((rd_T35 t326 x14_2).f2))).setCell ⟨gb341, 3, none⟩ (.int .i64 ((rd_T35 t326 x14_2).f3)))).cell? _ = some _ from hx342_3))
             clear hn342_0
             clear hn342_1
             clear hn342_2
             clear hn342_3
             replace p342 := eq_true p342
             replace q342 := eq_true q342
             obtain ⟨hnb46, hnc46⟩ := Zo NB341_324
             obtain ⟨hnb47, hnc47⟩ := Zo NB341_337
             obtain ⟨⟨hcz48_0, hcz48_1, hcz48_2, hcz48_3⟩, hfz48_0, hfz48_1, hfz48_2, hfz48_3⟩ := Zk4 BK341
             go_wp2
             repeat (go_quiet (fail); try go_wp2)
             go_meet
             case rel => exact ⟨_, (false), (by first | rfl | (simp; done) | (simp [*]; done)), H', ⟨by have := HJ5.out; have := HK2.out; first | omega | exact Nat.le_refl _⟩, ⟨by (with_reducible repeat (first | apply Kd.R_alloc | apply Kd.R_drewN | apply Kd.R_drew)); exact Kd.R_mono (Kd.R_far (p := ⟨gb341, 3, none⟩) (Kd.R_far (p := ⟨gb341, 2, none⟩) (Kd.R_far (p := ⟨gb341, 1, none⟩) (Kd.R_far (p := ⟨gb341, 0, none⟩) (Kd.R_mono HO_8.out (fun k_ hk => (⟨hk, hk.2⟩ : _ ∧ k_ ≠ gb341))) (fun _ hk => hk.2) (.string ((rd_T35 t326 x14_2).f0))) (fun _ hk => hk.2) (.int .i64 ((rd_T35 t326 x14_2).f1))) (fun _ hk => hk.2) (.int .i64 ((rd_T35 t326 x14_2).f2))) (fun _ hk => hk.2) (.int .i64 ((rd_T35 t326 x14_2).f3))) (fun _ hk => hk.1.2)⟩, ⟨by (with_reducible repeat first | apply Zn | apply Zd | apply Za); refine Zq ?_ NB324_341.out _; (with_reducible repeat first | apply Zn | apply Zd | apply Za); refine Zq ?_ NB324_341.out _; (with_reducible repeat first | apply Zn | apply Zd | apply Za); refine Zq ?_ NB324_341.out _; (with_reducible repeat first | apply Zn | apply Zd | apply Za); refine Zq ?_ NB324_341.out _; (with_reducible repeat first | apply Zn | apply Zd | apply Za); exact BK324.out⟩, ⟨by (with_reducible repeat first | apply Zn | apply Zd | apply Za); refine Zq ?_ NB337_341.out _; (with_reducible repeat first | apply Zn | apply Zd | apply Za); refine Zq ?_ NB337_341.out _; (with_reducible repeat first | apply Zn | apply Zd | apply Za); refine Zq ?_ NB337_341.out _; (with_reducible repeat first | apply Zn | apply Zd | apply Za); refine Zq ?_ NB337_341.out _; (with_reducible repeat first | apply Zn | apply Zd | apply Za); exact BK337.out⟩, ⟨by (with_reducible repeat first | apply Zn | apply Zd | apply Za); refine Zp (cs := #[.string ((rd_T35 t326 x14_2).f0), .int .i64 ((rd_T35 t326 x14_2).f1), .int .i64 ((rd_T35 t326 x14_2).f2), .int .i64 0]) ?_ 3 _ rfl; (with_reducible repeat first | apply Zn | apply Zd | apply Za); refine Zp (cs := #[.string ((rd_T35 t326 x14_2).f0), .int .i64 ((rd_T35 t326 x14_2).f1), .int .i64 0, .int .i64 0]) ?_ 2 _ rfl; (with_reducible repeat first | apply Zn | apply Zd | apply Za); refine Zp (cs := #[.string ((rd_T35 t326 x14_2).f0), .int .i64 0, .int .i64 0, .int .i64 0]) ?_ 1 _ rfl; (with_reducible repeat first | apply Zn | apply Zd | apply Za); refine Zp (cs := #[.string (⟨#[]⟩ : ByteArray), .int .i64 0, .int .i64 0, .int .i64 0]) ?_ 0 _ rfl; (with_reducible repeat first | apply Zn | apply Zd | apply Za); exact BK341.out⟩, ⟨Yr HB⟩⟩
           ·
            rw [if_neg c41] at H
            exact absurd H (by simp)
          ·
           rw [if_neg c40] at H
           exact absurd H (by simp)
         ·
          rw [if_neg c38] at H
          have c38b0 : decide (0 < x14_2) = false := decide_eq_false c38
          clear c38
          (first | rw [c38b0] | (simp only [i64_w, i32_w]; rw [c38b0]) | skip)
          have H' := Aside0.mk H
          clear H
          go_wp2
          repeat (go_quiet (fail); try go_wp2)
          go_meet
          case rel => exact ⟨_, (false), (by first | rfl | (simp; done) | (simp [*]; done)), H', ⟨by have := HJ5.out; have := HK2.out; first | omega | exact Nat.le_refl _⟩, ⟨by (with_reducible repeat (first | apply Kd.R_alloc | apply Kd.R_drewN | apply Kd.R_drew)); exact Kd.R_mono (Kd.R_far (p := ⟨gb341, 3, none⟩) (Kd.R_far (p := ⟨gb341, 2, none⟩) (Kd.R_far (p := ⟨gb341, 1, none⟩) (Kd.R_far (p := ⟨gb341, 0, none⟩) (Kd.R_mono HO_8.out (fun k_ hk => (⟨hk, hk.2⟩ : _ ∧ k_ ≠ gb341))) (fun _ hk => hk.2) (.string ((rd_T35 t326 x14_2).f0))) (fun _ hk => hk.2) (.int .i64 ((rd_T35 t326 x14_2).f1))) (fun _ hk => hk.2) (.int .i64 ((rd_T35 t326 x14_2).f2))) (fun _ hk => hk.2) (.int .i64 ((rd_T35 t326 x14_2).f3))) (fun _ hk => hk.1.2)⟩, ⟨by (with_reducible repeat first | apply Zn | apply Zd | apply Za); refine Zq ?_ NB324_341.out _; (with_reducible repeat first | apply Zn | apply Zd | apply Za); refine Zq ?_ NB324_341.out _; (with_reducible repeat first | apply Zn | apply Zd | apply Za); refine Zq ?_ NB324_341.out _; (with_reducible repeat first | apply Zn | apply Zd | apply Za); refine Zq ?_ NB324_341.out _; (with_reducible repeat first | apply Zn | apply Zd | apply Za); exact BK324.out⟩, ⟨by (with_reducible repeat first | apply Zn | apply Zd | apply Za); refine Zq ?_ NB337_341.out _; (with_reducible repeat first | apply Zn | apply Zd | apply Za); refine Zq ?_ NB337_341.out _; (with_reducible repeat first | apply Zn | apply Zd | apply Za); refine Zq ?_ NB337_341.out _; (with_reducible repeat first | apply Zn | apply Zd | apply Za); refine Zq ?_ NB337_341.out _; (with_reducible repeat first | apply Zn | apply Zd | apply Za); exact BK337.out⟩, ⟨by (with_reducible repeat first | apply Zn | apply Zd | apply Za); refine Zp (cs := #[.string ((rd_T35 t326 x14_2).f0), .int .i64 ((rd_T35 t326 x14_2).f1), .int .i64 ((rd_T35 t326 x14_2).f2), .int .i64 0]) ?_ 3 _ rfl; (with_reducible repeat first | apply Zn | apply Zd | apply Za); refine Zp (cs := #[.string ((rd_T35 t326 x14_2).f0), .int .i64 ((rd_T35 t326 x14_2).f1), .int .i64 0, .int .i64 0]) ?_ 2 _ rfl; (with_reducible repeat first | apply Zn | apply Zd | apply Za); refine Zp (cs := #[.string ((rd_T35 t326 x14_2).f0), .int .i64 0, .int .i64 0, .int .i64 0]) ?_ 1 _ rfl; (with_reducible repeat first | apply Zn | apply Zd | apply Za); refine Zp (cs := #[.string (⟨#[]⟩ : ByteArray), .int .i64 0, .int .i64 0, .int .i64 0]) ?_ 0 _ rfl; (with_reducible repeat first | apply Zn | apply Zd | apply Za); exact BK341.out⟩, ⟨Yr HB⟩⟩
        case rest =>
         as_aux_lemma =>
         clear HC32
         try clear c1
         try clear c2
         try clear p2
         try clear c3
         try clear p3
         try clear q3
         try clear hx3
         try clear c4
         try clear c5
         try clear p6
         try clear c12
         try clear c14
         try clear c16
         try clear c17
         try clear c19
         try clear c20
         try clear c20b0
         try clear c21
         try clear c24
         try clear c27
         try clear c30
         try clear c30b0
         try clear c31
         try clear c31b0
         try clear p34
         try clear q34
         try clear hx34
         try clear c35
         try clear c36
         try clear c38
         try clear c38b0
         try clear c40
         try clear c40b0
         try clear c41
         try clear c41b0
         try clear c42
         try clear c42b0
         try clear c42b1
         try clear c43
         try clear c44
         try clear c46
         try clear c47
         try clear hcz13_0
         try clear hcz13_1
         try clear hcz13_2
         try clear hcz13_3
         try clear hcz13_4
         try clear hcz13_5
         try clear hcz13_6
         try clear hcz22_0
         try clear hcz22_1
         try clear hcz25_0
         try clear hcz25_1
         try clear hcz28_0
         try clear hcz28_1
         try clear hcz37_0
         try clear hcz37_1
         try clear hcz37_2
         try clear hcz37_3
         try clear hcz45_0
         try clear hcz45_1
         try clear hcz45_2
         try clear hcz45_3
         try clear hcz48_0
         try clear hcz48_1
         try clear hcz48_2
         try clear hcz48_3
         try clear hcz9_0
         try clear hcz9_1
         try clear hfz13_0
         try clear hfz13_1
         try clear hfz13_2
         try clear hfz13_3
         try clear hfz13_4
         try clear hfz13_5
         try clear hfz13_6
         try clear hfz22_0
         try clear hfz22_1
         try clear hfz25_0
         try clear hfz25_1
         try clear hfz28_0
         try clear hfz28_1
         try clear hfz37_0
         try clear hfz37_1
         try clear hfz37_2
         try clear hfz37_3
         try clear hfz45_0
         try clear hfz45_1
         try clear hfz45_2
         try clear hfz45_3
         try clear hfz48_0
         try clear hfz48_1
         try clear hfz48_2
         try clear hfz48_3
         try clear hfz9_0
         try clear hfz9_1
         try clear hx340_0
         try clear hx340_1
         try clear hx340_2
         try clear hx340_3
         try clear hx342_0
         try clear hx342_1
         try clear hx342_2
         try clear hx342_3
         try clear hx343_0
         try clear hx343_1
         try clear hx343_2
         try clear hx343_3
         try clear p2
         try clear p340
         try clear p342
         try clear p343
         try clear q340
         try clear q342
         try clear q343
         obtain ⟨kq, x16_31, rfl, HA, HJ31, HO_8, BK324, BK337, BK341, HB⟩ := hcut
         cases kq with
         | zero => exact absurd HA.out (by simp [palinodelaw19_SagaOrder.j2])
         | succ kj31 =>
          have H := HA.out
          clear HA
          simp only [palinodelaw19_SagaOrder.j2] at H
          have HC49 := Aside0.mk H
          clear H
          go_upto_region 14 with (fail)
          repeat (go_quiet (fail); go_upto_region 14 with (fail))
          go_cut [81] (fun v81 wc => ∃ (kq : Nat) (x81_48 : Bool), v81 = .bool x81_48 ∧ Aside0 (palinodelaw19_SagaOrder.j3 kq l1 t325 t326 x11_2 x12_2 x13_2 x14_2 x16_31 x81_48 ((rd_T35 t326 x14_2).f0) ((rd_T35 t326 x14_2).f1) ((rd_T35 t326 x14_2).f2) ((rd_T35 t326 x14_2).f3) = some r) ∧ Aside0 (kq ≤ kj31) ∧ Aside0 (Kd.R k35 35 wc w.heap.size (fun k_ => k_ ≠ gb341) (.slice (some ad340) t326.length co33) t326) ∧ Aside0 (wc.heap[gb324]? = some (.cells #[.string a0_0, (.slice A0_1 l0_1.length c0_1)] 24 (0, 0))) ∧ Aside0 (wc.heap[gb337]? = some (.cells #[.string t329, .string t330, .int .i64 t331, .int .i64 t332, .int .i64 t333, .int .i64 t334, .bool t335] 26 (0, 0))) ∧ Aside0 (wc.heap[gb341]? = some (.cells #[.string ((rd_T35 t326 x14_2).f0), .int .i64 ((rd_T35 t326 x14_2).f1), .int .i64 ((rd_T35 t326 x14_2).f2), .int .i64 ((rd_T35 t326 x14_2).f3)] 35 (0, 0))) ∧ Aside0 (Below w.heap.size w wc))
          case first =>
           have H := HC49.out
           clear HC49
           by_cases c50 : x16_31 = true
           ·
            subst c50
            have H1 : (if 0 ≤ (wrap64 (x14_2 - 1)) then (if (wrap64 (x14_2 - 1)) < (t326.length : Int) then (if ((rd_T35 t326 x14_2).f3) = (wrap64 (((rd_T35 t326 (wrap64 (x14_2 - 1))).f3) + 1)) then (palinodelaw19_SagaOrder.j3 kj31 l1 t325 t326 x11_2 x12_2 x13_2 x14_2 true false ((rd_T35 t326 x14_2).f0) ((rd_T35 t326 x14_2).f1) ((rd_T35 t326 x14_2).f2) ((rd_T35 t326 x14_2).f3)) else (palinodelaw19_SagaOrder.j3 kj31 l1 t325 t326 x11_2 x12_2 x13_2 x14_2 true true ((rd_T35 t326 x14_2).f0) ((rd_T35 t326 x14_2).f1) ((rd_T35 t326 x14_2).f2) ((rd_T35 t326 x14_2).f3))) else (none)) else (none)) = some r := by rw [if_pos rfl] at H; exact H
            clear H
            have H := H1
            clear H1
            obtain ⟨ji51, hji51⟩ : ∃ j_ : Int, (wrap64 (x14_2 - 1)) = j_ := ⟨_, rfl⟩
            replace H : (if 0 ≤ (ji51) then (if (ji51) < (t326.length : Int) then (if ((rd_T35 t326 x14_2).f3) = (wrap64 (((rd_T35 t326 (ji51)).f3) + 1)) then (palinodelaw19_SagaOrder.j3 kj31 l1 t325 t326 x11_2 x12_2 x13_2 x14_2 true false ((rd_T35 t326 x14_2).f0) ((rd_T35 t326 x14_2).f1) ((rd_T35 t326 x14_2).f2) ((rd_T35 t326 x14_2).f3)) else (palinodelaw19_SagaOrder.j3 kj31 l1 t325 t326 x11_2 x12_2 x13_2 x14_2 true true ((rd_T35 t326 x14_2).f0) ((rd_T35 t326 x14_2).f1) ((rd_T35 t326 x14_2).f2) ((rd_T35 t326 x14_2).f3))) else (none)) else (none)) = some r := by first | (rw [hji51] at H; exact H) | (simp only [hji51] at H ⊢; exact H)
            have hji51w : (IntKind.i64.wrap (x14_2 - 1)) = ji51 := (i64_w _).trans hji51
            by_cases c52 : 0 ≤ (ji51)
            ·
             rw [if_pos c52] at H
             have c52b0 : decide (0 ≤ (ji51)) = true := decide_eq_true c52
             clear c52
             (first | rw [c52b0] | (simp only [i64_w, i32_w]; rw [c52b0]) | skip)
             by_cases c53 : (ji51) < (t326.length : Int)
             ·
              rw [if_pos c53] at H
              have c53b0 : decide ((ji51) < (t326.length : Int)) = true := decide_eq_true c53
              clear c53
              by_cases c54 : ((rd_T35 t326 x14_2).f3) = (wrap64 (((rd_T35 t326 (ji51)).f3) + 1))
              ·
               rw [if_pos c54] at H
               have c54b0 : (((rd_T35 t326 x14_2).f3) == (wrap64 (((rd_T35 t326 (ji51)).f3) + 1))) = true := beq_iff_eq.mpr c54
               have c54b1 : (((rd_T35 t326 x14_2).f3) != (wrap64 (((rd_T35 t326 (ji51)).f3) + 1))) = false := bne_eq_false_iff_eq.mpr c54
               clear c54
               have H' := Aside0.mk H
               clear H
               obtain ⟨hnb55, hnc55⟩ := Zo NB341_324
               obtain ⟨hnb56, hnc56⟩ := Zo NB341_337
               obtain ⟨⟨hcz57_0, hcz57_1, hcz57_2, hcz57_3⟩, hfz57_0, hfz57_1, hfz57_2, hfz57_3⟩ := Zk4 BK341
               have p344 : 0 ≤ ((ji51) : Int) := of_decide_eq_true (by first | (with_reducible assumption) | assumption)
               have q344 : (ji51) < (t326.length : Int) := of_decide_eq_true (by first | (with_reducible assumption) | assumption)
               obtain ⟨ad344, e344, hx344_0, hx344_1, hx344_2, hx344_3⟩ := at_T35 (Kd.R_reads' HO_8.out).2.2 (ji51) p344 q344
               obtain rfl : ad340 = ad344 := (by injection e344)
               replace p344 := eq_true p344
               replace q344 := eq_true q344
               go_wp2
               repeat (go_quiet (fail); try go_wp2)
               go_meet
               case rel => exact ⟨_, (false), (by first | rfl | (simp; done) | (simp [*]; done)), H', ⟨by have := HJ5.out; have := HK2.out; have := HJ31.out; first | omega | exact Nat.le_refl _⟩, ⟨by (with_reducible repeat (first | apply Kd.R_alloc | apply Kd.R_drewN | apply Kd.R_drew)); exact HO_8.out⟩, ⟨by (with_reducible repeat first | apply Zn | apply Zd | apply Za); exact BK324.out⟩, ⟨by (with_reducible repeat first | apply Zn | apply Zd | apply Za); exact BK337.out⟩, ⟨by (with_reducible repeat first | apply Zn | apply Zd | apply Za); exact BK341.out⟩, ⟨Yr HB⟩⟩
              ·
               rw [if_neg c54] at H
               have c54b0 : (((rd_T35 t326 x14_2).f3) == (wrap64 (((rd_T35 t326 (ji51)).f3) + 1))) = false := beq_eq_false_iff_ne.mpr c54
               have c54b1 : (((rd_T35 t326 x14_2).f3) != (wrap64 (((rd_T35 t326 (ji51)).f3) + 1))) = true := bne_iff_ne.mpr c54
               have H' := Aside0.mk H
               clear H
               obtain ⟨hnb58, hnc58⟩ := Zo NB341_324
               obtain ⟨hnb59, hnc59⟩ := Zo NB341_337
               obtain ⟨⟨hcz60_0, hcz60_1, hcz60_2, hcz60_3⟩, hfz60_0, hfz60_1, hfz60_2, hfz60_3⟩ := Zk4 BK341
               have p344 : 0 ≤ ((ji51) : Int) := of_decide_eq_true (by first | (with_reducible assumption) | assumption)
               have q344 : (ji51) < (t326.length : Int) := of_decide_eq_true (by first | (with_reducible assumption) | assumption)
               obtain ⟨ad344, e344, hx344_0, hx344_1, hx344_2, hx344_3⟩ := at_T35 (Kd.R_reads' HO_8.out).2.2 (ji51) p344 q344
               obtain rfl : ad340 = ad344 := (by injection e344)
               replace p344 := eq_true p344
               replace q344 := eq_true q344
               go_wp2
               repeat (go_quiet (fail); try go_wp2)
               go_meet
               case rel => exact ⟨_, (true), (by first | rfl | (simp; done) | (simp [*]; done)), H', ⟨by have := HJ5.out; have := HK2.out; have := HJ31.out; first | omega | exact Nat.le_refl _⟩, ⟨by (with_reducible repeat (first | apply Kd.R_alloc | apply Kd.R_drewN | apply Kd.R_drew)); exact HO_8.out⟩, ⟨by (with_reducible repeat first | apply Zn | apply Zd | apply Za); exact BK324.out⟩, ⟨by (with_reducible repeat first | apply Zn | apply Zd | apply Za); exact BK337.out⟩, ⟨by (with_reducible repeat first | apply Zn | apply Zd | apply Za); exact BK341.out⟩, ⟨Yr HB⟩⟩
             ·
              rw [if_neg c53] at H
              exact absurd H (by simp)
            ·
             rw [if_neg c52] at H
             exact absurd H (by simp)
           ·
            replace c50 := Bool.eq_false_iff.mpr c50
            subst c50
            have H1 : (palinodelaw19_SagaOrder.j3 kj31 l1 t325 t326 x11_2 x12_2 x13_2 x14_2 false (((rd_T35 t326 x14_2).f3) != 0) ((rd_T35 t326 x14_2).f0) ((rd_T35 t326 x14_2).f1) ((rd_T35 t326 x14_2).f2) ((rd_T35 t326 x14_2).f3)) = some r := by rw [if_neg (show ¬ (false = true) by decide)] at H; exact H
            clear H
            have H := H1
            clear H1
            have H' := Aside0.mk H
            clear H
            obtain ⟨hnb61, hnc61⟩ := Zo NB341_324
            obtain ⟨hnb62, hnc62⟩ := Zo NB341_337
            obtain ⟨⟨hcz63_0, hcz63_1, hcz63_2, hcz63_3⟩, hfz63_0, hfz63_1, hfz63_2, hfz63_3⟩ := Zk4 BK341
            go_wp2
            repeat (go_quiet (fail); try go_wp2)
            go_meet
            case rel => exact ⟨_, ((((rd_T35 t326 x14_2).f3) != 0)), (by first | rfl | (simp; done) | (simp [*]; done)), H', ⟨by have := HJ5.out; have := HK2.out; have := HJ31.out; first | omega | exact Nat.le_refl _⟩, ⟨by (with_reducible repeat (first | apply Kd.R_alloc | apply Kd.R_drewN | apply Kd.R_drew)); exact HO_8.out⟩, ⟨by (with_reducible repeat first | apply Zn | apply Zd | apply Za); exact BK324.out⟩, ⟨by (with_reducible repeat first | apply Zn | apply Zd | apply Za); exact BK337.out⟩, ⟨by (with_reducible repeat first | apply Zn | apply Zd | apply Za); exact BK341.out⟩, ⟨Yr HB⟩⟩
          case rest =>
           as_aux_lemma =>
           clear HC49
           try clear c1
           try clear c2
           try clear p2
           try clear c3
           try clear p3
           try clear q3
           try clear hx3
           try clear c4
           try clear c5
           try clear c6
           try clear p6
           try clear c12
           try clear c14
           try clear c16
           try clear c17
           try clear c19
           try clear c20
           try clear c20b0
           try clear c21
           try clear c24
           try clear c27
           try clear c30
           try clear c30b0
           try clear c31
           try clear c31b0
           try clear p34
           try clear q34
           try clear hx34
           try clear c35
           try clear c36
           try clear c38
           try clear c38b0
           try clear c40
           try clear c40b0
           try clear c41
           try clear c41b0
           try clear c42
           try clear c42b0
           try clear c42b1
           try clear c43
           try clear c44
           try clear c46
           try clear c47
           try clear c50
           try clear c52
           try clear c52b0
           try clear c53
           try clear c53b0
           try clear c54
           try clear c54b0
           try clear c54b1
           try clear c55
           try clear c56
           try clear c58
           try clear c59
           try clear c61
           try clear c62
           try clear hcz13_0
           try clear hcz13_1
           try clear hcz13_2
           try clear hcz13_3
           try clear hcz13_4
           try clear hcz13_5
           try clear hcz13_6
           try clear hcz22_0
           try clear hcz22_1
           try clear hcz25_0
           try clear hcz25_1
           try clear hcz28_0
           try clear hcz28_1
           try clear hcz37_0
           try clear hcz37_1
           try clear hcz37_2
           try clear hcz37_3
           try clear hcz45_0
           try clear hcz45_1
           try clear hcz45_2
           try clear hcz45_3
           try clear hcz48_0
           try clear hcz48_1
           try clear hcz48_2
           try clear hcz48_3
           try clear hcz57_0
           try clear hcz57_1
           try clear hcz57_2
           try clear hcz57_3
           try clear hcz60_0
           try clear hcz60_1
           try clear hcz60_2
           try clear hcz60_3
           try clear hcz63_0
           try clear hcz63_1
           try clear hcz63_2
           try clear hcz63_3
           try clear hcz9_0
           try clear hcz9_1
           try clear hfz13_0
           try clear hfz13_1
           try clear hfz13_2
           try clear hfz13_3
           try clear hfz13_4
           try clear hfz13_5
           try clear hfz13_6
           try clear hfz22_0
           try clear hfz22_1
           try clear hfz25_0
           try clear hfz25_1
           try clear hfz28_0
           try clear hfz28_1
           try clear hfz37_0
           try clear hfz37_1
           try clear hfz37_2
           try clear hfz37_3
           try clear hfz45_0
           try clear hfz45_1
           try clear hfz45_2
           try clear hfz45_3
           try clear hfz48_0
           try clear hfz48_1
           try clear hfz48_2
           try clear hfz48_3
           try clear hfz57_0
           try clear hfz57_1
           try clear hfz57_2
           try clear hfz57_3
           try clear hfz60_0
           try clear hfz60_1
           try clear hfz60_2
           try clear hfz60_3
           try clear hfz63_0
           try clear hfz63_1
           try clear hfz63_2
           try clear hfz63_3
           try clear hfz9_0
           try clear hfz9_1
           try clear hx340_0
           try clear hx340_1
           try clear hx340_2
           try clear hx340_3
           try clear hx342_0
           try clear hx342_1
           try clear hx342_2
           try clear hx342_3
           try clear hx343_0
           try clear hx343_1
           try clear hx343_2
           try clear hx343_3
           try clear hx344_0
           try clear hx344_1
           try clear hx344_2
           try clear hx344_3
           try clear p2
           try clear p3
           try clear p34
           try clear p340
           try clear p342
           try clear p343
           try clear p344
           try clear p6
           try clear q3
           try clear q34
           try clear q340
           try clear q342
           try clear q343
           try clear q344
           obtain ⟨kq, x81_48, rfl, HA, HJ48, HO_8, BK324, BK337, BK341, HB⟩ := hcut
           cases kq with
           | zero => exact absurd HA.out (by simp [palinodelaw19_SagaOrder.j3])
           | succ kj48 =>
            have H := HA.out
            clear HA
            simp only [palinodelaw19_SagaOrder.j3] at H
            by_cases c64 : x81_48 = true
            ·
             subst c64
             have H1 : (some false) = some r := by rw [if_pos rfl] at H; exact H
             clear H
             have H := H1
             clear H1
             exact absurd ((Option.some.inj H).trans HRT_.out) (by decide)
            ·
             replace c64 := Bool.eq_false_iff.mpr c64
             subst c64
             have H1 : (if x16_31 = true then (palinodelaw19_SagaOrder.l0 kj48 l1 t325 t326 x11_2 x12_2 x13_2 (wrap64 (x14_2 + 1))) else (if ((rd_T35 t326 x14_2).f2) = 1 then (if x13_2 = true then (palinodelaw19_SagaOrder.j4 kj48 l1 t325 t326 x11_2 x12_2 x13_2 x14_2 false ((rd_T35 t326 x14_2).f0) ((rd_T35 t326 x14_2).f1) ((rd_T35 t326 x14_2).f2) ((rd_T35 t326 x14_2).f3)) else (palinodelaw19_SagaOrder.j4 kj48 l1 t325 t326 x11_2 x12_2 x13_2 x14_2 (((rd_T35 t326 x14_2).f1) == (wrap64 (x11_2 + 1))) ((rd_T35 t326 x14_2).f0) ((rd_T35 t326 x14_2).f1) ((rd_T35 t326 x14_2).f2) ((rd_T35 t326 x14_2).f3))) else (palinodelaw19_SagaOrder.j4 kj48 l1 t325 t326 x11_2 x12_2 x13_2 x14_2 false ((rd_T35 t326 x14_2).f0) ((rd_T35 t326 x14_2).f1) ((rd_T35 t326 x14_2).f2) ((rd_T35 t326 x14_2).f3)))) = some r := by rw [if_neg (show ¬ (false = true) by decide)] at H; exact H
             clear H
             have H := H1
             clear H1
             by_cases c65 : x16_31 = true
             ·
              subst c65
              have H1 : (palinodelaw19_SagaOrder.l0 kj48 l1 t325 t326 x11_2 x12_2 x13_2 (wrap64 (x14_2 + 1))) = some r := by rw [if_pos rfl] at H; exact H
              clear H
              have H := H1
              clear H1
              have H' := Aside0.mk H
              clear H
              go_wp2
              repeat (go_quiet (fail); try go_wp2)
              go_roundg kj48
              case measure => have := HJ5.out; have := HK2.out; have := HJ31.out; have := HJ48.out; omega
              case rel => exact ⟨(x11_2), (x12_2), (x13_2), (wrap64 (x14_2 + 1)), (by first | rfl | (simp; done) | (simp [*]; done)), (by first | rfl | (simp; done) | (simp [*]; done)), (by first | rfl | (simp; done) | (simp [*]; done)), (by first | rfl | (simp; done) | (simp [*]; done)), H', ⟨by have := HJ5.out; have := HK2.out; have := HJ31.out; have := HJ48.out; omega⟩, ⟨by (with_reducible repeat (first | apply Kd.R_alloc | apply Kd.R_drewN | apply Kd.R_drew)); exact Kd.R_mono HO_8.out (fun _ hk => trivial)⟩, ⟨by (with_reducible repeat first | apply Zn | apply Zd | apply Za); exact BK324.out⟩, ⟨by (with_reducible repeat first | apply Zn | apply Zd | apply Za); exact BK337.out⟩, ⟨Yr HB⟩⟩
             ·
              replace c65 := Bool.eq_false_iff.mpr c65
              subst c65
              have H1 : (if ((rd_T35 t326 x14_2).f2) = 1 then (if x13_2 = true then (palinodelaw19_SagaOrder.j4 kj48 l1 t325 t326 x11_2 x12_2 x13_2 x14_2 false ((rd_T35 t326 x14_2).f0) ((rd_T35 t326 x14_2).f1) ((rd_T35 t326 x14_2).f2) ((rd_T35 t326 x14_2).f3)) else (palinodelaw19_SagaOrder.j4 kj48 l1 t325 t326 x11_2 x12_2 x13_2 x14_2 (((rd_T35 t326 x14_2).f1) == (wrap64 (x11_2 + 1))) ((rd_T35 t326 x14_2).f0) ((rd_T35 t326 x14_2).f1) ((rd_T35 t326 x14_2).f2) ((rd_T35 t326 x14_2).f3))) else (palinodelaw19_SagaOrder.j4 kj48 l1 t325 t326 x11_2 x12_2 x13_2 x14_2 false ((rd_T35 t326 x14_2).f0) ((rd_T35 t326 x14_2).f1) ((rd_T35 t326 x14_2).f2) ((rd_T35 t326 x14_2).f3))) = some r := by rw [if_neg (show ¬ (false = true) by decide)] at H; exact H
              clear H
              have H := H1
              clear H1
              have HC66 := Aside0.mk H
              clear H
              go_upto_region 17 with (fail)
              repeat (go_quiet (fail); go_upto_region 17 with (fail))
              go_cut [106] (fun v106 wc => ∃ (kq : Nat) (x106_65 : Bool), v106 = .bool x106_65 ∧ Aside0 (palinodelaw19_SagaOrder.j4 kq l1 t325 t326 x11_2 x12_2 x13_2 x14_2 x106_65 ((rd_T35 t326 x14_2).f0) ((rd_T35 t326 x14_2).f1) ((rd_T35 t326 x14_2).f2) ((rd_T35 t326 x14_2).f3) = some r) ∧ Aside0 (kq ≤ kj48) ∧ Aside0 (Kd.R k35 35 wc w.heap.size (fun k_ => k_ ≠ gb341) (.slice (some ad340) t326.length co33) t326) ∧ Aside0 (wc.heap[gb324]? = some (.cells #[.string a0_0, (.slice A0_1 l0_1.length c0_1)] 24 (0, 0))) ∧ Aside0 (wc.heap[gb337]? = some (.cells #[.string t329, .string t330, .int .i64 t331, .int .i64 t332, .int .i64 t333, .int .i64 t334, .bool t335] 26 (0, 0))) ∧ Aside0 (wc.heap[gb341]? = some (.cells #[.string ((rd_T35 t326 x14_2).f0), .int .i64 ((rd_T35 t326 x14_2).f1), .int .i64 ((rd_T35 t326 x14_2).f2), .int .i64 ((rd_T35 t326 x14_2).f3)] 35 (0, 0))) ∧ Aside0 (Below w.heap.size w wc))
              case first =>
               have H := HC66.out
               clear HC66
               by_cases c67 : ((rd_T35 t326 x14_2).f2) = 1
               ·
                rw [if_pos c67] at H
                have c67b0 : (((rd_T35 t326 x14_2).f2) == 1) = true := beq_iff_eq.mpr c67
                have c67b1 : (((rd_T35 t326 x14_2).f2) != 1) = false := bne_eq_false_iff_eq.mpr c67
                clear c67
                (first | rw [c67b0] | (simp only [i64_w, i32_w]; rw [c67b0]) | skip)
                by_cases c68 : x13_2 = true
                ·
                 subst c68
                 have H1 : (palinodelaw19_SagaOrder.j4 kj48 l1 t325 t326 x11_2 x12_2 true x14_2 false ((rd_T35 t326 x14_2).f0) ((rd_T35 t326 x14_2).f1) ((rd_T35 t326 x14_2).f2) ((rd_T35 t326 x14_2).f3)) = some r := by rw [if_pos rfl] at H; exact H
                 clear H
                 have H := H1
                 clear H1
                 have H' := Aside0.mk H
                 clear H
                 obtain ⟨hnb69, hnc69⟩ := Zo NB341_324
                 obtain ⟨hnb70, hnc70⟩ := Zo NB341_337
                 obtain ⟨⟨hcz71_0, hcz71_1, hcz71_2, hcz71_3⟩, hfz71_0, hfz71_1, hfz71_2, hfz71_3⟩ := Zk4 BK341
                 go_wp2
                 repeat (go_quiet (fail); try go_wp2)
                 go_meet
                 case rel => exact ⟨_, (false), (by first | rfl | (simp; done) | (simp [*]; done)), H', ⟨by have := HJ5.out; have := HK2.out; have := HJ31.out; have := HJ48.out; first | omega | exact Nat.le_refl _⟩, ⟨by (with_reducible repeat (first | apply Kd.R_alloc | apply Kd.R_drewN | apply Kd.R_drew)); exact HO_8.out⟩, ⟨by (with_reducible repeat first | apply Zn | apply Zd | apply Za); exact BK324.out⟩, ⟨by (with_reducible repeat first | apply Zn | apply Zd | apply Za); exact BK337.out⟩, ⟨by (with_reducible repeat first | apply Zn | apply Zd | apply Za); exact BK341.out⟩, ⟨Yr HB⟩⟩
                ·
                 replace c68 := Bool.eq_false_iff.mpr c68
                 subst c68
                 have H1 : (palinodelaw19_SagaOrder.j4 kj48 l1 t325 t326 x11_2 x12_2 false x14_2 (((rd_T35 t326 x14_2).f1) == (wrap64 (x11_2 + 1))) ((rd_T35 t326 x14_2).f0) ((rd_T35 t326 x14_2).f1) ((rd_T35 t326 x14_2).f2) ((rd_T35 t326 x14_2).f3)) = some r := by rw [if_neg (show ¬ (false = true) by decide)] at H; exact H
                 clear H
                 have H := H1
                 clear H1
                 have H' := Aside0.mk H
                 clear H
                 obtain ⟨hnb72, hnc72⟩ := Zo NB341_324
                 obtain ⟨hnb73, hnc73⟩ := Zo NB341_337
                 obtain ⟨⟨hcz74_0, hcz74_1, hcz74_2, hcz74_3⟩, hfz74_0, hfz74_1, hfz74_2, hfz74_3⟩ := Zk4 BK341
                 go_wp2
                 repeat (go_quiet (fail); try go_wp2)
                 go_meet
                 case rel => exact ⟨_, ((((rd_T35 t326 x14_2).f1) == (wrap64 (x11_2 + 1)))), (by first | rfl | (simp; done) | (simp [*]; done)), H', ⟨by have := HJ5.out; have := HK2.out; have := HJ31.out; have := HJ48.out; first | omega | exact Nat.le_refl _⟩, ⟨by (with_reducible repeat (first | apply Kd.R_alloc | apply Kd.R_drewN | apply Kd.R_drew)); exact HO_8.out⟩, ⟨by (with_reducible repeat first | apply Zn | apply Zd | apply Za); exact BK324.out⟩, ⟨by (with_reducible repeat first | apply Zn | apply Zd | apply Za); exact BK337.out⟩, ⟨by (with_reducible repeat first | apply Zn | apply Zd | apply Za); exact BK341.out⟩, ⟨Yr HB⟩⟩
               ·
                rw [if_neg c67] at H
                have c67b0 : (((rd_T35 t326 x14_2).f2) == 1) = false := beq_eq_false_iff_ne.mpr c67
                have c67b1 : (((rd_T35 t326 x14_2).f2) != 1) = true := bne_iff_ne.mpr c67
                (first | rw [c67b0] | (simp only [i64_w, i32_w]; rw [c67b0]) | skip)
                have H' := Aside0.mk H
                clear H
                obtain ⟨hnb75, hnc75⟩ := Zo NB341_324
                obtain ⟨hnb76, hnc76⟩ := Zo NB341_337
                obtain ⟨⟨hcz77_0, hcz77_1, hcz77_2, hcz77_3⟩, hfz77_0, hfz77_1, hfz77_2, hfz77_3⟩ := Zk4 BK341
                go_wp2
                repeat (go_quiet (fail); try go_wp2)
                go_meet
                case rel => exact ⟨_, (false), (by first | rfl | (simp; done) | (simp [*]; done)), H', ⟨by have := HJ5.out; have := HK2.out; have := HJ31.out; have := HJ48.out; first | omega | exact Nat.le_refl _⟩, ⟨by (with_reducible repeat (first | apply Kd.R_alloc | apply Kd.R_drewN | apply Kd.R_drew)); exact HO_8.out⟩, ⟨by (with_reducible repeat first | apply Zn | apply Zd | apply Za); exact BK324.out⟩, ⟨by (with_reducible repeat first | apply Zn | apply Zd | apply Za); exact BK337.out⟩, ⟨by (with_reducible repeat first | apply Zn | apply Zd | apply Za); exact BK341.out⟩, ⟨Yr HB⟩⟩
              case rest =>
               as_aux_lemma =>
               clear HC66
               try clear c1
               try clear c2
               try clear p2
               try clear c3
               try clear p3
               try clear q3
               try clear hx3
               try clear c4
               try clear c5
               try clear c6
               try clear p6
               try clear c7
               try clear c12
               try clear c14
               try clear c16
               try clear c17
               try clear c19
               try clear c20
               try clear c20b0
               try clear c21
               try clear c24
               try clear c27
               try clear c30
               try clear c30b0
               try clear c31
               try clear c31b0
               try clear p34
               try clear q34
               try clear hx34
               try clear c35
               try clear c36
               try clear c38
               try clear c38b0
               try clear c40
               try clear c40b0
               try clear c41
               try clear c41b0
               try clear c42
               try clear c42b0
               try clear c42b1
               try clear c43
               try clear c44
               try clear c46
               try clear c47
               try clear c50
               try clear c52
               try clear c52b0
               try clear c53
               try clear c53b0
               try clear c54
               try clear c54b0
               try clear c54b1
               try clear c55
               try clear c56
               try clear c58
               try clear c59
               try clear c61
               try clear c62
               try clear c64
               try clear p64
               try clear c65
               try clear c67
               try clear c67b0
               try clear c67b1
               try clear c68
               try clear c69
               try clear c70
               try clear c72
               try clear c73
               try clear c75
               try clear c76
               try clear hcz13_0
               try clear hcz13_1
               try clear hcz13_2
               try clear hcz13_3
               try clear hcz13_4
               try clear hcz13_5
               try clear hcz13_6
               try clear hcz22_0
               try clear hcz22_1
               try clear hcz25_0
               try clear hcz25_1
               try clear hcz28_0
               try clear hcz28_1
               try clear hcz37_0
               try clear hcz37_1
               try clear hcz37_2
               try clear hcz37_3
               try clear hcz45_0
               try clear hcz45_1
               try clear hcz45_2
               try clear hcz45_3
               try clear hcz48_0
               try clear hcz48_1
               try clear hcz48_2
               try clear hcz48_3
               try clear hcz57_0
               try clear hcz57_1
               try clear hcz57_2
               try clear hcz57_3
               try clear hcz60_0
               try clear hcz60_1
               try clear hcz60_2
               try clear hcz60_3
               try clear hcz63_0
               try clear hcz63_1
               try clear hcz63_2
               try clear hcz63_3
               try clear hcz71_0
               try clear hcz71_1
               try clear hcz71_2
               try clear hcz71_3
               try clear hcz74_0
               try clear hcz74_1
               try clear hcz74_2
               try clear hcz74_3
               try clear hcz77_0
               try clear hcz77_1
               try clear hcz77_2
               try clear hcz77_3
               try clear hcz9_0
               try clear hcz9_1
               try clear hfz13_0
               try clear hfz13_1
               try clear hfz13_2
               try clear hfz13_3
               try clear hfz13_4
               try clear hfz13_5
               try clear hfz13_6
               try clear hfz22_0
               try clear hfz22_1
               try clear hfz25_0
               try clear hfz25_1
               try clear hfz28_0
               try clear hfz28_1
               try clear hfz37_0
               try clear hfz37_1
               try clear hfz37_2
               try clear hfz37_3
               try clear hfz45_0
               try clear hfz45_1
               try clear hfz45_2
               try clear hfz45_3
               try clear hfz48_0
               try clear hfz48_1
               try clear hfz48_2
               try clear hfz48_3
               try clear hfz57_0
               try clear hfz57_1
               try clear hfz57_2
               try clear hfz57_3
               try clear hfz60_0
               try clear hfz60_1
               try clear hfz60_2
               try clear hfz60_3
               try clear hfz63_0
               try clear hfz63_1
               try clear hfz63_2
               try clear hfz63_3
               try clear hfz71_0
               try clear hfz71_1
               try clear hfz71_2
               try clear hfz71_3
               try clear hfz74_0
               try clear hfz74_1
               try clear hfz74_2
               try clear hfz74_3
               try clear hfz77_0
               try clear hfz77_1
               try clear hfz77_2
               try clear hfz77_3
               try clear hfz9_0
               try clear hfz9_1
               try clear hx340_0
               try clear hx340_1
               try clear hx340_2
               try clear hx340_3
               try clear hx342_0
               try clear hx342_1
               try clear hx342_2
               try clear hx342_3
               try clear hx343_0
               try clear hx343_1
               try clear hx343_2
               try clear hx343_3
               try clear hx344_0
               try clear hx344_1
               try clear hx344_2
               try clear hx344_3
               try clear p2
               try clear p3
               try clear p34
               try clear p340
               try clear p342
               try clear p343
               try clear p344
               try clear p6
               try clear q3
               try clear q34
               try clear q340
               try clear q342
               try clear q343
               try clear q344
               obtain ⟨kq, x106_65, rfl, HA, HJ65, HO_8, BK324, BK337, BK341, HB⟩ := hcut
               cases kq with
               | zero => exact absurd HA.out (by simp [palinodelaw19_SagaOrder.j4])
               | succ kj65 =>
                have H := HA.out
                clear HA
                simp only [palinodelaw19_SagaOrder.j4] at H
                by_cases c78 : x106_65 = true
                ·
                 subst c78
                 have H1 : (palinodelaw19_SagaOrder.l0 kj65 l1 t325 t326 (wrap64 (x11_2 + 1)) x12_2 x13_2 (wrap64 (x14_2 + 1))) = some r := by rw [if_pos rfl] at H; exact H
                 clear H
                 have H := H1
                 clear H1
                 have H' := Aside0.mk H
                 clear H
                 go_wp2
                 repeat (go_quiet (fail); try go_wp2)
                 go_roundg kj65
                 case measure => have := HJ5.out; have := HK2.out; have := HJ31.out; have := HJ48.out; have := HJ65.out; omega
                 case rel => exact ⟨(wrap64 (x11_2 + 1)), (x12_2), (x13_2), (wrap64 (x14_2 + 1)), (by first | rfl | (simp; done) | (simp [*]; done)), (by first | rfl | (simp; done) | (simp [*]; done)), (by first | rfl | (simp; done) | (simp [*]; done)), (by first | rfl | (simp; done) | (simp [*]; done)), H', ⟨by have := HJ5.out; have := HK2.out; have := HJ31.out; have := HJ48.out; have := HJ65.out; omega⟩, ⟨by (with_reducible repeat (first | apply Kd.R_alloc | apply Kd.R_drewN | apply Kd.R_drew)); exact Kd.R_mono HO_8.out (fun _ hk => trivial)⟩, ⟨by (with_reducible repeat first | apply Zn | apply Zd | apply Za); exact BK324.out⟩, ⟨by (with_reducible repeat first | apply Zn | apply Zd | apply Za); exact BK337.out⟩, ⟨Yr HB⟩⟩
                ·
                 replace c78 := Bool.eq_false_iff.mpr c78
                 subst c78
                 have H1 : (if ((rd_T35 t326 x14_2).f2) = 2 then (if x13_2 = true then (palinodelaw19_SagaOrder.j5 kj65 l1 t325 t326 x11_2 x12_2 x13_2 x14_2 false ((rd_T35 t326 x14_2).f0) ((rd_T35 t326 x14_2).f1) ((rd_T35 t326 x14_2).f2) ((rd_T35 t326 x14_2).f3)) else (if ((rd_T35 t326 x14_2).f1) = x11_2 then (palinodelaw19_SagaOrder.j5 kj65 l1 t325 t326 x11_2 x12_2 x13_2 x14_2 true ((rd_T35 t326 x14_2).f0) ((rd_T35 t326 x14_2).f1) ((rd_T35 t326 x14_2).f2) ((rd_T35 t326 x14_2).f3)) else (palinodelaw19_SagaOrder.j5 kj65 l1 t325 t326 x11_2 x12_2 x13_2 x14_2 (((rd_T35 t326 x14_2).f1) == (wrap64 (x11_2 - 1))) ((rd_T35 t326 x14_2).f0) ((rd_T35 t326 x14_2).f1) ((rd_T35 t326 x14_2).f2) ((rd_T35 t326 x14_2).f3)))) else (palinodelaw19_SagaOrder.j5 kj65 l1 t325 t326 x11_2 x12_2 x13_2 x14_2 false ((rd_T35 t326 x14_2).f0) ((rd_T35 t326 x14_2).f1) ((rd_T35 t326 x14_2).f2) ((rd_T35 t326 x14_2).f3))) = some r := by rw [if_neg (show ¬ (false = true) by decide)] at H; exact H
                 clear H
                 have H := H1
                 clear H1
                 have HC79 := Aside0.mk H
                 clear H
                 go_upto_region 19 with (fail)
                 repeat (go_quiet (fail); go_upto_region 19 with (fail))
                 go_cut [123] (fun v123 wc => ∃ (kq : Nat) (x123_78 : Bool), v123 = .bool x123_78 ∧ Aside0 (palinodelaw19_SagaOrder.j5 kq l1 t325 t326 x11_2 x12_2 x13_2 x14_2 x123_78 ((rd_T35 t326 x14_2).f0) ((rd_T35 t326 x14_2).f1) ((rd_T35 t326 x14_2).f2) ((rd_T35 t326 x14_2).f3) = some r) ∧ Aside0 (kq ≤ kj65) ∧ Aside0 (Kd.R k35 35 wc w.heap.size (fun k_ => k_ ≠ gb341) (.slice (some ad340) t326.length co33) t326) ∧ Aside0 (wc.heap[gb324]? = some (.cells #[.string a0_0, (.slice A0_1 l0_1.length c0_1)] 24 (0, 0))) ∧ Aside0 (wc.heap[gb337]? = some (.cells #[.string t329, .string t330, .int .i64 t331, .int .i64 t332, .int .i64 t333, .int .i64 t334, .bool t335] 26 (0, 0))) ∧ Aside0 (wc.heap[gb341]? = some (.cells #[.string ((rd_T35 t326 x14_2).f0), .int .i64 ((rd_T35 t326 x14_2).f1), .int .i64 ((rd_T35 t326 x14_2).f2), .int .i64 ((rd_T35 t326 x14_2).f3)] 35 (0, 0))) ∧ Aside0 (Below w.heap.size w wc))
                 case first =>
                  have H := HC79.out
                  clear HC79
                  by_cases c80 : ((rd_T35 t326 x14_2).f2) = 2
                  ·
                   rw [if_pos c80] at H
                   have c80b0 : (((rd_T35 t326 x14_2).f2) == 2) = true := beq_iff_eq.mpr c80
                   have c80b1 : (((rd_T35 t326 x14_2).f2) != 2) = false := bne_eq_false_iff_eq.mpr c80
                   clear c80
                   (first | rw [c80b0] | (simp only [i64_w, i32_w]; rw [c80b0]) | skip)
                   by_cases c81 : x13_2 = true
                   ·
                    subst c81
                    have H1 : (palinodelaw19_SagaOrder.j5 kj65 l1 t325 t326 x11_2 x12_2 true x14_2 false ((rd_T35 t326 x14_2).f0) ((rd_T35 t326 x14_2).f1) ((rd_T35 t326 x14_2).f2) ((rd_T35 t326 x14_2).f3)) = some r := by rw [if_pos rfl] at H; exact H
                    clear H
                    have H := H1
                    clear H1
                    have H' := Aside0.mk H
                    clear H
                    obtain ⟨hnb82, hnc82⟩ := Zo NB341_324
                    obtain ⟨hnb83, hnc83⟩ := Zo NB341_337
                    obtain ⟨⟨hcz84_0, hcz84_1, hcz84_2, hcz84_3⟩, hfz84_0, hfz84_1, hfz84_2, hfz84_3⟩ := Zk4 BK341
                    go_wp2
                    repeat (go_quiet (fail); try go_wp2)
                    go_meet
                    case rel => exact ⟨_, (false), (by first | rfl | (simp; done) | (simp [*]; done)), H', ⟨by have := HJ5.out; have := HK2.out; have := HJ31.out; have := HJ48.out; have := HJ65.out; first | omega | exact Nat.le_refl _⟩, ⟨by (with_reducible repeat (first | apply Kd.R_alloc | apply Kd.R_drewN | apply Kd.R_drew)); exact HO_8.out⟩, ⟨by (with_reducible repeat first | apply Zn | apply Zd | apply Za); exact BK324.out⟩, ⟨by (with_reducible repeat first | apply Zn | apply Zd | apply Za); exact BK337.out⟩, ⟨by (with_reducible repeat first | apply Zn | apply Zd | apply Za); exact BK341.out⟩, ⟨Yr HB⟩⟩
                   ·
                    replace c81 := Bool.eq_false_iff.mpr c81
                    subst c81
                    have H1 : (if ((rd_T35 t326 x14_2).f1) = x11_2 then (palinodelaw19_SagaOrder.j5 kj65 l1 t325 t326 x11_2 x12_2 false x14_2 true ((rd_T35 t326 x14_2).f0) ((rd_T35 t326 x14_2).f1) ((rd_T35 t326 x14_2).f2) ((rd_T35 t326 x14_2).f3)) else (palinodelaw19_SagaOrder.j5 kj65 l1 t325 t326 x11_2 x12_2 false x14_2 (((rd_T35 t326 x14_2).f1) == (wrap64 (x11_2 - 1))) ((rd_T35 t326 x14_2).f0) ((rd_T35 t326 x14_2).f1) ((rd_T35 t326 x14_2).f2) ((rd_T35 t326 x14_2).f3))) = some r := by rw [if_neg (show ¬ (false = true) by decide)] at H; exact H
                    clear H
                    have H := H1
                    clear H1
                    by_cases c85 : ((rd_T35 t326 x14_2).f1) = x11_2
                    ·
                     rw [if_pos c85] at H
                     have c85b0 : (((rd_T35 t326 x14_2).f1) == x11_2) = true := beq_iff_eq.mpr c85
                     have c85b1 : (((rd_T35 t326 x14_2).f1) != x11_2) = false := bne_eq_false_iff_eq.mpr c85
                     clear c85
                     have H' := Aside0.mk H
                     clear H
                     obtain ⟨hnb86, hnc86⟩ := Zo NB341_324
                     obtain ⟨hnb87, hnc87⟩ := Zo NB341_337
                     obtain ⟨⟨hcz88_0, hcz88_1, hcz88_2, hcz88_3⟩, hfz88_0, hfz88_1, hfz88_2, hfz88_3⟩ := Zk4 BK341
                     go_wp2
                     repeat (go_quiet (fail); try go_wp2)
                     go_meet
                     case rel => exact ⟨_, (true), (by first | rfl | (simp; done) | (simp [*]; done)), H', ⟨by have := HJ5.out; have := HK2.out; have := HJ31.out; have := HJ48.out; have := HJ65.out; first | omega | exact Nat.le_refl _⟩, ⟨by (with_reducible repeat (first | apply Kd.R_alloc | apply Kd.R_drewN | apply Kd.R_drew)); exact HO_8.out⟩, ⟨by (with_reducible repeat first | apply Zn | apply Zd | apply Za); exact BK324.out⟩, ⟨by (with_reducible repeat first | apply Zn | apply Zd | apply Za); exact BK337.out⟩, ⟨by (with_reducible repeat first | apply Zn | apply Zd | apply Za); exact BK341.out⟩, ⟨Yr HB⟩⟩
                    ·
                     rw [if_neg c85] at H
                     have c85b0 : (((rd_T35 t326 x14_2).f1) == x11_2) = false := beq_eq_false_iff_ne.mpr c85
                     have c85b1 : (((rd_T35 t326 x14_2).f1) != x11_2) = true := bne_iff_ne.mpr c85
                     have H' := Aside0.mk H
                     clear H
                     obtain ⟨hnb89, hnc89⟩ := Zo NB341_324
                     obtain ⟨hnb90, hnc90⟩ := Zo NB341_337
                     obtain ⟨⟨hcz91_0, hcz91_1, hcz91_2, hcz91_3⟩, hfz91_0, hfz91_1, hfz91_2, hfz91_3⟩ := Zk4 BK341
                     go_wp2
                     repeat (go_quiet (fail); try go_wp2)
                     go_meet
                     case rel => exact ⟨_, ((((rd_T35 t326 x14_2).f1) == (wrap64 (x11_2 - 1)))), (by first | rfl | (simp; done) | (simp [*]; done)), H', ⟨by have := HJ5.out; have := HK2.out; have := HJ31.out; have := HJ48.out; have := HJ65.out; first | omega | exact Nat.le_refl _⟩, ⟨by (with_reducible repeat (first | apply Kd.R_alloc | apply Kd.R_drewN | apply Kd.R_drew)); exact HO_8.out⟩, ⟨by (with_reducible repeat first | apply Zn | apply Zd | apply Za); exact BK324.out⟩, ⟨by (with_reducible repeat first | apply Zn | apply Zd | apply Za); exact BK337.out⟩, ⟨by (with_reducible repeat first | apply Zn | apply Zd | apply Za); exact BK341.out⟩, ⟨Yr HB⟩⟩
                  ·
                   rw [if_neg c80] at H
                   have c80b0 : (((rd_T35 t326 x14_2).f2) == 2) = false := beq_eq_false_iff_ne.mpr c80
                   have c80b1 : (((rd_T35 t326 x14_2).f2) != 2) = true := bne_iff_ne.mpr c80
                   (first | rw [c80b0] | (simp only [i64_w, i32_w]; rw [c80b0]) | skip)
                   have H' := Aside0.mk H
                   clear H
                   obtain ⟨hnb92, hnc92⟩ := Zo NB341_324
                   obtain ⟨hnb93, hnc93⟩ := Zo NB341_337
                   obtain ⟨⟨hcz94_0, hcz94_1, hcz94_2, hcz94_3⟩, hfz94_0, hfz94_1, hfz94_2, hfz94_3⟩ := Zk4 BK341
                   go_wp2
                   repeat (go_quiet (fail); try go_wp2)
                   go_meet
                   case rel => exact ⟨_, (false), (by first | rfl | (simp; done) | (simp [*]; done)), H', ⟨by have := HJ5.out; have := HK2.out; have := HJ31.out; have := HJ48.out; have := HJ65.out; first | omega | exact Nat.le_refl _⟩, ⟨by (with_reducible repeat (first | apply Kd.R_alloc | apply Kd.R_drewN | apply Kd.R_drew)); exact HO_8.out⟩, ⟨by (with_reducible repeat first | apply Zn | apply Zd | apply Za); exact BK324.out⟩, ⟨by (with_reducible repeat first | apply Zn | apply Zd | apply Za); exact BK337.out⟩, ⟨by (with_reducible repeat first | apply Zn | apply Zd | apply Za); exact BK341.out⟩, ⟨Yr HB⟩⟩
                 case rest =>
                  as_aux_lemma =>
                  clear HC79
                  try clear c1
                  try clear c2
                  try clear p2
                  try clear c3
                  try clear p3
                  try clear q3
                  try clear hx3
                  try clear c4
                  try clear c5
                  try clear c6
                  try clear p6
                  try clear c7
                  try clear c8
                  try clear c9
                  try clear c12
                  try clear c14
                  try clear c16
                  try clear c17
                  try clear c19
                  try clear c20
                  try clear c20b0
                  try clear c21
                  try clear c24
                  try clear c27
                  try clear c30
                  try clear c30b0
                  try clear c31
                  try clear c31b0
                  try clear p34
                  try clear q34
                  try clear hx34
                  try clear c35
                  try clear c36
                  try clear c38
                  try clear c38b0
                  try clear c40
                  try clear c40b0
                  try clear c41
                  try clear c41b0
                  try clear c42
                  try clear c42b0
                  try clear c42b1
                  try clear c43
                  try clear c44
                  try clear c46
                  try clear c47
                  try clear c50
                  try clear c52
                  try clear c52b0
                  try clear c53
                  try clear c53b0
                  try clear c54
                  try clear c54b0
                  try clear c54b1
                  try clear c55
                  try clear c56
                  try clear c58
                  try clear c59
                  try clear c61
                  try clear c62
                  try clear c64
                  try clear p64
                  try clear c65
                  try clear c67
                  try clear c67b0
                  try clear c67b1
                  try clear c68
                  try clear c69
                  try clear c70
                  try clear c72
                  try clear c73
                  try clear c75
                  try clear c76
                  try clear c78
                  try clear c80
                  try clear c80b0
                  try clear c80b1
                  try clear c81
                  try clear c82
                  try clear c83
                  try clear c85
                  try clear c85b0
                  try clear c85b1
                  try clear c86
                  try clear c87
                  try clear c89
                  try clear c90
                  try clear c92
                  try clear c93
                  try clear hcz13_0
                  try clear hcz13_1
                  try clear hcz13_2
                  try clear hcz13_3
                  try clear hcz13_4
                  try clear hcz13_5
                  try clear hcz13_6
                  try clear hcz22_0
                  try clear hcz22_1
                  try clear hcz25_0
                  try clear hcz25_1
                  try clear hcz28_0
                  try clear hcz28_1
                  try clear hcz37_0
                  try clear hcz37_1
                  try clear hcz37_2
                  try clear hcz37_3
                  try clear hcz45_0
                  try clear hcz45_1
                  try clear hcz45_2
                  try clear hcz45_3
                  try clear hcz48_0
                  try clear hcz48_1
                  try clear hcz48_2
                  try clear hcz48_3
                  try clear hcz57_0
                  try clear hcz57_1
                  try clear hcz57_2
                  try clear hcz57_3
                  try clear hcz60_0
                  try clear hcz60_1
                  try clear hcz60_2
                  try clear hcz60_3
                  try clear hcz63_0
                  try clear hcz63_1
                  try clear hcz63_2
                  try clear hcz63_3
                  try clear hcz71_0
                  try clear hcz71_1
                  try clear hcz71_2
                  try clear hcz71_3
                  try clear hcz74_0
                  try clear hcz74_1
                  try clear hcz74_2
                  try clear hcz74_3
                  try clear hcz77_0
                  try clear hcz77_1
                  try clear hcz77_2
                  try clear hcz77_3
                  try clear hcz84_0
                  try clear hcz84_1
                  try clear hcz84_2
                  try clear hcz84_3
                  try clear hcz88_0
                  try clear hcz88_1
                  try clear hcz88_2
                  try clear hcz88_3
                  try clear hcz91_0
                  try clear hcz91_1
                  try clear hcz91_2
                  try clear hcz91_3
                  try clear hcz94_0
                  try clear hcz94_1
                  try clear hcz94_2
                  try clear hcz94_3
                  try clear hcz9_0
                  try clear hcz9_1
                  try clear hfz13_0
                  try clear hfz13_1
                  try clear hfz13_2
                  try clear hfz13_3
                  try clear hfz13_4
                  try clear hfz13_5
                  try clear hfz13_6
                  try clear hfz22_0
                  try clear hfz22_1
                  try clear hfz25_0
                  try clear hfz25_1
                  try clear hfz28_0
                  try clear hfz28_1
                  try clear hfz37_0
                  try clear hfz37_1
                  try clear hfz37_2
                  try clear hfz37_3
                  try clear hfz45_0
                  try clear hfz45_1
                  try clear hfz45_2
                  try clear hfz45_3
                  try clear hfz48_0
                  try clear hfz48_1
                  try clear hfz48_2
                  try clear hfz48_3
                  try clear hfz57_0
                  try clear hfz57_1
                  try clear hfz57_2
                  try clear hfz57_3
                  try clear hfz60_0
                  try clear hfz60_1
                  try clear hfz60_2
                  try clear hfz60_3
                  try clear hfz63_0
                  try clear hfz63_1
                  try clear hfz63_2
                  try clear hfz63_3
                  try clear hfz71_0
                  try clear hfz71_1
                  try clear hfz71_2
                  try clear hfz71_3
                  try clear hfz74_0
                  try clear hfz74_1
                  try clear hfz74_2
                  try clear hfz74_3
                  try clear hfz77_0
                  try clear hfz77_1
                  try clear hfz77_2
                  try clear hfz77_3
                  try clear hfz84_0
                  try clear hfz84_1
                  try clear hfz84_2
                  try clear hfz84_3
                  try clear hfz88_0
                  try clear hfz88_1
                  try clear hfz88_2
                  try clear hfz88_3
                  try clear hfz91_0
                  try clear hfz91_1
                  try clear hfz91_2
                  try clear hfz91_3
                  try clear hfz94_0
                  try clear hfz94_1
                  try clear hfz94_2
                  try clear hfz94_3
                  try clear hfz9_0
                  try clear hfz9_1
                  try clear hx340_0
                  try clear hx340_1
                  try clear hx340_2
                  try clear hx340_3
                  try clear hx342_0
                  try clear hx342_1
                  try clear hx342_2
                  try clear hx342_3
                  try clear hx343_0
                  try clear hx343_1
                  try clear hx343_2
                  try clear hx343_3
                  try clear hx344_0
                  try clear hx344_1
                  try clear hx344_2
                  try clear hx344_3
                  try clear p2
                  try clear p3
                  try clear p34
                  try clear p340
                  try clear p342
                  try clear p343
                  try clear p344
                  try clear p6
                  try clear p64
                  try clear q3
                  try clear q34
                  try clear q340
                  try clear q342
                  try clear q343
                  try clear q344
                  obtain ⟨kq, x123_78, rfl, HA, HJ78, HO_8, BK324, BK337, BK341, HB⟩ := hcut
                  cases kq with
                  | zero => exact absurd HA.out (by simp [palinodelaw19_SagaOrder.j5])
                  | succ kj78 =>
                   have H := HA.out
                   clear HA
                   simp only [palinodelaw19_SagaOrder.j5] at H
                   by_cases c95 : x123_78 = true
                   ·
                    subst c95
                    have H1 : (if ((rd_T35 t326 x14_2).f1) = (wrap64 (x11_2 - 1)) then (if 0 ≤ (wrap64 (x14_2 - 1)) then (if (wrap64 (x14_2 - 1)) < (l1.length : Int) then ((palinodelaw19_pick.f (rd l1 (wrap64 (x14_2 - 1))) 3).bind fun t346 => (if (wrap64 (t346 + 1)) = 2 then (if ((rd_T35 t326 x14_2).f1) = x11_2 then ((palinodelaw19_pick.f (rd l1 (wrap64 (x14_2 - 1))) 3).bind fun t348 => (if (wrap64 (t348 + 1)) = 2 then (some false) else (palinodelaw19_SagaOrder.l0 kj78 l1 t325 t326 x11_2 ((rd_T35 t326 x14_2).f1) true (wrap64 (x14_2 + 1))))) else (palinodelaw19_SagaOrder.l0 kj78 l1 t325 t326 x11_2 ((rd_T35 t326 x14_2).f1) true (wrap64 (x14_2 + 1)))) else (some false))) else (none)) else (none)) else (if ((rd_T35 t326 x14_2).f1) = x11_2 then (if 0 ≤ (wrap64 (x14_2 - 1)) then (if (wrap64 (x14_2 - 1)) < (l1.length : Int) then ((palinodelaw19_pick.f (rd l1 (wrap64 (x14_2 - 1))) 3).bind fun t350 => (if (wrap64 (t350 + 1)) = 2 then (some false) else (palinodelaw19_SagaOrder.l0 kj78 l1 t325 t326 x11_2 ((rd_T35 t326 x14_2).f1) true (wrap64 (x14_2 + 1))))) else (none)) else (none)) else (palinodelaw19_SagaOrder.l0 kj78 l1 t325 t326 x11_2 ((rd_T35 t326 x14_2).f1) true (wrap64 (x14_2 + 1))))) = some r := by rw [if_pos rfl] at H; exact H
                    clear H
                    have H := H1
                    clear H1
                    by_cases c96 : ((rd_T35 t326 x14_2).f1) = (wrap64 (x11_2 - 1))
                    ·
                     rw [if_pos c96] at H
                     have c96b0 : (((rd_T35 t326 x14_2).f1) == (wrap64 (x11_2 - 1))) = true := beq_iff_eq.mpr c96
                     have c96b1 : (((rd_T35 t326 x14_2).f1) != (wrap64 (x11_2 - 1))) = false := bne_eq_false_iff_eq.mpr c96
                     clear c96
                     obtain ⟨ji97, hji97⟩ : ∃ j_ : Int, (wrap64 (x14_2 - 1)) = j_ := ⟨_, rfl⟩
                     replace H : (if 0 ≤ (ji97) then (if (ji97) < (l1.length : Int) then ((palinodelaw19_pick.f (rd l1 (ji97)) 3).bind fun t346 => (if (wrap64 (t346 + 1)) = 2 then (if ((rd_T35 t326 x14_2).f1) = x11_2 then ((palinodelaw19_pick.f (rd l1 (ji97)) 3).bind fun t348 => (if (wrap64 (t348 + 1)) = 2 then (some false) else (palinodelaw19_SagaOrder.l0 kj78 l1 t325 t326 x11_2 ((rd_T35 t326 x14_2).f1) true (wrap64 (x14_2 + 1))))) else (palinodelaw19_SagaOrder.l0 kj78 l1 t325 t326 x11_2 ((rd_T35 t326 x14_2).f1) true (wrap64 (x14_2 + 1)))) else (some false))) else (none)) else (none)) = some r := by first | (rw [hji97] at H; exact H) | (simp only [hji97] at H ⊢; exact H)
                     have hji97w : (IntKind.i64.wrap (x14_2 - 1)) = ji97 := (i64_w _).trans hji97
                     by_cases c98 : 0 ≤ (ji97)
                     ·
                      rw [if_pos c98] at H
                      have c98b0 : decide (0 ≤ (ji97)) = true := decide_eq_true c98
                      clear c98
                      by_cases c99 : (ji97) < (l1.length : Int)
                      ·
                       rw [if_pos c99] at H
                       have c99b0 : decide ((ji97) < (l1.length : Int)) = true := decide_eq_true c99
                       clear c99
                       replace H := Option.bind_eq_some_iff.mp H
                       obtain ⟨t346, A1000, H⟩ := H
                       replace H : (if (wrap64 (t346 + 1)) = 2 then (if ((rd_T35 t326 x14_2).f1) = x11_2 then ((palinodelaw19_pick.f (rd l1 (ji97)) 3).bind fun t348 => (if (wrap64 (t348 + 1)) = 2 then (some false) else (palinodelaw19_SagaOrder.l0 kj78 l1 t325 t326 x11_2 ((rd_T35 t326 x14_2).f1) true (wrap64 (x14_2 + 1))))) else (palinodelaw19_SagaOrder.l0 kj78 l1 t325 t326 x11_2 ((rd_T35 t326 x14_2).f1) true (wrap64 (x14_2 + 1)))) else (some false)) = some r := H
                       have A100 := Aside0.mk A1000
                       clear A1000
                       by_cases c101 : (wrap64 (t346 + 1)) = 2
                       ·
                        rw [if_pos c101] at H
                        have c101b0 : ((wrap64 (t346 + 1)) == 2) = true := beq_iff_eq.mpr c101
                        have c101b1 : ((wrap64 (t346 + 1)) != 2) = false := bne_eq_false_iff_eq.mpr c101
                        clear c101
                        by_cases c102 : ((rd_T35 t326 x14_2).f1) = x11_2
                        ·
                         exact absurd ((eq_of_beq c96b0).symm.trans c102 : wrap64 (x11_2 - 1) = x11_2) (by unfold wrap64; omega)
                        ·
                         rw [if_neg c102] at H
                         have c102b0 : (((rd_T35 t326 x14_2).f1) == x11_2) = false := beq_eq_false_iff_ne.mpr c102
                         have c102b1 : (((rd_T35 t326 x14_2).f1) != x11_2) = true := bne_iff_ne.mpr c102
                         have H' := Aside0.mk H
                         clear H
                         obtain ⟨hnb108, hnc108⟩ := Zo NB341_324
                         obtain ⟨hnb109, hnc109⟩ := Zo NB341_337
                         obtain ⟨⟨hcz110_0, hcz110_1, hcz110_2, hcz110_3⟩, hfz110_0, hfz110_1, hfz110_2, hfz110_3⟩ := Zk4 BK341
                         have p345 : 0 ≤ ((ji97) : Int) := of_decide_eq_true (by first | (with_reducible assumption) | assumption)
                         have q345 : (ji97) < (l1.length : Int) := of_decide_eq_true (by first | (with_reducible assumption) | assumption)
                         obtain ⟨ad345, e345, hx345_0⟩ := Kd.at_int HR1.out (ji97) p345 q345
                         cases e345
                         replace hx345_0 := (HB.out.cell (World.block_lt_of_cell? w _ hx345_0)).trans hx345_0
                         replace p345 := eq_true p345
                         replace q345 := eq_true q345
                         go_wp2_with (first | (go_at_call 27; (with_reducible refine (palinodelaw19_pick.calls (rd l1 (ji97)) 3 t346 _ A100.out).mono ?_); rintro e w' ⟨rfl, ⟨nd, rfl⟩⟩; (try first | exact ⟨rfl, _, World.drewN_drewN _ _ _⟩ | exact ⟨rfl, _, Eq.trans (World.drewN_drewN _ _ _) (congrArg (World.drewN _) (Nat.add_assoc _ _ _))⟩)))
                         repeat (go_quiet (first | (go_at_call 27; (with_reducible refine (palinodelaw19_pick.calls (rd l1 (ji97)) 3 t346 _ A100.out).mono ?_); rintro e w' ⟨rfl, ⟨nd, rfl⟩⟩; (try first | exact ⟨rfl, _, World.drewN_drewN _ _ _⟩ | exact ⟨rfl, _, Eq.trans (World.drewN_drewN _ _ _) (congrArg (World.drewN _) (Nat.add_assoc _ _ _))⟩))); try go_wp2_with (first | (go_at_call 27; (with_reducible refine (palinodelaw19_pick.calls (rd l1 (ji97)) 3 t346 _ A100.out).mono ?_); rintro e w' ⟨rfl, ⟨nd, rfl⟩⟩; (try first | exact ⟨rfl, _, World.drewN_drewN _ _ _⟩ | exact ⟨rfl, _, Eq.trans (World.drewN_drewN _ _ _) (congrArg (World.drewN _) (Nat.add_assoc _ _ _))⟩))))
                         go_roundg kj78
                         case measure => have := HJ5.out; have := HK2.out; have := HJ31.out; have := HJ48.out; have := HJ65.out; have := HJ78.out; omega
                         case rel => exact ⟨(x11_2), (((rd_T35 t326 x14_2).f1)), (true), (wrap64 (x14_2 + 1)), (by first | rfl | (simp; done) | (simp [*]; done)), (by first | rfl | (simp; done) | (simp [*]; done)), (by first | rfl | (simp; done) | (simp [*]; done)), (by first | rfl | (simp; done) | (simp [*]; done)), H', ⟨by have := HJ5.out; have := HK2.out; have := HJ31.out; have := HJ48.out; have := HJ65.out; have := HJ78.out; omega⟩, ⟨by (with_reducible repeat (first | apply Kd.R_alloc | apply Kd.R_drewN | apply Kd.R_drew)); exact Kd.R_mono HO_8.out (fun _ hk => trivial)⟩, ⟨by (with_reducible repeat first | apply Zn | apply Zd | apply Za); exact BK324.out⟩, ⟨by (with_reducible repeat first | apply Zn | apply Zd | apply Za); exact BK337.out⟩, ⟨Yr HB⟩⟩
                       ·
                        rw [if_neg c101] at H
                        have c101b0 : ((wrap64 (t346 + 1)) == 2) = false := beq_eq_false_iff_ne.mpr c101
                        have c101b1 : ((wrap64 (t346 + 1)) != 2) = true := bne_iff_ne.mpr c101
                        exact absurd ((Option.some.inj H).trans HRT_.out) (by decide)
                      ·
                       rw [if_neg c99] at H
                       exact absurd H (by simp)
                     ·
                      rw [if_neg c98] at H
                      exact absurd H (by simp)
                    ·
                     rw [if_neg c96] at H
                     have c96b0 : (((rd_T35 t326 x14_2).f1) == (wrap64 (x11_2 - 1))) = false := beq_eq_false_iff_ne.mpr c96
                     have c96b1 : (((rd_T35 t326 x14_2).f1) != (wrap64 (x11_2 - 1))) = true := bne_iff_ne.mpr c96
                     by_cases c111 : ((rd_T35 t326 x14_2).f1) = x11_2
                     ·
                      rw [if_pos c111] at H
                      have c111b0 : (((rd_T35 t326 x14_2).f1) == x11_2) = true := beq_iff_eq.mpr c111
                      have c111b1 : (((rd_T35 t326 x14_2).f1) != x11_2) = false := bne_eq_false_iff_eq.mpr c111
                      clear c111
                      obtain ⟨ji112, hji112⟩ : ∃ j_ : Int, (wrap64 (x14_2 - 1)) = j_ := ⟨_, rfl⟩
                      replace H : (if 0 ≤ (ji112) then (if (ji112) < (l1.length : Int) then ((palinodelaw19_pick.f (rd l1 (ji112)) 3).bind fun t350 => (if (wrap64 (t350 + 1)) = 2 then (some false) else (palinodelaw19_SagaOrder.l0 kj78 l1 t325 t326 x11_2 ((rd_T35 t326 x14_2).f1) true (wrap64 (x14_2 + 1))))) else (none)) else (none)) = some r := by first | (rw [hji112] at H; exact H) | (simp only [hji112] at H ⊢; exact H)
                      have hji112w : (IntKind.i64.wrap (x14_2 - 1)) = ji112 := (i64_w _).trans hji112
                      by_cases c113 : 0 ≤ (ji112)
                      ·
                       rw [if_pos c113] at H
                       have c113b0 : decide (0 ≤ (ji112)) = true := decide_eq_true c113
                       clear c113
                       by_cases c114 : (ji112) < (l1.length : Int)
                       ·
                        rw [if_pos c114] at H
                        have c114b0 : decide ((ji112) < (l1.length : Int)) = true := decide_eq_true c114
                        clear c114
                        replace H := Option.bind_eq_some_iff.mp H
                        obtain ⟨t350, A1150, H⟩ := H
                        replace H : (if (wrap64 (t350 + 1)) = 2 then (some false) else (palinodelaw19_SagaOrder.l0 kj78 l1 t325 t326 x11_2 ((rd_T35 t326 x14_2).f1) true (wrap64 (x14_2 + 1)))) = some r := H
                        have A115 := Aside0.mk A1150
                        clear A1150
                        by_cases c116 : (wrap64 (t350 + 1)) = 2
                        ·
                         rw [if_pos c116] at H
                         have c116b0 : ((wrap64 (t350 + 1)) == 2) = true := beq_iff_eq.mpr c116
                         have c116b1 : ((wrap64 (t350 + 1)) != 2) = false := bne_eq_false_iff_eq.mpr c116
                         clear c116
                         exact absurd ((Option.some.inj H).trans HRT_.out) (by decide)
                        ·
                         rw [if_neg c116] at H
                         have c116b0 : ((wrap64 (t350 + 1)) == 2) = false := beq_eq_false_iff_ne.mpr c116
                         have c116b1 : ((wrap64 (t350 + 1)) != 2) = true := bne_iff_ne.mpr c116
                         have H' := Aside0.mk H
                         clear H
                         obtain ⟨hnb117, hnc117⟩ := Zo NB341_324
                         obtain ⟨hnb118, hnc118⟩ := Zo NB341_337
                         obtain ⟨⟨hcz119_0, hcz119_1, hcz119_2, hcz119_3⟩, hfz119_0, hfz119_1, hfz119_2, hfz119_3⟩ := Zk4 BK341
                         have p349 : 0 ≤ ((ji112) : Int) := of_decide_eq_true (by first | (with_reducible assumption) | assumption)
                         have q349 : (ji112) < (l1.length : Int) := of_decide_eq_true (by first | (with_reducible assumption) | assumption)
                         obtain ⟨ad349, e349, hx349_0⟩ := Kd.at_int HR1.out (ji112) p349 q349
                         cases e349
                         replace hx349_0 := (HB.out.cell (World.block_lt_of_cell? w _ hx349_0)).trans hx349_0
                         replace p349 := eq_true p349
                         replace q349 := eq_true q349
                         go_wp2_with (first | (go_at_call 27; (with_reducible refine (palinodelaw19_pick.calls (rd l1 (ji112)) 3 t350 _ A115.out).mono ?_); rintro e w' ⟨rfl, ⟨nd, rfl⟩⟩; (try first | exact ⟨rfl, _, World.drewN_drewN _ _ _⟩ | exact ⟨rfl, _, Eq.trans (World.drewN_drewN _ _ _) (congrArg (World.drewN _) (Nat.add_assoc _ _ _))⟩)))
                         repeat (go_quiet (first | (go_at_call 27; (with_reducible refine (palinodelaw19_pick.calls (rd l1 (ji112)) 3 t350 _ A115.out).mono ?_); rintro e w' ⟨rfl, ⟨nd, rfl⟩⟩; (try first | exact ⟨rfl, _, World.drewN_drewN _ _ _⟩ | exact ⟨rfl, _, Eq.trans (World.drewN_drewN _ _ _) (congrArg (World.drewN _) (Nat.add_assoc _ _ _))⟩))); try go_wp2_with (first | (go_at_call 27; (with_reducible refine (palinodelaw19_pick.calls (rd l1 (ji112)) 3 t350 _ A115.out).mono ?_); rintro e w' ⟨rfl, ⟨nd, rfl⟩⟩; (try first | exact ⟨rfl, _, World.drewN_drewN _ _ _⟩ | exact ⟨rfl, _, Eq.trans (World.drewN_drewN _ _ _) (congrArg (World.drewN _) (Nat.add_assoc _ _ _))⟩))))
                         go_roundg kj78
                         case measure => have := HJ5.out; have := HK2.out; have := HJ31.out; have := HJ48.out; have := HJ65.out; have := HJ78.out; omega
                         case rel => exact ⟨(x11_2), (((rd_T35 t326 x14_2).f1)), (true), (wrap64 (x14_2 + 1)), (by first | rfl | (simp; done) | (simp [*]; done)), (by first | rfl | (simp; done) | (simp [*]; done)), (by first | rfl | (simp; done) | (simp [*]; done)), (by first | rfl | (simp; done) | (simp [*]; done)), H', ⟨by have := HJ5.out; have := HK2.out; have := HJ31.out; have := HJ48.out; have := HJ65.out; have := HJ78.out; omega⟩, ⟨by (with_reducible repeat (first | apply Kd.R_alloc | apply Kd.R_drewN | apply Kd.R_drew)); exact Kd.R_mono HO_8.out (fun _ hk => trivial)⟩, ⟨by (with_reducible repeat first | apply Zn | apply Zd | apply Za); exact BK324.out⟩, ⟨by (with_reducible repeat first | apply Zn | apply Zd | apply Za); exact BK337.out⟩, ⟨Yr HB⟩⟩
                       ·
                        rw [if_neg c114] at H
                        exact absurd H (by simp)
                      ·
                       rw [if_neg c113] at H
                       exact absurd H (by simp)
                     ·
                      rw [if_neg c111] at H
                      have c111b0 : (((rd_T35 t326 x14_2).f1) == x11_2) = false := beq_eq_false_iff_ne.mpr c111
                      have c111b1 : (((rd_T35 t326 x14_2).f1) != x11_2) = true := bne_iff_ne.mpr c111
                      have H' := Aside0.mk H
                      clear H
                      obtain ⟨hnb120, hnc120⟩ := Zo NB341_324
                      obtain ⟨hnb121, hnc121⟩ := Zo NB341_337
                      obtain ⟨⟨hcz122_0, hcz122_1, hcz122_2, hcz122_3⟩, hfz122_0, hfz122_1, hfz122_2, hfz122_3⟩ := Zk4 BK341
                      go_wp2
                      repeat (go_quiet (fail); try go_wp2)
                      go_roundg kj78
                      case measure => have := HJ5.out; have := HK2.out; have := HJ31.out; have := HJ48.out; have := HJ65.out; have := HJ78.out; omega
                      case rel => exact ⟨(x11_2), (((rd_T35 t326 x14_2).f1)), (true), (wrap64 (x14_2 + 1)), (by first | rfl | (simp; done) | (simp [*]; done)), (by first | rfl | (simp; done) | (simp [*]; done)), (by first | rfl | (simp; done) | (simp [*]; done)), (by first | rfl | (simp; done) | (simp [*]; done)), H', ⟨by have := HJ5.out; have := HK2.out; have := HJ31.out; have := HJ48.out; have := HJ65.out; have := HJ78.out; omega⟩, ⟨by (with_reducible repeat (first | apply Kd.R_alloc | apply Kd.R_drewN | apply Kd.R_drew)); exact Kd.R_mono HO_8.out (fun _ hk => trivial)⟩, ⟨by (with_reducible repeat first | apply Zn | apply Zd | apply Za); exact BK324.out⟩, ⟨by (with_reducible repeat first | apply Zn | apply Zd | apply Za); exact BK337.out⟩, ⟨Yr HB⟩⟩
                   ·
                    replace c95 := Bool.eq_false_iff.mpr c95
                    subst c95
                    have H1 : (if ((rd_T35 t326 x14_2).f2) = 2 then (if x13_2 = true then (if ((rd_T35 t326 x14_2).f1) = (wrap64 (x12_2 - 1)) then (palinodelaw19_SagaOrder.l0 kj78 l1 t325 t326 x11_2 (wrap64 (x12_2 - 1)) x13_2 (wrap64 (x14_2 + 1))) else (some false)) else (some false)) else (some false)) = some r := by rw [if_neg (show ¬ (false = true) by decide)] at H; exact H
                    clear H
                    have H := H1
                    clear H1
                    by_cases c123 : ((rd_T35 t326 x14_2).f2) = 2
                    ·
                     rw [if_pos c123] at H
                     have c123b0 : (((rd_T35 t326 x14_2).f2) == 2) = true := beq_iff_eq.mpr c123
                     have c123b1 : (((rd_T35 t326 x14_2).f2) != 2) = false := bne_eq_false_iff_eq.mpr c123
                     clear c123
                     by_cases c124 : x13_2 = true
                     ·
                      subst c124
                      have H1 : (if ((rd_T35 t326 x14_2).f1) = (wrap64 (x12_2 - 1)) then (palinodelaw19_SagaOrder.l0 kj78 l1 t325 t326 x11_2 (wrap64 (x12_2 - 1)) true (wrap64 (x14_2 + 1))) else (some false)) = some r := by rw [if_pos rfl] at H; exact H
                      clear H
                      have H := H1
                      clear H1
                      by_cases c125 : ((rd_T35 t326 x14_2).f1) = (wrap64 (x12_2 - 1))
                      ·
                       rw [if_pos c125] at H
                       have c125b0 : (((rd_T35 t326 x14_2).f1) == (wrap64 (x12_2 - 1))) = true := beq_iff_eq.mpr c125
                       have c125b1 : (((rd_T35 t326 x14_2).f1) != (wrap64 (x12_2 - 1))) = false := bne_eq_false_iff_eq.mpr c125
                       clear c125
                       have H' := Aside0.mk H
                       clear H
                       obtain ⟨hnb126, hnc126⟩ := Zo NB341_324
                       obtain ⟨hnb127, hnc127⟩ := Zo NB341_337
                       obtain ⟨⟨hcz128_0, hcz128_1, hcz128_2, hcz128_3⟩, hfz128_0, hfz128_1, hfz128_2, hfz128_3⟩ := Zk4 BK341
                       go_wp2
                       repeat (go_quiet (fail); try go_wp2)
                       go_roundg kj78
                       case measure => have := HJ5.out; have := HK2.out; have := HJ31.out; have := HJ48.out; have := HJ65.out; have := HJ78.out; omega
                       case rel => exact ⟨(x11_2), (wrap64 (x12_2 - 1)), (true), (wrap64 (x14_2 + 1)), (by first | rfl | (simp; done) | (simp [*]; done)), (by first | rfl | (simp; done) | (simp [*]; done)), (by first | rfl | (simp; done) | (simp [*]; done)), (by first | rfl | (simp; done) | (simp [*]; done)), H', ⟨by have := HJ5.out; have := HK2.out; have := HJ31.out; have := HJ48.out; have := HJ65.out; have := HJ78.out; omega⟩, ⟨by (with_reducible repeat (first | apply Kd.R_alloc | apply Kd.R_drewN | apply Kd.R_drew)); exact Kd.R_mono HO_8.out (fun _ hk => trivial)⟩, ⟨by (with_reducible repeat first | apply Zn | apply Zd | apply Za); exact BK324.out⟩, ⟨by (with_reducible repeat first | apply Zn | apply Zd | apply Za); exact BK337.out⟩, ⟨Yr HB⟩⟩
                      ·
                       rw [if_neg c125] at H
                       have c125b0 : (((rd_T35 t326 x14_2).f1) == (wrap64 (x12_2 - 1))) = false := beq_eq_false_iff_ne.mpr c125
                       have c125b1 : (((rd_T35 t326 x14_2).f1) != (wrap64 (x12_2 - 1))) = true := bne_iff_ne.mpr c125
                       exact absurd ((Option.some.inj H).trans HRT_.out) (by decide)
                     ·
                      replace c124 := Bool.eq_false_iff.mpr c124
                      subst c124
                      have H1 : (some false) = some r := by rw [if_neg (show ¬ (false = true) by decide)] at H; exact H
                      clear H
                      have H := H1
                      clear H1
                      exact absurd ((Option.some.inj H).trans HRT_.out) (by decide)
                    ·
                     rw [if_neg c123] at H
                     have c123b0 : (((rd_T35 t326 x14_2).f2) == 2) = false := beq_eq_false_iff_ne.mpr c123
                     have c123b1 : (((rd_T35 t326 x14_2).f2) != 2) = true := bne_iff_ne.mpr c123
                     exact absurd ((Option.some.inj H).trans HRT_.out) (by decide)
       ·
        rw [if_neg c31] at H
        exact absurd H (by simp)
      ·
       rw [if_neg c30] at H
       have c30b0 : decide (x14_2 < (t326.length : Int)) = false := decide_eq_false c30
       clear c30
       by_cases c129 : t325 = true
       ·
        subst c129
        have H1 : (if 0 < (t326.length : Int) then (some ((((rd_T35 t326 0).f0).toList) == ([97] : List UInt8) && (((rd_T35 t326 0).f1) == 0 && (((rd_T35 t326 0).f2) == 1 && (((rd_T35 t326 0).f3) == 0))))) else (none)) = some r := by rw [if_pos rfl] at H; exact H
        clear H
        have H := H1
        clear H1
        by_cases c130 : 0 < (t326.length : Int)
        ·
         rw [if_pos c130] at H
         have c130b0 : decide (0 < (t326.length : Int)) = true := decide_eq_true c130
         have c130b1 : decide (0 < t326.length) = true := decide_eq_true (by omega)
         clear c130
         obtain rfl := Option.some.inj H
         obtain ⟨Ao131, co131, eo131⟩ := Kd.R_slice HO_8.out
         subst eo131
         have p339 : 0 ≤ (0 : Int) := (by omega)
         have q339 : 0 < (t326.length : Int) := of_decide_eq_true (by first | (with_reducible assumption) | assumption)
         obtain ⟨ad339, e339, hx339_0, hx339_1, hx339_2, hx339_3⟩ := at_T35 (Kd.R_reads' HO_8.out).2.2 0 p339 q339
         cases e339
         have qi339 : (0 < t326.length) = True := eq_true (by omega)
         (try rw [show ((0 : Int)).toNat = 0 from rfl] at hx339_0)
         (try rw [show 0 * 4 = 0 from rfl] at hx339_0)
         (try rw [Addr.add_zero'] at hx339_0)
         (try rw [show ((0 : Int)).toNat = 0 from rfl] at hx339_1)
         (try rw [show 0 * 4 = 0 from rfl] at hx339_1)
         (try rw [Addr.add_zero'] at hx339_1)
         (try rw [show ((0 : Int)).toNat = 0 from rfl] at hx339_2)
         (try rw [show 0 * 4 = 0 from rfl] at hx339_2)
         (try rw [Addr.add_zero'] at hx339_2)
         (try rw [show ((0 : Int)).toNat = 0 from rfl] at hx339_3)
         (try rw [show 0 * 4 = 0 from rfl] at hx339_3)
         (try rw [Addr.add_zero'] at hx339_3)
         replace p339 := eq_true p339
         replace q339 := eq_true q339
         go_wp2
         repeat (go_quiet (fail); try go_wp2)
         go_ret
         exact ⟨by first | rfl | (simp [errW_none, errW_some] <;> rfl) | (simp [*, errW_none, errW_some] <;> rfl), Yr HB⟩
        ·
         rw [if_neg c130] at H
         exact absurd H (by simp)
       ·
        replace c129 := Bool.eq_false_iff.mpr c129
        subst c129
        have H1 : (some false) = some r := by rw [if_neg (show ¬ (false = true) by decide)] at H; exact H
        clear H
        have H := H1
        clear H1
        exact absurd ((Option.some.inj H).trans HRT_.out) (by decide)

/-- THE ONE PURE STATEMENT of palinodelaw19_SagaOrder. -/
def palinodelaw19_SagaOrder.Pure : Prop := (∀ k_ r_, palinodelaw19_examples.f k_ = some r_ → r_ = true) ∧ ∀ (a0_0 : ByteArray) (l0_1 : List (S53)) (l1 : List Int) (a2 : Int), a0_0.size ≤ 140737488351232 → (l0_1.length ≤ maxLen ∧ l0_1.length * 16 ≤ 140737488351232 ∧ ∀ x_ ∈ l0_1, V53 x_) → (l1.length ≤ maxLen ∧ l1.length * 8 ≤ 140737488351232 ∧ ∀ x_ ∈ l1, (Lit.int .i64 x_).wf = true) → (Lit.int .i64 a2).wf = true → ∃ k, palinodelaw19_SagaOrder.f k a0_0 l0_1 l1 a2 = some true
theorem palinodelaw19_SagaOrder.walk (P : palinodelaw19_SagaOrder.Pure) (a0_0 : ByteArray) (A0_1 : Option Addr) (c0_1 : Nat) (l0_1 : List (S53)) (A1 : Option Addr) (c1 : Nat) (l1 : List Int) (a2 : Int) (w : World) (v0_0 : a0_0.size ≤ 140737488351232) (hr0_1 : Kd.C k53 w A0_1 l0_1.length l0_1) (hc0_1 : l0_1.length ≤ c0_1) (v0_1 : (l0_1.length ≤ maxLen ∧ l0_1.length * 16 ≤ 140737488351232 ∧ ∀ x_ ∈ l0_1, V53 x_)) (hr1 : Kd.C (Kd.int .i64) w A1 l1.length l1) (hc1 : l1.length ≤ c1) (v1 : (l1.length ≤ maxLen ∧ l1.length * 8 ≤ 140737488351232 ∧ ∀ x_ ∈ l1, (Lit.int .i64 x_).wf = true)) (v2 : (Lit.int .i64 a2).wf = true) :
  Calls Try.prog 5 #[.agg #[.string a0_0, .slice A0_1 l0_1.length c0_1], .slice A1 l1.length c1, .int .i64 a2] w fun e w' => e = .returned (.bool true) ∧ Below w.heap.size w w' := by
 obtain ⟨k, h⟩ := P.2 a0_0 l0_1 l1 a2 v0_0 v0_1 v1 v2
 refine (palinodelaw19_SagaOrder.calls k a0_0 A0_1 c0_1 l0_1 A1 c1 l1 a2 true w hr0_1 hc0_1 hr1 hc1 h ⟨P.1⟩).mono ?_
 rintro e w' ⟨rfl, hd⟩
 exact ⟨rfl, hd⟩

end Go.Proofs.Ytfhlpkcapohnoaa.Print
