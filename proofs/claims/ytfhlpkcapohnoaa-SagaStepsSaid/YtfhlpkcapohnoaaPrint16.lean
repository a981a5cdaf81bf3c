-- Printed out of the translation by a program of this session's own. Not trusted: Lean checks it.
import Derived.Test.YtfhlpkcapohnoaaPrint0
import Derived.Test.YtfhlpkcapohnoaaPrint3
import Derived.Test.YtfhlpkcapohnoaaPrint6
import Derived.Test.YtfhlpkcapohnoaaPrint7
namespace Go.Proofs.Ytfhlpkcapohnoaa.Print
open Go.RowKit Go.Proofs.YtfhlpkcapohnoaaW.PrintWords Go.Proofs.YtfhlpkcapohnoaaW.PrintLast Go.Proofs.YtfhlpkcapohnoaaX
set_option linter.unusedVariables false
set_option linter.unusedSimpArgs false

/-! ### palinodelaw19_SagaSteps: function 7 -/
mutual
def palinodelaw19_SagaSteps.j0 : Nat → Int → Bool → Bool → Bool → Bool → ByteArray → List (S53) → ByteArray → ByteArray → Int → Int → Int → Int → Bool → ByteArray → Int → Int → Int → ByteArray → ByteArray → Int → Int → Int → Int → Bool → Option (Bool)
 | 0, _, _, _, _, _, _, _, _, _, _, _, _, _, _, _, _, _, _, _, _, _, _, _, _, _ => none
 | k + 1, x2, x9, x11, x13, x51, x477000, x477001, x478000, x478001, x478002, x478003, x478004, x478005, x478006, x485000, x485001, x485002, x485003, x494000, x494001, x494002, x494003, x494004, x494005, x494006 => if x51 = true then (if x9 = true then (if x13 = true then (some x11) else (some true)) else (some false)) else (if 0 ≤ x478003 then (if x478003 < (x477001.length : Int) then (if x2 = 1 then (palinodelaw19_SagaSteps.j1 k x2 x9 (decide (x478004 < ((rd_T53 x477001 x478003).f0))) (x485002 == 1) x477000 x477001 x478000 x478001 x478002 x478003 x478004 x478005 x478006 x485000 x485001 x485002 x485003 x494000 x494001 x494002 x494003 x494004 x494005 x494006) else (palinodelaw19_SagaSteps.j1 k x2 x9 (decide (x478004 < ((rd_T53 x477001 x478003).f0))) false x477000 x477001 x478000 x478001 x478002 x478003 x478004 x478005 x478006 x485000 x485001 x485002 x485003 x494000 x494001 x494002 x494003 x494004 x494005 x494006)) else (none)) else (none))
def palinodelaw19_SagaSteps.j1 : Nat → Int → Bool → Bool → Bool → ByteArray → List (S53) → ByteArray → ByteArray → Int → Int → Int → Int → Bool → ByteArray → Int → Int → Int → ByteArray → ByteArray → Int → Int → Int → Int → Bool → Option (Bool)
 | 0, _, _, _, _, _, _, _, _, _, _, _, _, _, _, _, _, _, _, _, _, _, _, _, _ => none
 | k + 1, x2, x9, x14, x70, x477000, x477001, x478000, x478001, x478002, x478003, x478004, x478005, x478006, x485000, x485001, x485002, x485003, x494000, x494001, x494002, x494003, x494004, x494005, x494006 => if x70 = true then (if x9 = true then (if x494003 = (wrap64 (x478003 + 1)) then (if x494002 = 1 then (if x494003 < (x477001.length : Int) then (some true) else (if x494002 = 3 then (some (x494003 == (x477001.length : Int))) else (some false))) else (if x494002 = 3 then (some (x494003 == (x477001.length : Int))) else (some false))) else (some false)) else (some false)) else (if x2 = 1 then (palinodelaw19_SagaSteps.j2 k x9 x14 true x478000 x478001 x478002 x478003 x478004 x478005 x478006 x485000 x485001 x485002 x485003 x494000 x494001 x494002 x494003 x494004 x494005 x494006) else (if x2 = 2 then (palinodelaw19_SagaSteps.j2 k x9 x14 (x485002 == 1) x478000 x478001 x478002 x478003 x478004 x478005 x478006 x485000 x485001 x485002 x485003 x494000 x494001 x494002 x494003 x494004 x494005 x494006) else (palinodelaw19_SagaSteps.j2 k x9 x14 false x478000 x478001 x478002 x478003 x478004 x478005 x478006 x485000 x485001 x485002 x485003 x494000 x494001 x494002 x494003 x494004 x494005 x494006)))
def palinodelaw19_SagaSteps.j2 : Nat → Bool → Bool → Bool → ByteArray → ByteArray → Int → Int → Int → Int → Bool → ByteArray → Int → Int → Int → ByteArray → ByteArray → Int → Int → Int → Int → Bool → Option (Bool)
 | 0, _, _, _, _, _, _, _, _, _, _, _, _, _, _, _, _, _, _, _, _, _ => none
 | k + 1, x9, x14, x113, x478000, x478001, x478002, x478003, x478004, x478005, x478006, x485000, x485001, x485002, x485003, x494000, x494001, x494002, x494003, x494004, x494005, x494006 => if x113 = true then (if x9 = true then (if x478003 = 0 then (if x494002 = 4 then (some true) else (if x478003 > 0 then (if x494002 = 2 then (some (x494003 == (wrap64 (x478003 - 1)))) else (some false)) else (some false))) else (if x478003 > 0 then (if x494002 = 2 then (some (x494003 == (wrap64 (x478003 - 1)))) else (some false)) else (some false))) else (some false)) else (if x14 = true then (if x9 = true then (if x494002 = x478002 then (if x494003 = x478003 then (some (x494004 == (wrap64 (x478004 + 1)))) else (some false)) else (some false)) else (some false)) else (if x485002 = 1 then (if x9 = true then (if x494002 = 2 then (if x494003 = x478003 then (some (x494004 == 0)) else (some false)) else (some false)) else (some false)) else (if x9 = true then (if x494002 = 5 then (some (x494003 == x478003)) else (some false)) else (some false))))
end
def palinodelaw19_SagaSteps.f (k : Nat) (a0_0 : ByteArray) (l0_1 : List (S53)) (a1_0 : ByteArray) (a1_1 : ByteArray) (a1_2 : Int) (a1_3 : Int) (a1_4 : Int) (a1_5 : Int) (a1_6 : Bool) (a2 : Int) (a3 : Int) : Option (Bool) := (palinodelaw19_examples.f k).bind fun t478 => ((saga_Command.f a1_0 a1_1 a1_2 a1_3 a1_4 a1_5 a1_6).bind fun bt479 => ((saga_Reply.f k a0_0 l0_1 a1_0 a1_1 a1_2 a1_3 a1_4 a1_5 a1_6 bt479.2.1 bt479.2.2.1 a2 a3).bind fun bt485 => (if bt479.2.2.2.2 = true then (if bt485.2.2.2.2.2.2.2 = true then (if a1_3 < 0 then (palinodelaw19_SagaSteps.j0 k a2 t478 bt479.2.2.2.2 bt485.2.2.2.2.2.2.2 true a0_0 l0_1 a1_0 a1_1 a1_2 a1_3 a1_4 a1_5 a1_6 bt479.1 bt479.2.1 bt479.2.2.1 bt479.2.2.2.1 bt485.1 bt485.2.1 bt485.2.2.1 bt485.2.2.2.1 bt485.2.2.2.2.1 bt485.2.2.2.2.2.1 bt485.2.2.2.2.2.2.1) else (palinodelaw19_SagaSteps.j0 k a2 t478 bt479.2.2.2.2 bt485.2.2.2.2.2.2.2 (decide (a1_3 ≥ (l0_1.length : Int))) a0_0 l0_1 a1_0 a1_1 a1_2 a1_3 a1_4 a1_5 a1_6 bt479.1 bt479.2.1 bt479.2.2.1 bt479.2.2.2.1 bt485.1 bt485.2.1 bt485.2.2.1 bt485.2.2.2.1 bt485.2.2.2.2.1 bt485.2.2.2.2.2.1 bt485.2.2.2.2.2.2.1)) else (palinodelaw19_SagaSteps.j0 k a2 t478 bt479.2.2.2.2 bt485.2.2.2.2.2.2.2 true a0_0 l0_1 a1_0 a1_1 a1_2 a1_3 a1_4 a1_5 a1_6 bt479.1 bt479.2.1 bt479.2.2.1 bt479.2.2.2.1 bt485.1 bt485.2.1 bt485.2.2.1 bt485.2.2.2.1 bt485.2.2.2.2.1 bt485.2.2.2.2.2.1 bt485.2.2.2.2.2.2.1)) else (palinodelaw19_SagaSteps.j0 k a2 t478 bt479.2.2.2.2 bt485.2.2.2.2.2.2.2 true a0_0 l0_1 a1_0 a1_1 a1_2 a1_3 a1_4 a1_5 a1_6 bt479.1 bt479.2.1 bt479.2.2.1 bt479.2.2.2.1 bt485.1 bt485.2.1 bt485.2.2.1 bt485.2.2.2.1 bt485.2.2.2.2.1 bt485.2.2.2.2.2.1 bt485.2.2.2.2.2.2.1))))
theorem palinodelaw19_SagaSteps.mono_l : ∀ k, (∀ y0 y1 y2 y3 y4 y5 y6 y7 y8 y9 y10 y11 y12 y13 y14 y15 y16 y17 y18 y19 y20 y21 y22 y23 y24, LeO (palinodelaw19_SagaSteps.j0 k y0 y1 y2 y3 y4 y5 y6 y7 y8 y9 y10 y11 y12 y13 y14 y15 y16 y17 y18 y19 y20 y21 y22 y23 y24) (palinodelaw19_SagaSteps.j0 (k + 1) y0 y1 y2 y3 y4 y5 y6 y7 y8 y9 y10 y11 y12 y13 y14 y15 y16 y17 y18 y19 y20 y21 y22 y23 y24)) ∧ (∀ y0 y1 y2 y3 y4 y5 y6 y7 y8 y9 y10 y11 y12 y13 y14 y15 y16 y17 y18 y19 y20 y21 y22 y23, LeO (palinodelaw19_SagaSteps.j1 k y0 y1 y2 y3 y4 y5 y6 y7 y8 y9 y10 y11 y12 y13 y14 y15 y16 y17 y18 y19 y20 y21 y22 y23) (palinodelaw19_SagaSteps.j1 (k + 1) y0 y1 y2 y3 y4 y5 y6 y7 y8 y9 y10 y11 y12 y13 y14 y15 y16 y17 y18 y19 y20 y21 y22 y23)) ∧ (∀ y0 y1 y2 y3 y4 y5 y6 y7 y8 y9 y10 y11 y12 y13 y14 y15 y16 y17 y18 y19 y20, LeO (palinodelaw19_SagaSteps.j2 k y0 y1 y2 y3 y4 y5 y6 y7 y8 y9 y10 y11 y12 y13 y14 y15 y16 y17 y18 y19 y20) (palinodelaw19_SagaSteps.j2 (k + 1) y0 y1 y2 y3 y4 y5 y6 y7 y8 y9 y10 y11 y12 y13 y14 y15 y16 y17 y18 y19 y20))
 | 0 => ⟨fun _ _ _ _ _ _ _ _ _ _ _ _ _ _ _ _ _ _ _ _ _ _ _ _ _ r h => by simp [palinodelaw19_SagaSteps.j0] at h, fun _ _ _ _ _ _ _ _ _ _ _ _ _ _ _ _ _ _ _ _ _ _ _ _ r h => by simp [palinodelaw19_SagaSteps.j1] at h, fun _ _ _ _ _ _ _ _ _ _ _ _ _ _ _ _ _ _ _ _ _ r h => by simp [palinodelaw19_SagaSteps.j2] at h⟩
 | k + 1 => by
  obtain ⟨ih0, ih1, ih2⟩ := palinodelaw19_SagaSteps.mono_l k
  refine ⟨?_, ?_, ?_⟩
  ·
   intro y0 y1 y2 y3 y4 y5 y6 y7 y8 y9 y10 y11 y12 y13 y14 y15 y16 y17 y18 y19 y20 y21 y22 y23 y24
   unfold palinodelaw19_SagaSteps.j0
   repeat' first
   | (with_reducible exact ih0 _ _ _ _ _ _ _ _ _ _ _ _ _ _ _ _ _ _ _ _ _ _ _ _ _)
   | (with_reducible exact ih1 _ _ _ _ _ _ _ _ _ _ _ _ _ _ _ _ _ _ _ _ _ _ _ _)
   | (with_reducible exact ih2 _ _ _ _ _ _ _ _ _ _ _ _ _ _ _ _ _ _ _ _ _)
   | (with_reducible exact palinodelaw19_examples.mono _)
   | (with_reducible exact saga_Reply.mono _ _ _ _ _ _ _ _ _ _ _ _ _ _)
   | (with_reducible exact LeO.refl _)
   | (with_reducible exact LeO.none _)
   | (with_reducible refine LeO.ite ?_ ?_)
   | (with_reducible refine LeO.bind ?_ (fun _ => ?_))
   | exact ih0 _ _ _ _ _ _ _ _ _ _ _ _ _ _ _ _ _ _ _ _ _ _ _ _ _
   | exact ih1 _ _ _ _ _ _ _ _ _ _ _ _ _ _ _ _ _ _ _ _ _ _ _ _
   | exact ih2 _ _ _ _ _ _ _ _ _ _ _ _ _ _ _ _ _ _ _ _ _
   | exact palinodelaw19_examples.mono _
   | exact saga_Reply.mono _ _ _ _ _ _ _ _ _ _ _ _ _ _
   | exact LeO.none _
   | refine LeO.ite ?_ ?_
   | refine LeO.bind ?_ (fun _ => ?_)
  ·
   intro y0 y1 y2 y3 y4 y5 y6 y7 y8 y9 y10 y11 y12 y13 y14 y15 y16 y17 y18 y19 y20 y21 y22 y23
   unfold palinodelaw19_SagaSteps.j1
   repeat' first
   | (with_reducible exact ih0 _ _ _ _ _ _ _ _ _ _ _ _ _ _ _ _ _ _ _ _ _ _ _ _ _)
   | (with_reducible exact ih1 _ _ _ _ _ _ _ _ _ _ _ _ _ _ _ _ _ _ _ _ _ _ _ _)
   | (with_reducible exact ih2 _ _ _ _ _ _ _ _ _ _ _ _ _ _ _ _ _ _ _ _ _)
   | (with_reducible exact palinodelaw19_examples.mono _)
   | (with_reducible exact saga_Reply.mono _ _ _ _ _ _ _ _ _ _ _ _ _ _)
   | (with_reducible exact LeO.refl _)
   | (with_reducible exact LeO.none _)
   | (with_reducible refine LeO.ite ?_ ?_)
   | (with_reducible refine LeO.bind ?_ (fun _ => ?_))
   | exact ih0 _ _ _ _ _ _ _ _ _ _ _ _ _ _ _ _ _ _ _ _ _ _ _ _ _
   | exact ih1 _ _ _ _ _ _ _ _ _ _ _ _ _ _ _ _ _ _ _ _ _ _ _ _
   | exact ih2 _ _ _ _ _ _ _ _ _ _ _ _ _ _ _ _ _ _ _ _ _
   | exact palinodelaw19_examples.mono _
   | exact saga_Reply.mono _ _ _ _ _ _ _ _ _ _ _ _ _ _
   | exact LeO.none _
   | refine LeO.ite ?_ ?_
   | refine LeO.bind ?_ (fun _ => ?_)
  ·
   intro y0 y1 y2 y3 y4 y5 y6 y7 y8 y9 y10 y11 y12 y13 y14 y15 y16 y17 y18 y19 y20
   unfold palinodelaw19_SagaSteps.j2
   repeat' first
   | (with_reducible exact ih0 _ _ _ _ _ _ _ _ _ _ _ _ _ _ _ _ _ _ _ _ _ _ _ _ _)
   | (with_reducible exact ih1 _ _ _ _ _ _ _ _ _ _ _ _ _ _ _ _ _ _ _ _ _ _ _ _)
   | (with_reducible exact ih2 _ _ _ _ _ _ _ _ _ _ _ _ _ _ _ _ _ _ _ _ _)
   | (with_reducible exact palinodelaw19_examples.mono _)
   | (with_reducible exact saga_Reply.mono _ _ _ _ _ _ _ _ _ _ _ _ _ _)
   | (with_reducible exact LeO.refl _)
   | (with_reducible exact LeO.none _)
   | (with_reducible refine LeO.ite ?_ ?_)
   | (with_reducible refine LeO.bind ?_ (fun _ => ?_))
   | exact ih0 _ _ _ _ _ _ _ _ _ _ _ _ _ _ _ _ _ _ _ _ _ _ _ _ _
   | exact ih1 _ _ _ _ _ _ _ _ _ _ _ _ _ _ _ _ _ _ _ _ _ _ _ _
   | exact ih2 _ _ _ _ _ _ _ _ _ _ _ _ _ _ _ _ _ _ _ _ _
   | exact palinodelaw19_examples.mono _
   | exact saga_Reply.mono _ _ _ _ _ _ _ _ _ _ _ _ _ _
   | exact LeO.none _
   | refine LeO.ite ?_ ?_
   | refine LeO.bind ?_ (fun _ => ?_)
theorem palinodelaw19_SagaSteps.mono : ∀ a0 a1 a2 a3 a4 a5 a6 a7 a8 a9 a10 k, LeO (palinodelaw19_SagaSteps.f k a0 a1 a2 a3 a4 a5 a6 a7 a8 a9 a10) (palinodelaw19_SagaSteps.f (k + 1) a0 a1 a2 a3 a4 a5 a6 a7 a8 a9 a10) := by
 intro a0 a1 a2 a3 a4 a5 a6 a7 a8 a9 a10 k
 obtain ⟨ih0, ih1, ih2⟩ := palinodelaw19_SagaSteps.mono_l k
 unfold palinodelaw19_SagaSteps.f
 repeat' first
   | (with_reducible exact ih0 _ _ _ _ _ _ _ _ _ _ _ _ _ _ _ _ _ _ _ _ _ _ _ _ _)
   | (with_reducible exact ih1 _ _ _ _ _ _ _ _ _ _ _ _ _ _ _ _ _ _ _ _ _ _ _ _)
   | (with_reducible exact ih2 _ _ _ _ _ _ _ _ _ _ _ _ _ _ _ _ _ _ _ _ _)
   | (with_reducible exact palinodelaw19_examples.mono _)
   | (with_reducible exact saga_Reply.mono _ _ _ _ _ _ _ _ _ _ _ _ _ _)
   | (with_reducible exact LeO.refl _)
   | (with_reducible exact LeO.none _)
   | (with_reducible refine LeO.ite ?_ ?_)
   | (with_reducible refine LeO.bind ?_ (fun _ => ?_))
   | exact ih0 _ _ _ _ _ _ _ _ _ _ _ _ _ _ _ _ _ _ _ _ _ _ _ _ _
   | exact ih1 _ _ _ _ _ _ _ _ _ _ _ _ _ _ _ _ _ _ _ _ _ _ _ _
   | exact ih2 _ _ _ _ _ _ _ _ _ _ _ _ _ _ _ _ _ _ _ _ _
   | exact palinodelaw19_examples.mono _
   | exact saga_Reply.mono _ _ _ _ _ _ _ _ _ _ _ _ _ _
   | exact LeO.none _
   | refine LeO.ite ?_ ?_
   | refine LeO.bind ?_ (fun _ => ?_)
set_option maxHeartbeats 8000000 in
set_option maxRecDepth 100000 in
theorem palinodelaw19_SagaSteps.calls (k : Nat) (a0_0 : ByteArray) (A0_1 : Option Addr) (c0_1 : Nat) (l0_1 : List (S53)) (a1_0 : ByteArray) (a1_1 : ByteArray) (a1_2 : Int) (a1_3 : Int) (a1_4 : Int) (a1_5 : Int) (a1_6 : Bool) (a2 : Int) (a3 : Int) (r : Bool) (w : World) (hr0_1 : Kd.C k53 w A0_1 l0_1.length l0_1) (hc0_1 : l0_1.length ≤ c0_1) (h : palinodelaw19_SagaSteps.f k a0_0 l0_1 a1_0 a1_1 a1_2 a1_3 a1_4 a1_5 a1_6 a2 a3 = some r) (HEX_ : Aside0 (∀ k_ r_, palinodelaw19_examples.f k_ = some r_ → r_ = true)) (HRT_ : Aside0 (r = true) := by first | exact ⟨rfl⟩ | assumption) :
  Calls Try.prog 7 #[.agg #[.string a0_0, .slice A0_1 l0_1.length c0_1], .agg #[.string a1_0, .string a1_1, .int .i64 a1_2, .int .i64 a1_3, .int .i64 a1_4, .int .i64 a1_5, .bool a1_6], .int .i64 a2, .int .i64 a3] w fun e w' => e = .returned (.bool r) ∧ Below w.heap.size w w' := by
 have hu24 := Try.underlying24
 have hu26 := Try.underlying26
 have hu35 := Try.underlying35
 have HR0_1 := Aside0.mk hr0_1
 have HC0_1 := Aside0.mk hc0_1
 clear hr0_1 hc0_1
 have HB := Aside0.mk (Below.refl w.heap.size w)
 have H : ((palinodelaw19_examples.f k).bind fun t478 => ((saga_Command.f a1_0 a1_1 a1_2 a1_3 a1_4 a1_5 a1_6).bind fun bt479 => ((saga_Reply.f k a0_0 l0_1 a1_0 a1_1 a1_2 a1_3 a1_4 a1_5 a1_6 bt479.2.1 bt479.2.2.1 a2 a3).bind fun bt485 => (if bt479.2.2.2.2 = true then (if bt485.2.2.2.2.2.2.2 = true then (if a1_3 < 0 then (palinodelaw19_SagaSteps.j0 k a2 t478 bt479.2.2.2.2 bt485.2.2.2.2.2.2.2 true a0_0 l0_1 a1_0 a1_1 a1_2 a1_3 a1_4 a1_5 a1_6 bt479.1 bt479.2.1 bt479.2.2.1 bt479.2.2.2.1 bt485.1 bt485.2.1 bt485.2.2.1 bt485.2.2.2.1 bt485.2.2.2.2.1 bt485.2.2.2.2.2.1 bt485.2.2.2.2.2.2.1) else (palinodelaw19_SagaSteps.j0 k a2 t478 bt479.2.2.2.2 bt485.2.2.2.2.2.2.2 (decide (a1_3 ≥ (l0_1.length : Int))) a0_0 l0_1 a1_0 a1_1 a1_2 a1_3 a1_4 a1_5 a1_6 bt479.1 bt479.2.1 bt479.2.2.1 bt479.2.2.2.1 bt485.1 bt485.2.1 bt485.2.2.1 bt485.2.2.2.1 bt485.2.2.2.2.1 bt485.2.2.2.2.2.1 bt485.2.2.2.2.2.2.1)) else (palinodelaw19_SagaSteps.j0 k a2 t478 bt479.2.2.2.2 bt485.2.2.2.2.2.2.2 true a0_0 l0_1 a1_0 a1_1 a1_2 a1_3 a1_4 a1_5 a1_6 bt479.1 bt479.2.1 bt479.2.2.1 bt479.2.2.2.1 bt485.1 bt485.2.1 bt485.2.2.1 bt485.2.2.2.1 bt485.2.2.2.2.1 bt485.2.2.2.2.2.1 bt485.2.2.2.2.2.2.1)) else (palinodelaw19_SagaSteps.j0 k a2 t478 bt479.2.2.2.2 bt485.2.2.2.2.2.2.2 true a0_0 l0_1 a1_0 a1_1 a1_2 a1_3 a1_4 a1_5 a1_6 bt479.1 bt479.2.1 bt479.2.2.1 bt479.2.2.2.1 bt485.1 bt485.2.1 bt485.2.2.1 bt485.2.2.2.1 bt485.2.2.2.2.1 bt485.2.2.2.2.2.1 bt485.2.2.2.2.2.2.1))))) = some r := h
 clear h
 replace H := Option.bind_eq_some_iff.mp H
 obtain ⟨t478, A50, H⟩ := H
 replace H : ((saga_Command.f a1_0 a1_1 a1_2 a1_3 a1_4 a1_5 a1_6).bind fun bt479 => ((saga_Reply.f k a0_0 l0_1 a1_0 a1_1 a1_2 a1_3 a1_4 a1_5 a1_6 bt479.2.1 bt479.2.2.1 a2 a3).bind fun bt485 => (if bt479.2.2.2.2 = true then (if bt485.2.2.2.2.2.2.2 = true then (if a1_3 < 0 then (palinodelaw19_SagaSteps.j0 k a2 t478 bt479.2.2.2.2 bt485.2.2.2.2.2.2.2 true a0_0 l0_1 a1_0 a1_1 a1_2 a1_3 a1_4 a1_5 a1_6 bt479.1 bt479.2.1 bt479.2.2.1 bt479.2.2.2.1 bt485.1 bt485.2.1 bt485.2.2.1 bt485.2.2.2.1 bt485.2.2.2.2.1 bt485.2.2.2.2.2.1 bt485.2.2.2.2.2.2.1) else (palinodelaw19_SagaSteps.j0 k a2 t478 bt479.2.2.2.2 bt485.2.2.2.2.2.2.2 (decide (a1_3 ≥ (l0_1.length : Int))) a0_0 l0_1 a1_0 a1_1 a1_2 a1_3 a1_4 a1_5 a1_6 bt479.1 bt479.2.1 bt479.2.2.1 bt479.2.2.2.1 bt485.1 bt485.2.1 bt485.2.2.1 bt485.2.2.2.1 bt485.2.2.2.2.1 bt485.2.2.2.2.2.1 bt485.2.2.2.2.2.2.1)) else (palinodelaw19_SagaSteps.j0 k a2 t478 bt479.2.2.2.2 bt485.2.2.2.2.2.2.2 true a0_0 l0_1 a1_0 a1_1 a1_2 a1_3 a1_4 a1_5 a1_6 bt479.1 bt479.2.1 bt479.2.2.1 bt479.2.2.2.1 bt485.1 bt485.2.1 bt485.2.2.1 bt485.2.2.2.1 bt485.2.2.2.2.1 bt485.2.2.2.2.2.1 bt485.2.2.2.2.2.2.1)) else (palinodelaw19_SagaSteps.j0 k a2 t478 bt479.2.2.2.2 bt485.2.2.2.2.2.2.2 true a0_0 l0_1 a1_0 a1_1 a1_2 a1_3 a1_4 a1_5 a1_6 bt479.1 bt479.2.1 bt479.2.2.1 bt479.2.2.2.1 bt485.1 bt485.2.1 bt485.2.2.1 bt485.2.2.2.1 bt485.2.2.2.2.1 bt485.2.2.2.2.2.1 bt485.2.2.2.2.2.2.1)))) = some r := H
 have A5 := Aside0.mk A50
 have HTA5_ : Aside0 (t478 = true) := ⟨HEX_.out _ _ A50⟩
 clear A50
 replace H := Option.bind_eq_some_iff.mp H
 obtain ⟨⟨t479, t480, t481, t482, t483⟩, A60, H⟩ := H
 replace H : ((saga_Reply.f k a0_0 l0_1 a1_0 a1_1 a1_2 a1_3 a1_4 a1_5 a1_6 t480 t481 a2 a3).bind fun bt485 => (if t483 = true then (if bt485.2.2.2.2.2.2.2 = true then (if a1_3 < 0 then (palinodelaw19_SagaSteps.j0 k a2 t478 t483 bt485.2.2.2.2.2.2.2 true a0_0 l0_1 a1_0 a1_1 a1_2 a1_3 a1_4 a1_5 a1_6 t479 t480 t481 t482 bt485.1 bt485.2.1 bt485.2.2.1 bt485.2.2.2.1 bt485.2.2.2.2.1 bt485.2.2.2.2.2.1 bt485.2.2.2.2.2.2.1) else (palinodelaw19_SagaSteps.j0 k a2 t478 t483 bt485.2.2.2.2.2.2.2 (decide (a1_3 ≥ (l0_1.length : Int))) a0_0 l0_1 a1_0 a1_1 a1_2 a1_3 a1_4 a1_5 a1_6 t479 t480 t481 t482 bt485.1 bt485.2.1 bt485.2.2.1 bt485.2.2.2.1 bt485.2.2.2.2.1 bt485.2.2.2.2.2.1 bt485.2.2.2.2.2.2.1)) else (palinodelaw19_SagaSteps.j0 k a2 t478 t483 bt485.2.2.2.2.2.2.2 true a0_0 l0_1 a1_0 a1_1 a1_2 a1_3 a1_4 a1_5 a1_6 t479 t480 t481 t482 bt485.1 bt485.2.1 bt485.2.2.1 bt485.2.2.2.1 bt485.2.2.2.2.1 bt485.2.2.2.2.2.1 bt485.2.2.2.2.2.2.1)) else (palinodelaw19_SagaSteps.j0 k a2 t478 t483 bt485.2.2.2.2.2.2.2 true a0_0 l0_1 a1_0 a1_1 a1_2 a1_3 a1_4 a1_5 a1_6 t479 t480 t481 t482 bt485.1 bt485.2.1 bt485.2.2.1 bt485.2.2.2.1 bt485.2.2.2.2.1 bt485.2.2.2.2.2.1 bt485.2.2.2.2.2.2.1))) = some r := H
 have A6 := Aside0.mk A60
 clear A60
 replace H := Option.bind_eq_some_iff.mp H
 obtain ⟨⟨t485, t486, t487, t488, t489, t490, t491, t492⟩, A70, H⟩ := H
 replace H : (if t483 = true then (if t492 = true then (if a1_3 < 0 then (palinodelaw19_SagaSteps.j0 k a2 t478 t483 t492 true a0_0 l0_1 a1_0 a1_1 a1_2 a1_3 a1_4 a1_5 a1_6 t479 t480 t481 t482 t485 t486 t487 t488 t489 t490 t491) else (palinodelaw19_SagaSteps.j0 k a2 t478 t483 t492 (decide (a1_3 ≥ (l0_1.length : Int))) a0_0 l0_1 a1_0 a1_1 a1_2 a1_3 a1_4 a1_5 a1_6 t479 t480 t481 t482 t485 t486 t487 t488 t489 t490 t491)) else (palinodelaw19_SagaSteps.j0 k a2 t478 t483 t492 true a0_0 l0_1 a1_0 a1_1 a1_2 a1_3 a1_4 a1_5 a1_6 t479 t480 t481 t482 t485 t486 t487 t488 t489 t490 t491)) else (palinodelaw19_SagaSteps.j0 k a2 t478 t483 t492 true a0_0 l0_1 a1_0 a1_1 a1_2 a1_3 a1_4 a1_5 a1_6 t479 t480 t481 t482 t485 t486 t487 t488 t489 t490 t491)) = some r := H
 have A7 := Aside0.mk A70
 clear A70
 have HC8 := Aside0.mk H
 clear H
 go_enter Try.func7, Try.ntmps7
 go_upto_region 4 with (first | ((with_reducible refine gate_dst (N := 4) rfl ?_); (try (refine gate_guard (by rfl) ?_; dsimp only)); refine box_event ?hg (N := 4) ?hd (cs := #[.string a0_0, .slice A0_1 l0_1.length c0_1]) (t := 24) ?hr ?_; (case hd => rfl); (case hg => rfl); (case hr => first | (go_simp; done) | (go_simp; rfl)); intro gb476 hg w9 hbox hb; have n0_ := Aside0.mk (Yv HB hb); have n1_ := Aside0.mk (hbox); have n2_ := Aside0.mk ((by rw [hg]; exact (below_size (Yr HB)) : w.heap.size ≤ gb476)); have n3_ := Aside0.mk ((by rw [hg]; exact (below_size (Yr HB)) : w.heap.size ≤ gb476)); clear HB; have HB := n0_; have BK476 := n1_; have GW476 := n2_; have GE476 := n3_; clear n0_ n1_ n2_ n3_; clear hb hbox hg) | ((with_reducible refine gate_dst (N := 5) rfl ?_); (try (refine gate_guard (by rfl) ?_; dsimp only)); refine box_event ?hg (N := 5) ?hd (cs := #[.string a1_0, .string a1_1, .int .i64 a1_2, .int .i64 a1_3, .int .i64 a1_4, .int .i64 a1_5, .bool a1_6]) (t := 26) ?hr ?_; (case hd => rfl); (case hg => rfl); (case hr => first | (go_simp; done) | (go_simp; rfl)); intro gb477 hg w10 hbox hb; have n0_ := Aside0.mk (Zv BK476 hb); have n1_ := Aside0.mk (Yv HB hb); have n2_ := Aside0.mk (hbox); have n3_ := Aside0.mk ((by rw [hg]; exact (below_size (Yr HB)) : w.heap.size ≤ gb477)); have n4_ := Aside0.mk ((by rw [hg]; exact (below_size (Yr HB)) : w.heap.size ≤ gb477)); have n5_ := Aside0.mk ((by rw [hg]; exact Nat.ne_of_lt (blk_lt (g := gb476) (o := .cells #[.string a0_0, .slice A0_1 l0_1.length c0_1] 24 (0, 0)) (Zr BK476)) : gb476 ≠ gb477)); have n6_ := Aside0.mk ((by rw [hg]; exact Nat.ne_of_gt (blk_lt (g := gb476) (o := .cells #[.string a0_0, .slice A0_1 l0_1.length c0_1] 24 (0, 0)) (Zr BK476)) : gb477 ≠ gb476)); clear BK476; clear HB; have BK476 := n0_; have HB := n1_; have BK477 := n2_; have GW477 := n3_; have GE477 := n4_; have NB476_477 := n5_; have NB477_476 := n6_; clear n0_ n1_ n2_ n3_ n4_ n5_ n6_; clear hb hbox hg) | (go_at_call 13; (with_reducible refine (palinodelaw19_examples.calls k  t478 _ A5.out).mono ?_); rintro e w11 ⟨rfl, hb⟩; have n0_ := Aside0.mk (Zv BK476 hb); have n1_ := Aside0.mk (Zv BK477 hb); have n2_ := Aside0.mk (Yv HB hb); clear BK476; clear BK477; clear HB; have BK476 := n0_; have BK477 := n1_; have HB := n2_; clear n0_ n1_ n2_; (try clear hb); (try clear hb2); (try clear hk); (try clear hi); have hnb12 := NB477_476.out; have hnc12 := NB476_477.out; obtain ⟨⟨hcz13_0, hcz13_1, hcz13_2, hcz13_3, hcz13_4, hcz13_5, hcz13_6⟩, hfz13_0, hfz13_1, hfz13_2, hfz13_3, hfz13_4, hfz13_5, hfz13_6⟩ := Zk7 BK477) | (go_at_call 16; (with_reducible refine (saga_Command.calls a1_0 a1_1 a1_2 a1_3 a1_4 a1_5 a1_6 t479 t480 t481 t482 t483 _ A6.out).mono ?_); rintro e w14 ⟨rfl, hb⟩; have n0_ := Aside0.mk (Zv BK476 hb); have n1_ := Aside0.mk (Zv BK477 hb); have n2_ := Aside0.mk (Yv HB hb); clear BK476; clear BK477; clear HB; have BK476 := n0_; have BK477 := n1_; have HB := n2_; clear n0_ n1_ n2_; (try clear hb); (try clear hb2); (try clear hk); (try clear hi)) | ((with_reducible refine gate_dst (N := 10) rfl ?_); (try (refine gate_guard (by rfl) ?_; dsimp only)); refine box_event ?hg (N := 10) ?hd (cs := #[.string (⟨#[]⟩ : ByteArray), .int .i64 0, .int .i64 0, .int .i64 0]) (t := 35) ?hr ?_; (case hd => rfl); (case hg => rfl); (case hr => first | (go_simp; done) | (go_simp; rfl)); intro gb484 hg w15 hbox hb; have n0_ := Aside0.mk (Zv BK476 hb); have n1_ := Aside0.mk (Zv BK477 hb); have n2_ := Aside0.mk (Yv HB hb); have n3_ := Aside0.mk (hbox); have n4_ := Aside0.mk ((by rw [hg]; exact (below_size (Yr HB)) : w.heap.size ≤ gb484)); have n5_ := Aside0.mk ((by rw [hg]; exact (below_size (Yr HB)) : w.heap.size ≤ gb484)); have n6_ := Aside0.mk ((by rw [hg]; exact Nat.ne_of_lt (blk_lt (g := gb476) (o := .cells #[.string a0_0, .slice A0_1 l0_1.length c0_1] 24 (0, 0)) (Zr BK476)) : gb476 ≠ gb484)); have n7_ := Aside0.mk ((by rw [hg]; exact Nat.ne_of_gt (blk_lt (g := gb476) (o := .cells #[.string a0_0, .slice A0_1 l0_1.length c0_1] 24 (0, 0)) (Zr BK476)) : gb484 ≠ gb476)); have n8_ := Aside0.mk ((by rw [hg]; exact Nat.ne_of_lt (blk_lt (g := gb477) (o := .cells #[.string a1_0, .string a1_1, .int .i64 a1_2, .int .i64 a1_3, .int .i64 a1_4, .int .i64 a1_5, .bool a1_6] 26 (0, 0)) (Zr BK477)) : gb477 ≠ gb484)); have n9_ := Aside0.mk ((by rw [hg]; exact Nat.ne_of_gt (blk_lt (g := gb477) (o := .cells #[.string a1_0, .string a1_1, .int .i64 a1_2, .int .i64 a1_3, .int .i64 a1_4, .int .i64 a1_5, .bool a1_6] 26 (0, 0)) (Zr BK477)) : gb484 ≠ gb477)); clear BK476; clear BK477; clear HB; have BK476 := n0_; have BK477 := n1_; have HB := n2_; have BK484 := n3_; have GW484 := n4_; have GE484 := n5_; have NB476_484 := n6_; have NB484_476 := n7_; have NB477_484 := n8_; have NB484_477 := n9_; clear n0_ n1_ n2_ n3_ n4_ n5_ n6_ n7_ n8_ n9_; clear hb hbox hg; have hnb16 := NB484_476.out; have hnc16 := NB476_484.out; have hnb17 := NB484_477.out; have hnc17 := NB477_484.out; obtain ⟨⟨hcz18_0, hcz18_1, hcz18_2, hcz18_3⟩, hfz18_0, hfz18_1, hfz18_2, hfz18_3⟩ := Zk4 BK484; obtain ⟨⟨hcz19_0, hcz19_1⟩, hfz19_0, hfz19_1⟩ := Zk2 BK476; obtain ⟨⟨hcz20_0, hcz20_1, hcz20_2, hcz20_3, hcz20_4, hcz20_5, hcz20_6⟩, hfz20_0, hfz20_1, hfz20_2, hfz20_3, hfz20_4, hfz20_5, hfz20_6⟩ := Zk7 BK477) | (go_at_call 23; (with_reducible refine (saga_Reply.calls k a0_0 _ _ l0_1 a1_0 a1_1 a1_2 a1_3 a1_4 a1_5 a1_6 t480 t481 a2 a3 t485 t486 t487 t488 t489 t490 t491 t492 _ ?side1 ?side2 A7.out).mono ?_); (case side1 => exact Kd.C_below HR0_1.out (Yr HB)); (case side2 => exact HC0_1.out); rintro e w21 ⟨rfl, hb⟩; have n0_ := Aside0.mk (Zv BK476 hb); have n1_ := Aside0.mk (Zv BK477 hb); have n2_ := Aside0.mk (Zb (g := gb484) (o := .cells #[.string t479, .int .i64 t480, .int .i64 t481, .int .i64 t482] 35 (0, 0)) (by (with_reducible repeat (first | refine Zn ?_ _ | refine Zd ?_ | refine Za ?_ _)); refine Zp (cs := #[.string t479, .int .i64 t480, .int .i64 t481, .int .i64 0]) ?_ 3 _ rfl; (with_reducible repeat (first | refine Zn ?_ _ | refine Zd ?_ | refine Za ?_ _)); refine Zp (cs := #[.string t479, .int .i64 t480, .int .i64 0, .int .i64 0]) ?_ 2 _ rfl; (with_reducible repeat (first | refine Zn ?_ _ | refine Zd ?_ | refine Za ?_ _)); refine Zp (cs := #[.string t479, .int .i64 0, .int .i64 0, .int .i64 0]) ?_ 1 _ rfl; (with_reducible repeat (first | refine Zn ?_ _ | refine Zd ?_ | refine Za ?_ _)); refine Zp (cs := #[.string (⟨#[]⟩ : ByteArray), .int .i64 0, .int .i64 0, .int .i64 0]) ?_ 0 _ rfl; (with_reducible repeat (first | refine Zn ?_ _ | refine Zd ?_ | refine Za ?_ _)); exact BK484.out) hb); have n3_ := Aside0.mk (Yv HB hb); clear BK476; clear BK477; clear BK484; clear HB; have BK476 := n0_; have BK477 := n1_; have BK484 := n2_; have HB := n3_; clear n0_ n1_ n2_ n3_; (try clear hb); (try clear hb2); (try clear hk); (try clear hi)) | ((with_reducible refine gate_dst (N := 12) rfl ?_); (try (refine gate_guard (by rfl) ?_; dsimp only)); refine box_event ?hg (N := 12) ?hd (cs := #[.string (⟨#[]⟩ : ByteArray), .string (⟨#[]⟩ : ByteArray), .int .i64 0, .int .i64 0, .int .i64 0, .int .i64 0, .bool false]) (t := 26) ?hr ?_; (case hd => rfl); (case hg => rfl); (case hr => first | (go_simp; done) | (go_simp; rfl)); intro gb493 hg w22 hbox hb; have n0_ := Aside0.mk (Zv BK476 hb); have n1_ := Aside0.mk (Zv BK477 hb); have n2_ := Aside0.mk (Zv BK484 hb); have n3_ := Aside0.mk (Yv HB hb); have n4_ := Aside0.mk (hbox); have n5_ := Aside0.mk ((by rw [hg]; exact (below_size (Yr HB)) : w.heap.size ≤ gb493)); have n6_ := Aside0.mk ((by rw [hg]; exact (below_size (Yr HB)) : w.heap.size ≤ gb493)); have n7_ := Aside0.mk ((by rw [hg]; exact Nat.ne_of_lt (blk_lt (g := gb476) (o := .cells #[.string a0_0, .slice A0_1 l0_1.length c0_1] 24 (0, 0)) (Zr BK476)) : gb476 ≠ gb493)); have n8_ := Aside0.mk ((by rw [hg]; exact Nat.ne_of_gt (blk_lt (g := gb476) (o := .cells #[.string a0_0, .slice A0_1 l0_1.length c0_1] 24 (0, 0)) (Zr BK476)) : gb493 ≠ gb476)); have n9_ := Aside0.mk ((by rw [hg]; exact Nat.ne_of_lt (blk_lt (g := gb477) (o := .cells #[.string a1_0, .string a1_1, .int .i64 a1_2, .int .i64 a1_3, .int .i64 a1_4, .int .i64 a1_5, .bool a1_6] 26 (0, 0)) (Zr BK477)) : gb477 ≠ gb493)); have n10_ := Aside0.mk ((by rw [hg]; exact Nat.ne_of_gt (blk_lt (g := gb477) (o := .cells #[.string a1_0, .string a1_1, .int .i64 a1_2, .int .i64 a1_3, .int .i64 a1_4, .int .i64 a1_5, .bool a1_6] 26 (0, 0)) (Zr BK477)) : gb493 ≠ gb477)); have n11_ := Aside0.mk ((by rw [hg]; exact Nat.ne_of_lt (blk_lt (g := gb484) (o := .cells #[.string t479, .int .i64 t480, .int .i64 t481, .int .i64 t482] 35 (0, 0)) (Zr BK484)) : gb484 ≠ gb493)); have n12_ := Aside0.mk ((by rw [hg]; exact Nat.ne_of_gt (blk_lt (g := gb484) (o := .cells #[.string t479, .int .i64 t480, .int .i64 t481, .int .i64 t482] 35 (0, 0)) (Zr BK484)) : gb493 ≠ gb484)); clear BK476; clear BK477; clear BK484; clear HB; have BK476 := n0_; have BK477 := n1_; have BK484 := n2_; have HB := n3_; have BK493 := n4_; have GW493 := n5_; have GE493 := n6_; have NB476_493 := n7_; have NB493_476 := n8_; have NB477_493 := n9_; have NB493_477 := n10_; have NB484_493 := n11_; have NB493_484 := n12_; clear n0_ n1_ n2_ n3_ n4_ n5_ n6_ n7_ n8_ n9_ n10_ n11_ n12_; clear hb hbox hg; have hnb23 := NB493_476.out; have hnc23 := NB476_493.out; have hnb24 := NB493_477.out; have hnc24 := NB477_493.out; have hnb25 := NB493_484.out; have hnc25 := NB484_493.out; obtain ⟨⟨hcz26_0, hcz26_1, hcz26_2, hcz26_3, hcz26_4, hcz26_5, hcz26_6⟩, hfz26_0, hfz26_1, hfz26_2, hfz26_3, hfz26_4, hfz26_5, hfz26_6⟩ := Zk7 BK493))
 repeat (go_quiet (first | ((with_reducible refine gate_dst (N := 4) rfl ?_); (try (refine gate_guard (by rfl) ?_; dsimp only)); refine box_event ?hg (N := 4) ?hd (cs := #[.string a0_0, .slice A0_1 l0_1.length c0_1]) (t := 24) ?hr ?_; (case hd => rfl); (case hg => rfl); (case hr => first | (go_simp; done) | (go_simp; rfl)); intro gb476 hg w9 hbox hb; have n0_ := Aside0.mk (Yv HB hb); have n1_ := Aside0.mk (hbox); have n2_ := Aside0.mk ((by rw [hg]; exact (below_size (Yr HB)) : w.heap.size ≤ gb476)); have n3_ := Aside0.mk ((by rw [hg]; exact (below_size (Yr HB)) : w.heap.size ≤ gb476)); clear HB; have HB := n0_; have BK476 := n1_; have GW476 := n2_; have GE476 := n3_; clear n0_ n1_ n2_ n3_; clear hb hbox hg) | ((with_reducible refine gate_dst (N := 5) rfl ?_); (try (refine gate_guard (by rfl) ?_; dsimp only)); refine box_event ?hg (N := 5) ?hd (cs := #[.string a1_0, .string a1_1, .int .i64 a1_2, .int .i64 a1_3, .int .i64 a1_4, .int .i64 a1_5, .bool a1_6]) (t := 26) ?hr ?_; (case hd => rfl); (case hg => rfl); (case hr => first | (go_simp; done) | (go_simp; rfl)); intro gb477 hg w10 hbox hb; have n0_ := Aside0.mk (Zv BK476 hb); have n1_ := Aside0.mk (Yv HB hb); have n2_ := Aside0.mk (hbox); have n3_ := Aside0.mk ((by rw [hg]; exact (below_size (Yr HB)) : w.heap.size ≤ gb477)); have n4_ := Aside0.mk ((by rw [hg]; exact (below_size (Yr HB)) : w.heap.size ≤ gb477)); have n5_ := Aside0.mk ((by rw [hg]; exact Nat.ne_of_lt (blk_lt (g := gb476) (o := .cells #[.string a0_0, .slice A0_1 l0_1.length c0_1] 24 (0, 0)) (Zr BK476)) : gb476 ≠ gb477)); have n6_ := Aside0.mk ((by rw [hg]; exact Nat.ne_of_gt (blk_lt (g := gb476) (o := .cells #[.string a0_0, .slice A0_1 l0_1.length c0_1] 24 (0, 0)) (Zr BK476)) : gb477 ≠ gb476)); clear BK476; clear HB; have BK476 := n0_; have HB := n1_; have BK477 := n2_; have GW477 := n3_; have GE477 := n4_; have NB476_477 := n5_; have NB477_476 := n6_; clear n0_ n1_ n2_ n3_ n4_ n5_ n6_; clear hb hbox hg) | (go_at_call 13; (with_reducible refine (palinodelaw19_examples.calls k  t478 _ A5.out).mono ?_); rintro e w11 ⟨rfl, hb⟩; have n0_ := Aside0.mk (Zv BK476 hb); have n1_ := Aside0.mk (Zv BK477 hb); have n2_ := Aside0.mk (Yv HB hb); clear BK476; clear BK477; clear HB; have BK476 := n0_; have BK477 := n1_; have HB := n2_; clear n0_ n1_ n2_; (try clear hb); (try clear hb2); (try clear hk); (try clear hi); have hnb12 := NB477_476.out; have hnc12 := NB476_477.out; obtain ⟨⟨hcz13_0, hcz13_1, hcz13_2, hcz13_3, hcz13_4, hcz13_5, hcz13_6⟩, hfz13_0, hfz13_1, hfz13_2, hfz13_3, hfz13_4, hfz13_5, hfz13_6⟩ := Zk7 BK477) | (go_at_call 16; (with_reducible refine (saga_Command.calls a1_0 a1_1 a1_2 a1_3 a1_4 a1_5 a1_6 t479 t480 t481 t482 t483 _ A6.out).mono ?_); rintro e w14 ⟨rfl, hb⟩; have n0_ := Aside0.mk (Zv BK476 hb); have n1_ := Aside0.mk (Zv BK477 hb); have n2_ := Aside0.mk (Yv HB hb); clear BK476; clear BK477; clear HB; have BK476 := n0_; have BK477 := n1_; have HB := n2_; clear n0_ n1_ n2_; (try clear hb); (try clear hb2); (try clear hk); (try clear hi)) | ((with_reducible refine gate_dst (N := 10) rfl ?_); (try (refine gate_guard (by rfl) ?_; dsimp only)); refine box_event ?hg (N := 10) ?hd (cs := #[.string (⟨#[]⟩ : ByteArray), .int .i64 0, .int .i64 0, .int .i64 0]) (t := 35) ?hr ?_; (case hd => rfl); (case hg => rfl); (case hr => first | (go_simp; done) | (go_simp; rfl)); intro gb484 hg w15 hbox hb; have n0_ := Aside0.mk (Zv BK476 hb); have n1_ := Aside0.mk (Zv BK477 hb); have n2_ := Aside0.mk (Yv HB hb); have n3_ := Aside0.mk (hbox); have n4_ := Aside0.mk ((by rw [hg]; exact (below_size (Yr HB)) : w.heap.size ≤ gb484)); have n5_ := Aside0.mk ((by rw [hg]; exact (below_size (Yr HB)) : w.heap.size ≤ gb484)); have n6_ := Aside0.mk ((by rw [hg]; exact Nat.ne_of_lt (blk_lt (g := gb476) (o := .cells #[.string a0_0, .slice A0_1 l0_1.length c0_1] 24 (0, 0)) (Zr BK476)) : gb476 ≠ gb484)); have n7_ := Aside0.mk ((by rw [hg]; exact Nat.ne_of_gt (blk_lt (g := gb476) (o := .cells #[.string a0_0, .slice A0_1 l0_1.length c0_1] 24 (0, 0)) (Zr BK476)) : gb484 ≠ gb476)); have n8_ := Aside0.mk ((by rw [hg]; exact Nat.ne_of_lt (blk_lt (g := gb477) (o := .cells #[.string a1_0, .string a1_1, .int .i64 a1_2, .int .i64 a1_3, .int .i64 a1_4, .int .i64 a1_5, .bool a1_6] 26 (0, 0)) (Zr BK477)) : gb477 ≠ gb484)); have n9_ := Aside0.mk ((by rw [hg]; exact Nat.ne_of_gt (blk_lt (g := gb477) (o := .cells #[.string a1_0, .string a1_1, .int .i64 a1_2, .int .i64 a1_3, .int .i64 a1_4, .int .i64 a1_5, .bool a1_6] 26 (0, 0)) (Zr BK477)) : gb484 ≠ gb477)); clear BK476; clear BK477; clear HB; have BK476 := n0_; have BK477 := n1_; have HB := n2_; have BK484 := n3_; have GW484 := n4_; have GE484 := n5_; have NB476_484 := n6_; have NB484_476 := n7_; have NB477_484 := n8_; have NB484_477 := n9_; clear n0_ n1_ n2_ n3_ n4_ n5_ n6_ n7_ n8_ n9_; clear hb hbox hg; have hnb16 := NB484_476.out; have hnc16 := NB476_484.out; have hnb17 := NB484_477.out; have hnc17 := NB477_484.out; obtain ⟨⟨hcz18_0, hcz18_1, hcz18_2, hcz18_3⟩, hfz18_0, hfz18_1, hfz18_2, hfz18_3⟩ := Zk4 BK484; obtain ⟨⟨hcz19_0, hcz19_1⟩, hfz19_0, hfz19_1⟩ := Zk2 BK476; obtain ⟨⟨hcz20_0, hcz20_1, hcz20_2, hcz20_3, hcz20_4, hcz20_5, hcz20_6⟩, hfz20_0, hfz20_1, hfz20_2, hfz20_3, hfz20_4, hfz20_5, hfz20_6⟩ := Zk7 BK477) | (go_at_call 23; (with_reducible refine (saga_Reply.calls k a0_0 _ _ l0_1 a1_0 a1_1 a1_2 a1_3 a1_4 a1_5 a1_6 t480 t481 a2 a3 t485 t486 t487 t488 t489 t490 t491 t492 _ ?side1 ?side2 A7.out).mono ?_); (case side1 => exact Kd.C_below HR0_1.out (Yr HB)); (case side2 => exact HC0_1.out); rintro e w21 ⟨rfl, hb⟩; have n0_ := Aside0.mk (Zv BK476 hb); have n1_ := Aside0.mk (Zv BK477 hb); have n2_ := Aside0.mk (Zb (g := gb484) (o := .cells #[.string t479, .int .i64 t480, .int .i64 t481, .int .i64 t482] 35 (0, 0)) (by (with_reducible repeat (first | refine Zn ?_ _ | refine Zd ?_ | refine Za ?_ _)); refine Zp (cs := #[.string t479, .int .i64 t480, .int .i64 t481, .int .i64 0]) ?_ 3 _ rfl; (with_reducible repeat (first | refine Zn ?_ _ | refine Zd ?_ | refine Za ?_ _)); refine Zp (cs := #[.string t479, .int .i64 t480, .int .i64 0, .int .i64 0]) ?_ 2 _ rfl; (with_reducible repeat (first | refine Zn ?_ _ | refine Zd ?_ | refine Za ?_ _)); refine Zp (cs := #[.string t479, .int .i64 0, .int .i64 0, .int .i64 0]) ?_ 1 _ rfl; (with_reducible repeat (first | refine Zn ?_ _ | refine Zd ?_ | refine Za ?_ _)); refine Zp (cs := #[.string (⟨#[]⟩ : ByteArray), .int .i64 0, .int .i64 0, .int .i64 0]) ?_ 0 _ rfl; (with_reducible repeat (first | refine Zn ?_ _ | refine Zd ?_ | refine Za ?_ _)); exact BK484.out) hb); have n3_ := Aside0.mk (Yv HB hb); clear BK476; clear BK477; clear BK484; clear HB; have BK476 := n0_; have BK477 := n1_; have BK484 := n2_; have HB := n3_; clear n0_ n1_ n2_ n3_; (try clear hb); (try clear hb2); (try clear hk); (try clear hi)) | ((with_reducible refine gate_dst (N := 12) rfl ?_); (try (refine gate_guard (by rfl) ?_; dsimp only)); refine box_event ?hg (N := 12) ?hd (cs := #[.string (⟨#[]⟩ : ByteArray), .string (⟨#[]⟩ : ByteArray), .int .i64 0, .int .i64 0, .int .i64 0, .int .i64 0, .bool false]) (t := 26) ?hr ?_; (case hd => rfl); (case hg => rfl); (case hr => first | (go_simp; done) | (go_simp; rfl)); intro gb493 hg w22 hbox hb; have n0_ := Aside0.mk (Zv BK476 hb); have n1_ := Aside0.mk (Zv BK477 hb); have n2_ := Aside0.mk (Zv BK484 hb); have n3_ := Aside0.mk (Yv HB hb); have n4_ := Aside0.mk (hbox); have n5_ := Aside0.mk ((by rw [hg]; exact (below_size (Yr HB)) : w.heap.size ≤ gb493)); have n6_ := Aside0.mk ((by rw [hg]; exact (below_size (Yr HB)) : w.heap.size ≤ gb493)); have n7_ := Aside0.mk ((by rw [hg]; exact Nat.ne_of_lt (blk_lt (g := gb476) (o := .cells #[.string a0_0, .slice A0_1 l0_1.length c0_1] 24 (0, 0)) (Zr BK476)) : gb476 ≠ gb493)); have n8_ := Aside0.mk ((by rw [hg]; exact Nat.ne_of_gt (blk_lt (g := gb476) (o := .cells #[.string a0_0, .slice A0_1 l0_1.length c0_1] 24 (0, 0)) (Zr BK476)) : gb493 ≠ gb476)); have n9_ := Aside0.mk ((by rw [hg]; exact Nat.ne_of_lt (blk_lt (g := gb477) (o := .cells #[.string a1_0, .string a1_1, .int .i64 a1_2, .int .i64 a1_3, .int .i64 a1_4, .int .i64 a1_5, .bool a1_6] 26 (0, 0)) (Zr BK477)) : gb477 ≠ gb493)); have n10_ := Aside0.mk ((by rw [hg]; exact Nat.ne_of_gt (blk_lt (g := gb477) (o := .cells #[.string a1_0, .string a1_1, .int .i64 a1_2, .int .i64 a1_3, .int .i64 a1_4, .int .i64 a1_5, .bool a1_6] 26 (0, 0)) (Zr BK477)) : gb493 ≠ gb477)); have n11_ := Aside0.mk ((by rw [hg]; exact Nat.ne_of_lt (blk_lt (g := gb484) (o := .cells #[.string t479, .int .i64 t480, .int .i64 t481, .int .i64 t482] 35 (0, 0)) (Zr BK484)) : gb484 ≠ gb493)); have n12_ := Aside0.mk ((by rw [hg]; exact Nat.ne_of_gt (blk_lt (g := gb484) (o := .cells #[.string t479, .int .i64 t480, .int .i64 t481, .int .i64 t482] 35 (0, 0)) (Zr BK484)) : gb493 ≠ gb484)); clear BK476; clear BK477; clear BK484; clear HB; have BK476 := n0_; have BK477 := n1_; have BK484 := n2_; have HB := n3_; have BK493 := n4_; have GW493 := n5_; have GE493 := n6_; have NB476_493 := n7_; have NB493_476 := n8_; have NB477_493 := n9_; have NB493_477 := n10_; have NB484_493 := n11_; have NB493_484 := n12_; clear n0_ n1_ n2_ n3_ n4_ n5_ n6_ n7_ n8_ n9_ n10_ n11_ n12_; clear hb hbox hg; have hnb23 := NB493_476.out; have hnc23 := NB476_493.out; have hnb24 := NB493_477.out; have hnc24 := NB477_493.out; have hnb25 := NB493_484.out; have hnc25 := NB484_493.out; obtain ⟨⟨hcz26_0, hcz26_1, hcz26_2, hcz26_3, hcz26_4, hcz26_5, hcz26_6⟩, hfz26_0, hfz26_1, hfz26_2, hfz26_3, hfz26_4, hfz26_5, hfz26_6⟩ := Zk7 BK493)); go_upto_region 4 with (first | ((with_reducible refine gate_dst (N := 4) rfl ?_); (try (refine gate_guard (by rfl) ?_; dsimp only)); refine box_event ?hg (N := 4) ?hd (cs := #[.string a0_0, .slice A0_1 l0_1.length c0_1]) (t := 24) ?hr ?_; (case hd => rfl); (case hg => rfl); (case hr => first | (go_simp; done) | (go_simp; rfl)); intro gb476 hg w9 hbox hb; have n0_ := Aside0.mk (Yv HB hb); have n1_ := Aside0.mk (hbox); have n2_ := Aside0.mk ((by rw [hg]; exact (below_size (Yr HB)) : w.heap.size ≤ gb476)); have n3_ := Aside0.mk ((by rw [hg]; exact (below_size (Yr HB)) : w.heap.size ≤ gb476)); clear HB; have HB := n0_; have BK476 := n1_; have GW476 := n2_; have GE476 := n3_; clear n0_ n1_ n2_ n3_; clear hb hbox hg) | ((with_reducible refine gate_dst (N := 5) rfl ?_); (try (refine gate_guard (by rfl) ?_; dsimp only)); refine box_event ?hg (N := 5) ?hd (cs := #[.string a1_0, .string a1_1, .int .i64 a1_2, .int .i64 a1_3, .int .i64 a1_4, .int .i64 a1_5, .bool a1_6]) (t := 26) ?hr ?_; (case hd => rfl); (case hg => rfl); (case hr => first | (go_simp; done) | (go_simp; rfl)); intro gb477 hg w10 hbox hb; have n0_ := Aside0.mk (Zv BK476 hb); have n1_ := Aside0.mk (Yv HB hb); have n2_ := Aside0.mk (hbox); have n3_ := Aside0.mk ((by rw [hg]; exact (below_size (Yr HB)) : w.heap.size ≤ gb477)); have n4_ := Aside0.mk ((by rw [hg]; exact (below_size (Yr HB)) : w.heap.size ≤ gb477)); have n5_ := Aside0.mk ((by rw [hg]; exact Nat.ne_of_lt (blk_lt (g := gb476) (o := .cells #[.string a0_0, .slice A0_1 l0_1.length c0_1] 24 (0, 0)) (Zr BK476)) : gb476 ≠ gb477)); have n6_ := Aside0.mk ((by rw [hg]; exact Nat.ne_of_gt (blk_lt (g := gb476) (o := .cells #[.string a0_0, .slice A0_1 l0_1.length c0_1] 24 (0, 0)) (Zr BK476)) : gb477 ≠ gb476)); clear BK476; clear HB; have BK476 := n0_; have HB := n1_; have BK477 := n2_; have GW477 := n3_; have GE477 := n4_; have NB476_477 := n5_; have NB477_476 := n6_; clear n0_ n1_ n2_ n3_ n4_ n5_ n6_; clear hb hbox hg) | (go_at_call 13; (with_reducible refine (palinodelaw19_examples.calls k  t478 _ A5.out).mono ?_); rintro e w11 ⟨rfl, hb⟩; have n0_ := Aside0.mk (Zv BK476 hb); have n1_ := Aside0.mk (Zv BK477 hb); have n2_ := Aside0.mk (Yv HB hb); clear BK476; clear BK477; clear HB; have BK476 := n0_; have BK477 := n1_; have HB := n2_; clear n0_ n1_ n2_; (try clear hb); (try clear hb2); (try clear hk); (try clear hi); have hnb12 := NB477_476.out; have hnc12 := NB476_477.out; obtain ⟨⟨hcz13_0, hcz13_1, hcz13_2, hcz13_3, hcz13_4, hcz13_5, hcz13_6⟩, hfz13_0, hfz13_1, hfz13_2, hfz13_3, hfz13_4, hfz13_5, hfz13_6⟩ := Zk7 BK477) | (go_at_call 16; (with_reducible refine (saga_Command.calls a1_0 a1_1 a1_2 a1_3 a1_4 a1_5 a1_6 t479 t480 t481 t482 t483 _ A6.out).mono ?_); rintro e w14 ⟨rfl, hb⟩; have n0_ := Aside0.mk (Zv BK476 hb); have n1_ := Aside0.mk (Zv BK477 hb); have n2_ := Aside0.mk (Yv HB hb); clear BK476; clear BK477; clear HB; have BK476 := n0_; have BK477 := n1_; have HB := n2_; clear n0_ n1_ n2_; (try clear hb); (try clear hb2); (try clear hk); (try clear hi)) | ((with_reducible refine gate_dst (N := 10) rfl ?_); (try (refine gate_guard (by rfl) ?_; dsimp only)); refine box_event ?hg (N := 10) ?hd (cs := #[.string (⟨#[]⟩ : ByteArray), .int .i64 0, .int .i64 0, .int .i64 0]) (t := 35) ?hr ?_; (case hd => rfl); (case hg => rfl); (case hr => first | (go_simp; done) | (go_simp; rfl)); intro gb484 hg w15 hbox hb; have n0_ := Aside0.mk (Zv BK476 hb); have n1_ := Aside0.mk (Zv BK477 hb); have n2_ := Aside0.mk (Yv HB hb); have n3_ := Aside0.mk (hbox); have n4_ := Aside0.mk ((by rw [hg]; exact (below_size (Yr HB)) : w.heap.size ≤ gb484)); have n5_ := Aside0.mk ((by rw [hg]; exact (below_size (Yr HB)) : w.heap.size ≤ gb484)); have n6_ := Aside0.mk ((by rw [hg]; exact Nat.ne_of_lt (blk_lt (g := gb476) (o := .cells #[.string a0_0, .slice A0_1 l0_1.length c0_1] 24 (0, 0)) (Zr BK476)) : gb476 ≠ gb484)); have n7_ := Aside0.mk ((by rw [hg]; exact Nat.ne_of_gt (blk_lt (g := gb476) (o := .cells #[.string a0_0, .slice A0_1 l0_1.length c0_1] 24 (0, 0)) (Zr BK476)) : gb484 ≠ gb476)); have n8_ := Aside0.mk ((by rw [hg]; exact Nat.ne_of_lt (blk_lt (g := gb477) (o := .cells #[.string a1_0, .string a1_1, .int .i64 a1_2, .int .i64 a1_3, .int .i64 a1_4, .int .i64 a1_5, .bool a1_6] 26 (0, 0)) (Zr BK477)) : gb477 ≠ gb484)); have n9_ := Aside0.mk ((by rw [hg]; exact Nat.ne_of_gt (blk_lt (g := gb477) (o := .cells #[.string a1_0, .string a1_1, .int .i64 a1_2, .int .i64 a1_3, .int .i64 a1_4, .int .i64 a1_5, .bool a1_6] 26 (0, 0)) (Zr BK477)) : gb484 ≠ gb477)); clear BK476; clear BK477; clear HB; have BK476 := n0_; have BK477 := n1_; have HB := n2_; have BK484 := n3_; have GW484 := n4_; have GE484 := n5_; have NB476_484 := n6_; have NB484_476 := n7_; have NB477_484 := n8_; have NB484_477 := n9_; clear n0_ n1_ n2_ n3_ n4_ n5_ n6_ n7_ n8_ n9_; clear hb hbox hg; have hnb16 := NB484_476.out; have hnc16 := NB476_484.out; have hnb17 := NB484_477.out; have hnc17 := NB477_484.out; obtain ⟨⟨hcz18_0, hcz18_1, hcz18_2, hcz18_3⟩, hfz18_0, hfz18_1, hfz18_2, hfz18_3⟩ := Zk4 BK484; obtain ⟨⟨hcz19_0, hcz19_1⟩, hfz19_0, hfz19_1⟩ := Zk2 BK476; obtain ⟨⟨hcz20_0, hcz20_1, hcz20_2, hcz20_3, hcz20_4, hcz20_5, hcz20_6⟩, hfz20_0, hfz20_1, hfz20_2, hfz20_3, hfz20_4, hfz20_5, hfz20_6⟩ := Zk7 BK477) | (go_at_call 23; (with_reducible refine (saga_Reply.calls k a0_0 _ _ l0_1 a1_0 a1_1 a1_2 a1_3 a1_4 a1_5 a1_6 t480 t481 a2 a3 t485 t486 t487 t488 t489 t490 t491 t492 _ ?side1 ?side2 A7.out).mono ?_); (case side1 => exact Kd.C_below HR0_1.out (Yr HB)); (case side2 => exact HC0_1.out); rintro e w21 ⟨rfl, hb⟩; have n0_ := Aside0.mk (Zv BK476 hb); have n1_ := Aside0.mk (Zv BK477 hb); have n2_ := Aside0.mk (Zb (g := gb484) (o := .cells #[.string t479, .int .i64 t480, .int .i64 t481, .int .i64 t482] 35 (0, 0)) (by (with_reducible repeat (first | refine Zn ?_ _ | refine Zd ?_ | refine Za ?_ _)); refine Zp (cs := #[.string t479, .int .i64 t480, .int .i64 t481, .int .i64 0]) ?_ 3 _ rfl; (with_reducible repeat (first | refine Zn ?_ _ | refine Zd ?_ | refine Za ?_ _)); refine Zp (cs := #[.string t479, .int .i64 t480, .int .i64 0, .int .i64 0]) ?_ 2 _ rfl; (with_reducible repeat (first | refine Zn ?_ _ | refine Zd ?_ | refine Za ?_ _)); refine Zp (cs := #[.string t479, .int .i64 0, .int .i64 0, .int .i64 0]) ?_ 1 _ rfl; (with_reducible repeat (first | refine Zn ?_ _ | refine Zd ?_ | refine Za ?_ _)); refine Zp (cs := #[.string (⟨#[]⟩ : ByteArray), .int .i64 0, .int .i64 0, .int .i64 0]) ?_ 0 _ rfl; (with_reducible repeat (first | refine Zn ?_ _ | refine Zd ?_ | refine Za ?_ _)); exact BK484.out) hb); have n3_ := Aside0.mk (Yv HB hb); clear BK476; clear BK477; clear BK484; clear HB; have BK476 := n0_; have BK477 := n1_; have BK484 := n2_; have HB := n3_; clear n0_ n1_ n2_ n3_; (try clear hb); (try clear hb2); (try clear hk); (try clear hi)) | ((with_reducible refine gate_dst (N := 12) rfl ?_); (try (refine gate_guard (by rfl) ?_; dsimp only)); refine box_event ?hg (N := 12) ?hd (cs := #[.string (⟨#[]⟩ : ByteArray), .string (⟨#[]⟩ : ByteArray), .int .i64 0, .int .i64 0, .int .i64 0, .int .i64 0, .bool false]) (t := 26) ?hr ?_; (case hd => rfl); (case hg => rfl); (case hr => first | (go_simp; done) | (go_simp; rfl)); intro gb493 hg w22 hbox hb; have n0_ := Aside0.mk (Zv BK476 hb); have n1_ := Aside0.mk (Zv BK477 hb); have n2_ := Aside0.mk (Zv BK484 hb); have n3_ := Aside0.mk (Yv HB hb); have n4_ := Aside0.mk (hbox); have n5_ := Aside0.mk ((by rw [hg]; exact (below_size (Yr HB)) : w.heap.size ≤ gb493)); have n6_ := Aside0.mk ((by rw [hg]; exact (below_size (Yr HB)) : w.heap.size ≤ gb493)); have n7_ := Aside0.mk ((by rw [hg]; exact Nat.ne_of_lt (blk_lt (g := gb476) (o := .cells #[.string a0_0, .slice A0_1 l0_1.length c0_1] 24 (0, 0)) (Zr BK476)) : gb476 ≠ gb493)); have n8_ := Aside0.mk ((by rw [hg]; exact Nat.ne_of_gt (blk_lt (g := gb476) (o := .cells #[.string a0_0, .slice A0_1 l0_1.length c0_1] 24 (0, 0)) (Zr BK476)) : gb493 ≠ gb476)); have n9_ := Aside0.mk ((by rw [hg]; exact Nat.ne_of_lt (blk_lt (g := gb477) (o := .cells #[.string a1_0, .string a1_1, .int .i64 a1_2, .int .i64 a1_3, .int .i64 a1_4, .int .i64 a1_5, .bool a1_6] 26 (0, 0)) (Zr BK477)) : gb477 ≠ gb493)); have n10_ := Aside0.mk ((by rw [hg]; exact Nat.ne_of_gt (blk_lt (g := gb477) (o := .cells #[.string a1_0, .string a1_1, .int .i64 a1_2, .int .i64 a1_3, .int .i64 a1_4, .int .i64 a1_5, .bool a1_6] 26 (0, 0)) (Zr BK477)) : gb493 ≠ gb477)); have n11_ := Aside0.mk ((by rw [hg]; exact Nat.ne_of_lt (blk_lt (g := gb484) (o := .cells #[.string t479, .int .i64 t480, .int .i64 t481, .int .i64 t482] 35 (0, 0)) (Zr BK484)) : gb484 ≠ gb493)); have n12_ := Aside0.mk ((by rw [hg]; exact Nat.ne_of_gt (blk_lt (g := gb484) (o := .cells #[.string t479, .int .i64 t480, .int .i64 t481, .int .i64 t482] 35 (0, 0)) (Zr BK484)) : gb493 ≠ gb484)); clear BK476; clear BK477; clear BK484; clear HB; have BK476 := n0_; have BK477 := n1_; have BK484 := n2_; have HB := n3_; have BK493 := n4_; have GW493 := n5_; have GE493 := n6_; have NB476_493 := n7_; have NB493_476 := n8_; have NB477_493 := n9_; have NB493_477 := n10_; have NB484_493 := n11_; have NB493_484 := n12_; clear n0_ n1_ n2_ n3_ n4_ n5_ n6_ n7_ n8_ n9_ n10_ n11_ n12_; clear hb hbox hg; have hnb23 := NB493_476.out; have hnc23 := NB476_493.out; have hnb24 := NB493_477.out; have hnc24 := NB477_493.out; have hnb25 := NB493_484.out; have hnc25 := NB484_493.out; obtain ⟨⟨hcz26_0, hcz26_1, hcz26_2, hcz26_3, hcz26_4, hcz26_5, hcz26_6⟩, hfz26_0, hfz26_1, hfz26_2, hfz26_3, hfz26_4, hfz26_5, hfz26_6⟩ := Zk7 BK493)))
 (try simp only [Act.put, List.setIfInBounds_toArray, List.set_cons_zero, List.set_cons_succ])
 go_cut [51] (fun v51 wc => ∃ (kq : Nat) (x51_7 : Bool), v51 = .bool x51_7 ∧ Aside0 (palinodelaw19_SagaSteps.j0 kq a2 t478 t483 t492 x51_7 a0_0 l0_1 a1_0 a1_1 a1_2 a1_3 a1_4 a1_5 a1_6 t479 t480 t481 t482 t485 t486 t487 t488 t489 t490 t491 = some r) ∧ Aside0 (kq ≤ k) ∧ Aside0 (wc.heap[gb476]? = some (.cells #[.string a0_0, (.slice A0_1 l0_1.length c0_1)] 24 (0, 0))) ∧ Aside0 (wc.heap[gb477]? = some (.cells #[.string a1_0, .string a1_1, .int .i64 a1_2, .int .i64 a1_3, .int .i64 a1_4, .int .i64 a1_5, .bool a1_6] 26 (0, 0))) ∧ Aside0 (wc.heap[gb484]? = some (.cells #[.string t479, .int .i64 t480, .int .i64 t481, .int .i64 t482] 35 (0, 0))) ∧ Aside0 (wc.heap[gb493]? = some (.cells #[.string t485, .string t486, .int .i64 t487, .int .i64 t488, .int .i64 t489, .int .i64 t490, .bool t491] 26 (0, 0))) ∧ Aside0 (Below w.heap.size w wc))
 case first =>
  have H := HC8.out
  clear HC8
  by_cases c27 : t483 = true
  ·
   subst c27
   have H1 : (if t492 = true then (if a1_3 < 0 then (palinodelaw19_SagaSteps.j0 k a2 t478 true t492 true a0_0 l0_1 a1_0 a1_1 a1_2 a1_3 a1_4 a1_5 a1_6 t479 t480 t481 t482 t485 t486 t487 t488 t489 t490 t491) else (palinodelaw19_SagaSteps.j0 k a2 t478 true t492 (decide (a1_3 ≥ (l0_1.length : Int))) a0_0 l0_1 a1_0 a1_1 a1_2 a1_3 a1_4 a1_5 a1_6 t479 t480 t481 t482 t485 t486 t487 t488 t489 t490 t491)) else (palinodelaw19_SagaSteps.j0 k a2 t478 true t492 true a0_0 l0_1 a1_0 a1_1 a1_2 a1_3 a1_4 a1_5 a1_6 t479 t480 t481 t482 t485 t486 t487 t488 t489 t490 t491)) = some r := by rw [if_pos rfl] at H; exact H
   clear H
   have H := H1
   clear H1
   by_cases c28 : t492 = true
   ·
    subst c28
    have H1 : (if a1_3 < 0 then (palinodelaw19_SagaSteps.j0 k a2 t478 true true true a0_0 l0_1 a1_0 a1_1 a1_2 a1_3 a1_4 a1_5 a1_6 t479 t480 t481 t482 t485 t486 t487 t488 t489 t490 t491) else (palinodelaw19_SagaSteps.j0 k a2 t478 true true (decide (a1_3 ≥ (l0_1.length : Int))) a0_0 l0_1 a1_0 a1_1 a1_2 a1_3 a1_4 a1_5 a1_6 t479 t480 t481 t482 t485 t486 t487 t488 t489 t490 t491)) = some r := by rw [if_pos rfl] at H; exact H
    clear H
    have H := H1
    clear H1
    by_cases c29 : a1_3 < 0
    ·
     rw [if_pos c29] at H
     have c29b0 : decide (a1_3 < 0) = true := decide_eq_true c29
     clear c29
     (first | rw [c29b0] | (simp only [i64_w, i32_w]; rw [c29b0]) | skip)
     have H' := Aside0.mk H
     clear H
     have hnb30 := NB477_476.out
     have hnc30 := NB476_477.out
     have hnb31 := NB477_484.out
     have hnc31 := NB484_477.out
     have hnb32 := NB477_493.out
     have hnc32 := NB493_477.out
     obtain ⟨⟨hcz33_0, hcz33_1, hcz33_2, hcz33_3, hcz33_4, hcz33_5, hcz33_6⟩, hfz33_0, hfz33_1, hfz33_2, hfz33_3, hfz33_4, hfz33_5, hfz33_6⟩ := Zk7 BK477
     go_wp2
     repeat (go_quiet (fail); try go_wp2)
     go_meet
     case rel => exact ⟨_, (true), (by first | rfl | (simp; done) | (simp [*]; done)), H', ⟨by first | omega | exact Nat.le_refl _⟩, ⟨by (with_reducible repeat (first | refine Zn ?_ _ | refine Zd ?_ | refine Za ?_ _)); refine Zq ?_ NB476_493.out _; (with_reducible repeat (first | refine Zn ?_ _ | refine Zd ?_ | refine Za ?_ _)); refine Zq ?_ NB476_493.out _; (with_reducible repeat (first | refine Zn ?_ _ | refine Zd ?_ | refine Za ?_ _)); refine Zq ?_ NB476_493.out _; (with_reducible repeat (first | refine Zn ?_ _ | refine Zd ?_ | refine Za ?_ _)); refine Zq ?_ NB476_493.out _; (with_reducible repeat (first | refine Zn ?_ _ | refine Zd ?_ | refine Za ?_ _)); refine Zq ?_ NB476_493.out _; (with_reducible repeat (first | refine Zn ?_ _ | refine Zd ?_ | refine Za ?_ _)); refine Zq ?_ NB476_493.out _; (with_reducible repeat (first | refine Zn ?_ _ | refine Zd ?_ | refine Za ?_ _)); refine Zq ?_ NB476_493.out _; (with_reducible repeat (first | refine Zn ?_ _ | refine Zd ?_ | refine Za ?_ _)); exact BK476.out⟩, ⟨by (with_reducible repeat (first | refine Zn ?_ _ | refine Zd ?_ | refine Za ?_ _)); refine Zq ?_ NB477_493.out _; (with_reducible repeat (first | refine Zn ?_ _ | refine Zd ?_ | refine Za ?_ _)); refine Zq ?_ NB477_493.out _; (with_reducible repeat (first | refine Zn ?_ _ | refine Zd ?_ | refine Za ?_ _)); refine Zq ?_ NB477_493.out _; (with_reducible repeat (first | refine Zn ?_ _ | refine Zd ?_ | refine Za ?_ _)); refine Zq ?_ NB477_493.out _; (with_reducible repeat (first | refine Zn ?_ _ | refine Zd ?_ | refine Za ?_ _)); refine Zq ?_ NB477_493.out _; (with_reducible repeat (first | refine Zn ?_ _ | refine Zd ?_ | refine Za ?_ _)); refine Zq ?_ NB477_493.out _; (with_reducible repeat (first | refine Zn ?_ _ | refine Zd ?_ | refine Za ?_ _)); refine Zq ?_ NB477_493.out _; (with_reducible repeat (first | refine Zn ?_ _ | refine Zd ?_ | refine Za ?_ _)); exact BK477.out⟩, ⟨by (with_reducible repeat (first | refine Zn ?_ _ | refine Zd ?_ | refine Za ?_ _)); refine Zq ?_ NB484_493.out _; (with_reducible repeat (first | refine Zn ?_ _ | refine Zd ?_ | refine Za ?_ _)); refine Zq ?_ NB484_493.out _; (with_reducible repeat (first | refine Zn ?_ _ | refine Zd ?_ | refine Za ?_ _)); refine Zq ?_ NB484_493.out _; (with_reducible repeat (first | refine Zn ?_ _ | refine Zd ?_ | refine Za ?_ _)); refine Zq ?_ NB484_493.out _; (with_reducible repeat (first | refine Zn ?_ _ | refine Zd ?_ | refine Za ?_ _)); refine Zq ?_ NB484_493.out _; (with_reducible repeat (first | refine Zn ?_ _ | refine Zd ?_ | refine Za ?_ _)); refine Zq ?_ NB484_493.out _; (with_reducible repeat (first | refine Zn ?_ _ | refine Zd ?_ | refine Za ?_ _)); refine Zq ?_ NB484_493.out _; (with_reducible repeat (first | refine Zn ?_ _ | refine Zd ?_ | refine Za ?_ _)); exact BK484.out⟩, ⟨by (with_reducible repeat (first | refine Zn ?_ _ | refine Zd ?_ | refine Za ?_ _)); refine Zp (cs := #[.string t485, .string t486, .int .i64 t487, .int .i64 t488, .int .i64 t489, .int .i64 t490, .bool false]) ?_ 6 _ rfl; (with_reducible repeat (first | refine Zn ?_ _ | refine Zd ?_ | refine Za ?_ _)); refine Zp (cs := #[.string t485, .string t486, .int .i64 t487, .int .i64 t488, .int .i64 t489, .int .i64 0, .bool false]) ?_ 5 _ rfl; (with_reducible repeat (first | refine Zn ?_ _ | refine Zd ?_ | refine Za ?_ _)); refine Zp (cs := #[.string t485, .string t486, .int .i64 t487, .int .i64 t488, .int .i64 0, .int .i64 0, .bool false]) ?_ 4 _ rfl; (with_reducible repeat (first | refine Zn ?_ _ | refine Zd ?_ | refine Za ?_ _)); refine Zp (cs := #[.string t485, .string t486, .int .i64 t487, .int .i64 0, .int .i64 0, .int .i64 0, .bool false]) ?_ 3 _ rfl; (with_reducible repeat (first | refine Zn ?_ _ | refine Zd ?_ | refine Za ?_ _)); refine Zp (cs := #[.string t485, .string t486, .int .i64 0, .int .i64 0, .int .i64 0, .int .i64 0, .bool false]) ?_ 2 _ rfl; (with_reducible repeat (first | refine Zn ?_ _ | refine Zd ?_ | refine Za ?_ _)); refine Zp (cs := #[.string t485, .string (⟨#[]⟩ : ByteArray), .int .i64 0, .int .i64 0, .int .i64 0, .int .i64 0, .bool false]) ?_ 1 _ rfl; (with_reducible repeat (first | refine Zn ?_ _ | refine Zd ?_ | refine Za ?_ _)); refine Zp (cs := #[.string (⟨#[]⟩ : ByteArray), .string (⟨#[]⟩ : ByteArray), .int .i64 0, .int .i64 0, .int .i64 0, .int .i64 0, .bool false]) ?_ 0 _ rfl; (with_reducible repeat (first | refine Zn ?_ _ | refine Zd ?_ | refine Za ?_ _)); exact BK493.out⟩, ⟨Yr HB⟩⟩
    ·
     rw [if_neg c29] at H
     have c29b0 : decide (a1_3 < 0) = false := decide_eq_false c29
     clear c29
     (first | rw [c29b0] | (simp only [i64_w, i32_w]; rw [c29b0]) | skip)
     have H' := Aside0.mk H
     clear H
     have hnb34 := NB477_476.out
     have hnc34 := NB476_477.out
     have hnb35 := NB477_484.out
     have hnc35 := NB484_477.out
     have hnb36 := NB477_493.out
     have hnc36 := NB493_477.out
     obtain ⟨⟨hcz37_0, hcz37_1, hcz37_2, hcz37_3, hcz37_4, hcz37_5, hcz37_6⟩, hfz37_0, hfz37_1, hfz37_2, hfz37_3, hfz37_4, hfz37_5, hfz37_6⟩ := Zk7 BK477
     have hnb38 := NB476_484.out
     have hnc38 := NB484_476.out
     have hnb39 := NB476_493.out
     have hnc39 := NB493_476.out
     obtain ⟨⟨hcz40_0, hcz40_1⟩, hfz40_0, hfz40_1⟩ := Zk2 BK476
     go_wp2
     repeat (go_quiet (fail); try go_wp2)
     go_meet
     case rel => exact ⟨_, (decide (a1_3 ≥ (l0_1.length : Int))), (by first | rfl | (simp; done) | (simp [*]; done)), H', ⟨by first | omega | exact Nat.le_refl _⟩, ⟨by (with_reducible repeat (first | refine Zn ?_ _ | refine Zd ?_ | refine Za ?_ _)); refine Zq ?_ NB476_493.out _; (with_reducible repeat (first | refine Zn ?_ _ | refine Zd ?_ | refine Za ?_ _)); refine Zq ?_ NB476_493.out _; (with_reducible repeat (first | refine Zn ?_ _ | refine Zd ?_ | refine Za ?_ _)); refine Zq ?_ NB476_493.out _; (with_reducible repeat (first | refine Zn ?_ _ | refine Zd ?_ | refine Za ?_ _)); refine Zq ?_ NB476_493.out _; (with_reducible repeat (first | refine Zn ?_ _ | refine Zd ?_ | refine Za ?_ _)); refine Zq ?_ NB476_493.out _; (with_reducible repeat (first | refine Zn ?_ _ | refine Zd ?_ | refine Za ?_ _)); refine Zq ?_ NB476_493.out _; (with_reducible repeat (first | refine Zn ?_ _ | refine Zd ?_ | refine Za ?_ _)); refine Zq ?_ NB476_493.out _; (with_reducible repeat (first | refine Zn ?_ _ | refine Zd ?_ | refine Za ?_ _)); exact BK476.out⟩, ⟨by (with_reducible repeat (first | refine Zn ?_ _ | refine Zd ?_ | refine Za ?_ _)); refine Zq ?_ NB477_493.out _; (with_reducible repeat (first | refine Zn ?_ _ | refine Zd ?_ | refine Za ?_ _)); refine Zq ?_ NB477_493.out _; (with_reducible repeat (first | refine Zn ?_ _ | refine Zd ?_ | refine Za ?_ _)); refine Zq ?_ NB477_493.out _; (with_reducible repeat (first | refine Zn ?_ _ | refine Zd ?_ | refine Za ?_ _)); refine Zq ?_ NB477_493.out _; (with_reducible repeat (first | refine Zn ?_ _ | refine Zd ?_ | refine Za ?_ _)); refine Zq ?_ NB477_493.out _; (with_reducible repeat (first | refine Zn ?_ _ | refine Zd ?_ | refine Za ?_ _)); refine Zq ?_ NB477_493.out _; (with_reducible repeat (first | refine Zn ?_ _ | refine Zd ?_ | refine Za ?_ _)); refine Zq ?_ NB477_493.out _; (with_reducible repeat (first | refine Zn ?_ _ | refine Zd ?_ | refine Za ?_ _)); exact BK477.out⟩, ⟨by (with_reducible repeat (first | refine Zn ?_ _ | refine Zd ?_ | refine Za ?_ _)); refine Zq ?_ NB484_493.out _; (with_reducible repeat (first | refine Zn ?_ _ | refine Zd ?_ | refine Za ?_ _)); refine Zq ?_ NB484_493.out _; (with_reducible repeat (first | refine Zn ?_ _ | refine Zd ?_ | refine Za ?_ _)); refine Zq ?_ NB484_493.out _; (with_reducible repeat (first | refine Zn ?_ _ | refine Zd ?_ | refine Za ?_ _)); refine Zq ?_ NB484_493.out _; (with_reducible repeat (first | refine Zn ?_ _ | refine Zd ?_ | refine Za ?_ _)); refine Zq ?_ NB484_493.out _; (with_reducible repeat (first | refine Zn ?_ _ | refine Zd ?_ | refine Za ?_ _)); refine Zq ?_ NB484_493.out _; (with_reducible repeat (first | refine Zn ?_ _ | refine Zd ?_ | refine Za ?_ _)); refine Zq ?_ NB484_493.out _; (with_reducible repeat (first | refine Zn ?_ _ | refine Zd ?_ | refine Za ?_ _)); exact BK484.out⟩, ⟨by (with_reducible repeat (first | refine Zn ?_ _ | refine Zd ?_ | refine Za ?_ _)); refine Zp (cs := #[.string t485, .string t486, .int .i64 t487, .int .i64 t488, .int .i64 t489, .int .i64 t490, .bool false]) ?_ 6 _ rfl; (with_reducible repeat (first | refine Zn ?_ _ | refine Zd ?_ | refine Za ?_ _)); refine Zp (cs := #[.string t485, .string t486, .int .i64 t487, .int .i64 t488, .int .i64 t489, .int .i64 0, .bool false]) ?_ 5 _ rfl; (with_reducible repeat (first | refine Zn ?_ _ | refine Zd ?_ | refine Za ?_ _)); refine Zp (cs := #[.string t485, .string t486, .int .i64 t487, .int .i64 t488, .int .i64 0, .int .i64 0, .bool false]) ?_ 4 _ rfl; (with_reducible repeat (first | refine Zn ?_ _ | refine Zd ?_ | refine Za ?_ _)); refine Zp (cs := #[.string t485, .string t486, .int .i64 t487, .int .i64 0, .int .i64 0, .int .i64 0, .bool false]) ?_ 3 _ rfl; (with_reducible repeat (first | refine Zn ?_ _ | refine Zd ?_ | refine Za ?_ _)); refine Zp (cs := #[.string t485, .string t486, .int .i64 0, .int .i64 0, .int .i64 0, .int .i64 0, .bool false]) ?_ 2 _ rfl; (with_reducible repeat (first | refine Zn ?_ _ | refine Zd ?_ | refine Za ?_ _)); refine Zp (cs := #[.string t485, .string (⟨#[]⟩ : ByteArray), .int .i64 0, .int .i64 0, .int .i64 0, .int .i64 0, .bool false]) ?_ 1 _ rfl; (with_reducible repeat (first | refine Zn ?_ _ | refine Zd ?_ | refine Za ?_ _)); refine Zp (cs := #[.string (⟨#[]⟩ : ByteArray), .string (⟨#[]⟩ : ByteArray), .int .i64 0, .int .i64 0, .int .i64 0, .int .i64 0, .bool false]) ?_ 0 _ rfl; (with_reducible repeat (first | refine Zn ?_ _ | refine Zd ?_ | refine Za ?_ _)); exact BK493.out⟩, ⟨Yr HB⟩⟩
   ·
    replace c28 := Bool.eq_false_iff.mpr c28
    subst c28
    have H1 : (palinodelaw19_SagaSteps.j0 k a2 t478 true false true a0_0 l0_1 a1_0 a1_1 a1_2 a1_3 a1_4 a1_5 a1_6 t479 t480 t481 t482 t485 t486 t487 t488 t489 t490 t491) = some r := by rw [if_neg (show ¬ (false = true) by decide)] at H; exact H
    clear H
    have H := H1
    clear H1
    have H' := Aside0.mk H
    clear H
    go_wp2
    repeat (go_quiet (fail); try go_wp2)
    go_meet
    case rel => exact ⟨_, (true), (by first | rfl | (simp; done) | (simp [*]; done)), H', ⟨by first | omega | exact Nat.le_refl _⟩, ⟨by (with_reducible repeat (first | refine Zn ?_ _ | refine Zd ?_ | refine Za ?_ _)); refine Zq ?_ NB476_493.out _; (with_reducible repeat (first | refine Zn ?_ _ | refine Zd ?_ | refine Za ?_ _)); refine Zq ?_ NB476_493.out _; (with_reducible repeat (first | refine Zn ?_ _ | refine Zd ?_ | refine Za ?_ _)); refine Zq ?_ NB476_493.out _; (with_reducible repeat (first | refine Zn ?_ _ | refine Zd ?_ | refine Za ?_ _)); refine Zq ?_ NB476_493.out _; (with_reducible repeat (first | refine Zn ?_ _ | refine Zd ?_ | refine Za ?_ _)); refine Zq ?_ NB476_493.out _; (with_reducible repeat (first | refine Zn ?_ _ | refine Zd ?_ | refine Za ?_ _)); refine Zq ?_ NB476_493.out _; (with_reducible repeat (first | refine Zn ?_ _ | refine Zd ?_ | refine Za ?_ _)); refine Zq ?_ NB476_493.out _; (with_reducible repeat (first | refine Zn ?_ _ | refine Zd ?_ | refine Za ?_ _)); exact BK476.out⟩, ⟨by (with_reducible repeat (first | refine Zn ?_ _ | refine Zd ?_ | refine Za ?_ _)); refine Zq ?_ NB477_493.out _; (with_reducible repeat (first | refine Zn ?_ _ | refine Zd ?_ | refine Za ?_ _)); refine Zq ?_ NB477_493.out _; (with_reducible repeat (first | refine Zn ?_ _ | refine Zd ?_ | refine Za ?_ _)); refine Zq ?_ NB477_493.out _; (with_reducible repeat (first | refine Zn ?_ _ | refine Zd ?_ | refine Za ?_ _)); refine Zq ?_ NB477_493.out _; (with_reducible repeat (first | refine Zn ?_ _ | refine Zd ?_ | refine Za ?_ _)); refine Zq ?_ NB477_493.out _; (with_reducible repeat (first | refine Zn ?_ _ | refine Zd ?_ | refine Za ?_ _)); refine Zq ?_ NB477_493.out _; (with_reducible repeat (first | refine Zn ?_ _ | refine Zd ?_ | refine Za ?_ _)); refine Zq ?_ NB477_493.out _; (with_reducible repeat (first | refine Zn ?_ _ | refine Zd ?_ | refine Za ?_ _)); exact BK477.out⟩, ⟨by (with_reducible repeat (first | refine Zn ?_ _ | refine Zd ?_ | refine Za ?_ _)); refine Zq ?_ NB484_493.out _; (with_reducible repeat (first | refine Zn ?_ _ | refine Zd ?_ | refine Za ?_ _)); refine Zq ?_ NB484_493.out _; (with_reducible repeat (first | refine Zn ?_ _ | refine Zd ?_ | refine Za ?_ _)); refine Zq ?_ NB484_493.out _; (with_reducible repeat (first | refine Zn ?_ _ | refine Zd ?_ | refine Za ?_ _)); refine Zq ?_ NB484_493.out _; (with_reducible repeat (first | refine Zn ?_ _ | refine Zd ?_ | refine Za ?_ _)); refine Zq ?_ NB484_493.out _; (with_reducible repeat (first | refine Zn ?_ _ | refine Zd ?_ | refine Za ?_ _)); refine Zq ?_ NB484_493.out _; (with_reducible repeat (first | refine Zn ?_ _ | refine Zd ?_ | refine Za ?_ _)); refine Zq ?_ NB484_493.out _; (with_reducible repeat (first | refine Zn ?_ _ | refine Zd ?_ | refine Za ?_ _)); exact BK484.out⟩, ⟨by (with_reducible repeat (first | refine Zn ?_ _ | refine Zd ?_ | refine Za ?_ _)); refine Zp (cs := #[.string t485, .string t486, .int .i64 t487, .int .i64 t488, .int .i64 t489, .int .i64 t490, .bool false]) ?_ 6 _ rfl; (with_reducible repeat (first | refine Zn ?_ _ | refine Zd ?_ | refine Za ?_ _)); refine Zp (cs := #[.string t485, .string t486, .int .i64 t487, .int .i64 t488, .int .i64 t489, .int .i64 0, .bool false]) ?_ 5 _ rfl; (with_reducible repeat (first | refine Zn ?_ _ | refine Zd ?_ | refine Za ?_ _)); refine Zp (cs := #[.string t485, .string t486, .int .i64 t487, .int .i64 t488, .int .i64 0, .int .i64 0, .bool false]) ?_ 4 _ rfl; (with_reducible repeat (first | refine Zn ?_ _ | refine Zd ?_ | refine Za ?_ _)); refine Zp (cs := #[.string t485, .string t486, .int .i64 t487, .int .i64 0, .int .i64 0, .int .i64 0, .bool false]) ?_ 3 _ rfl; (with_reducible repeat (first | refine Zn ?_ _ | refine Zd ?_ | refine Za ?_ _)); refine Zp (cs := #[.string t485, .string t486, .int .i64 0, .int .i64 0, .int .i64 0, .int .i64 0, .bool false]) ?_ 2 _ rfl; (with_reducible repeat (first | refine Zn ?_ _ | refine Zd ?_ | refine Za ?_ _)); refine Zp (cs := #[.string t485, .string (⟨#[]⟩ : ByteArray), .int .i64 0, .int .i64 0, .int .i64 0, .int .i64 0, .bool false]) ?_ 1 _ rfl; (with_reducible repeat (first | refine Zn ?_ _ | refine Zd ?_ | refine Za ?_ _)); refine Zp (cs := #[.string (⟨#[]⟩ : ByteArray), .string (⟨#[]⟩ : ByteArray), .int .i64 0, .int .i64 0, .int .i64 0, .int .i64 0, .bool false]) ?_ 0 _ rfl; (with_reducible repeat (first | refine Zn ?_ _ | refine Zd ?_ | refine Za ?_ _)); exact BK493.out⟩, ⟨Yr HB⟩⟩
  ·
   replace c27 := Bool.eq_false_iff.mpr c27
   subst c27
   have H1 : (palinodelaw19_SagaSteps.j0 k a2 t478 false t492 true a0_0 l0_1 a1_0 a1_1 a1_2 a1_3 a1_4 a1_5 a1_6 t479 t480 t481 t482 t485 t486 t487 t488 t489 t490 t491) = some r := by rw [if_neg (show ¬ (false = true) by decide)] at H; exact H
   clear H
   have H := H1
   clear H1
   have H' := Aside0.mk H
   clear H
   go_wp2
   repeat (go_quiet (fail); try go_wp2)
   go_meet
   case rel => exact ⟨_, (true), (by first | rfl | (simp; done) | (simp [*]; done)), H', ⟨by first | omega | exact Nat.le_refl _⟩, ⟨by (with_reducible repeat (first | refine Zn ?_ _ | refine Zd ?_ | refine Za ?_ _)); refine Zq ?_ NB476_493.out _; (with_reducible repeat (first | refine Zn ?_ _ | refine Zd ?_ | refine Za ?_ _)); refine Zq ?_ NB476_493.out _; (with_reducible repeat (first | refine Zn ?_ _ | refine Zd ?_ | refine Za ?_ _)); refine Zq ?_ NB476_493.out _; (with_reducible repeat (first | refine Zn ?_ _ | refine Zd ?_ | refine Za ?_ _)); refine Zq ?_ NB476_493.out _; (with_reducible repeat (first | refine Zn ?_ _ | refine Zd ?_ | refine Za ?_ _)); refine Zq ?_ NB476_493.out _; (with_reducible repeat (first | refine Zn ?_ _ | refine Zd ?_ | refine Za ?_ _)); refine Zq ?_ NB476_493.out _; (with_reducible repeat (first | refine Zn ?_ _ | refine Zd ?_ | refine Za ?_ _)); refine Zq ?_ NB476_493.out _; (with_reducible repeat (first | refine Zn ?_ _ | refine Zd ?_ | refine Za ?_ _)); exact BK476.out⟩, ⟨by (with_reducible repeat (first | refine Zn ?_ _ | refine Zd ?_ | refine Za ?_ _)); refine Zq ?_ NB477_493.out _; (with_reducible repeat (first | refine Zn ?_ _ | refine Zd ?_ | refine Za ?_ _)); refine Zq ?_ NB477_493.out _; (with_reducible repeat (first | refine Zn ?_ _ | refine Zd ?_ | refine Za ?_ _)); refine Zq ?_ NB477_493.out _; (with_reducible repeat (first | refine Zn ?_ _ | refine Zd ?_ | refine Za ?_ _)); refine Zq ?_ NB477_493.out _; (with_reducible repeat (first | refine Zn ?_ _ | refine Zd ?_ | refine Za ?_ _)); refine Zq ?_ NB477_493.out _; (with_reducible repeat (first | refine Zn ?_ _ | refine Zd ?_ | refine Za ?_ _)); refine Zq ?_ NB477_493.out _; (with_reducible repeat (first | refine Zn ?_ _ | refine Zd ?_ | refine Za ?_ _)); refine Zq ?_ NB477_493.out _; (with_reducible repeat (first | refine Zn ?_ _ | refine Zd ?_ | refine Za ?_ _)); exact BK477.out⟩, ⟨by (with_reducible repeat (first | refine Zn ?_ _ | refine Zd ?_ | refine Za ?_ _)); refine Zq ?_ NB484_493.out _; (with_reducible repeat (first | refine Zn ?_ _ | refine Zd ?_ | refine Za ?_ _)); refine Zq ?_ NB484_493.out _; (with_reducible repeat (first | refine Zn ?_ _ | refine Zd ?_ | refine Za ?_ _)); refine Zq ?_ NB484_493.out _; (with_reducible repeat (first | refine Zn ?_ _ | refine Zd ?_ | refine Za ?_ _)); refine Zq ?_ NB484_493.out _; (with_reducible repeat (first | refine Zn ?_ _ | refine Zd ?_ | refine Za ?_ _)); refine Zq ?_ NB484_493.out _; (with_reducible repeat (first | refine Zn ?_ _ | refine Zd ?_ | refine Za ?_ _)); refine Zq ?_ NB484_493.out _; (with_reducible repeat (first | refine Zn ?_ _ | refine Zd ?_ | refine Za ?_ _)); refine Zq ?_ NB484_493.out _; (with_reducible repeat (first | refine Zn ?_ _ | refine Zd ?_ | refine Za ?_ _)); exact BK484.out⟩, ⟨by (with_reducible repeat (first | refine Zn ?_ _ | refine Zd ?_ | refine Za ?_ _)); refine Zp (cs := #[.string t485, .string t486, .int .i64 t487, .int .i64 t488, .int .i64 t489, .int .i64 t490, .bool false]) ?_ 6 _ rfl; (with_reducible repeat (first | refine Zn ?_ _ | refine Zd ?_ | refine Za ?_ _)); refine Zp (cs := #[.string t485, .string t486, .int .i64 t487, .int .i64 t488, .int .i64 t489, .int .i64 0, .bool false]) ?_ 5 _ rfl; (with_reducible repeat (first | refine Zn ?_ _ | refine Zd ?_ | refine Za ?_ _)); refine Zp (cs := #[.string t485, .string t486, .int .i64 t487, .int .i64 t488, .int .i64 0, .int .i64 0, .bool false]) ?_ 4 _ rfl; (with_reducible repeat (first | refine Zn ?_ _ | refine Zd ?_ | refine Za ?_ _)); refine Zp (cs := #[.string t485, .string t486, .int .i64 t487, .int .i64 0, .int .i64 0, .int .i64 0, .bool false]) ?_ 3 _ rfl; (with_reducible repeat (first | refine Zn ?_ _ | refine Zd ?_ | refine Za ?_ _)); refine Zp (cs := #[.string t485, .string t486, .int .i64 0, .int .i64 0, .int .i64 0, .int .i64 0, .bool false]) ?_ 2 _ rfl; (with_reducible repeat (first | refine Zn ?_ _ | refine Zd ?_ | refine Za ?_ _)); refine Zp (cs := #[.string t485, .string (⟨#[]⟩ : ByteArray), .int .i64 0, .int .i64 0, .int .i64 0, .int .i64 0, .bool false]) ?_ 1 _ rfl; (with_reducible repeat (first | refine Zn ?_ _ | refine Zd ?_ | refine Za ?_ _)); refine Zp (cs := #[.string (⟨#[]⟩ : ByteArray), .string (⟨#[]⟩ : ByteArray), .int .i64 0, .int .i64 0, .int .i64 0, .int .i64 0, .bool false]) ?_ 0 _ rfl; (with_reducible repeat (first | refine Zn ?_ _ | refine Zd ?_ | refine Za ?_ _)); exact BK493.out⟩, ⟨Yr HB⟩⟩
 case rest =>
  clear HC8
  try clear c1
  try clear c2
  try clear p2
  try clear c3
  try clear c7
  try clear c12
  try clear c16
  try clear c17
  try clear c23
  try clear c24
  try clear c25
  try clear c27
  try clear c28
  try clear c29
  try clear c29b0
  try clear c30
  try clear c31
  try clear c32
  try clear c34
  try clear c35
  try clear c36
  try clear c38
  try clear c39
  try clear hcz13_0
  try clear hcz13_1
  try clear hcz13_2
  try clear hcz13_3
  try clear hcz13_4
  try clear hcz13_5
  try clear hcz13_6
  try clear hcz18_0
  try clear hcz18_1
  try clear hcz18_2
  try clear hcz18_3
  try clear hcz19_0
  try clear hcz19_1
  try clear hcz20_0
  try clear hcz20_1
  try clear hcz20_2
  try clear hcz20_3
  try clear hcz20_4
  try clear hcz20_5
  try clear hcz20_6
  try clear hcz26_0
  try clear hcz26_1
  try clear hcz26_2
  try clear hcz26_3
  try clear hcz26_4
  try clear hcz26_5
  try clear hcz26_6
  try clear hcz33_0
  try clear hcz33_1
  try clear hcz33_2
  try clear hcz33_3
  try clear hcz33_4
  try clear hcz33_5
  try clear hcz33_6
  try clear hcz37_0
  try clear hcz37_1
  try clear hcz37_2
  try clear hcz37_3
  try clear hcz37_4
  try clear hcz37_5
  try clear hcz37_6
  try clear hcz40_0
  try clear hcz40_1
  try clear hfz13_0
  try clear hfz13_1
  try clear hfz13_2
  try clear hfz13_3
  try clear hfz13_4
  try clear hfz13_5
  try clear hfz13_6
  try clear hfz18_0
  try clear hfz18_1
  try clear hfz18_2
  try clear hfz18_3
  try clear hfz19_0
  try clear hfz19_1
  try clear hfz20_0
  try clear hfz20_1
  try clear hfz20_2
  try clear hfz20_3
  try clear hfz20_4
  try clear hfz20_5
  try clear hfz20_6
  try clear hfz26_0
  try clear hfz26_1
  try clear hfz26_2
  try clear hfz26_3
  try clear hfz26_4
  try clear hfz26_5
  try clear hfz26_6
  try clear hfz33_0
  try clear hfz33_1
  try clear hfz33_2
  try clear hfz33_3
  try clear hfz33_4
  try clear hfz33_5
  try clear hfz33_6
  try clear hfz37_0
  try clear hfz37_1
  try clear hfz37_2
  try clear hfz37_3
  try clear hfz37_4
  try clear hfz37_5
  try clear hfz37_6
  try clear hfz40_0
  try clear hfz40_1
  obtain ⟨kq, x51_7, rfl, HA, HJ7, BK476, BK477, BK484, BK493, HB⟩ := hcut
  cases kq with
  | zero => exact absurd HA.out (by simp [palinodelaw19_SagaSteps.j0])
  | succ kj7 =>
   have H := HA.out
   clear HA
   simp only [palinodelaw19_SagaSteps.j0] at H
   by_cases c41 : x51_7 = true
   ·
    subst c41
    have H1 : (if t478 = true then (if t492 = true then (some t483) else (some true)) else (some false)) = some r := by rw [if_pos rfl] at H; exact H
    clear H
    have H := H1
    clear H1
    by_cases c42 : t478 = true
    ·
     subst c42
     have H1 : (if t492 = true then (some t483) else (some true)) = some r := by rw [if_pos rfl] at H; exact H
     clear H
     have H := H1
     clear H1
     by_cases c43 : t492 = true
     ·
      subst c43
      have H1 : (some t483) = some r := by rw [if_pos rfl] at H; exact H
      clear H
      have H := H1
      clear H1
      obtain rfl := Option.some.inj H
      go_wp2
      repeat (go_quiet (fail); try go_wp2)
      go_ret
      exact ⟨by first | rfl | (simp [errW_none, errW_some] <;> rfl) | (simp [*, errW_none, errW_some] <;> rfl), Yr HB⟩
     ·
      replace c43 := Bool.eq_false_iff.mpr c43
      subst c43
      have H1 : (some true) = some r := by rw [if_neg (show ¬ (false = true) by decide)] at H; exact H
      clear H
      have H := H1
      clear H1
      obtain rfl := Option.some.inj H
      go_wp2
      repeat (go_quiet (fail); try go_wp2)
      go_ret
      exact ⟨by first | rfl | (simp [errW_none, errW_some] <;> rfl) | (simp [*, errW_none, errW_some] <;> rfl), Yr HB⟩
    ·
     replace c42 := Bool.eq_false_iff.mpr c42
     subst c42
     have H1 : (some false) = some r := by rw [if_neg (show ¬ (false = true) by decide)] at H; exact H
     clear H
     have H := H1
     clear H1
     exact absurd ((Option.some.inj H).trans HRT_.out) (by decide)
   ·
    replace c41 := Bool.eq_false_iff.mpr c41
    subst c41
    have H1 : (if 0 ≤ a1_3 then (if a1_3 < (l0_1.length : Int) then (if a2 = 1 then (palinodelaw19_SagaSteps.j1 kj7 a2 t478 (decide (a1_4 < ((rd_T53 l0_1 a1_3).f0))) (t481 == 1) a0_0 l0_1 a1_0 a1_1 a1_2 a1_3 a1_4 a1_5 a1_6 t479 t480 t481 t482 t485 t486 t487 t488 t489 t490 t491) else (palinodelaw19_SagaSteps.j1 kj7 a2 t478 (decide (a1_4 < ((rd_T53 l0_1 a1_3).f0))) false a0_0 l0_1 a1_0 a1_1 a1_2 a1_3 a1_4 a1_5 a1_6 t479 t480 t481 t482 t485 t486 t487 t488 t489 t490 t491)) else (none)) else (none)) = some r := by rw [if_neg (show ¬ (false = true) by decide)] at H; exact H
    clear H
    have H := H1
    clear H1
    by_cases c44 : 0 ≤ a1_3
    ·
     rw [if_pos c44] at H
     have c44b0 : decide (0 ≤ a1_3) = true := decide_eq_true c44
     clear c44
     by_cases c45 : a1_3 < (l0_1.length : Int)
     ·
      rw [if_pos c45] at H
      have c45b0 : decide (a1_3 < (l0_1.length : Int)) = true := decide_eq_true c45
      clear c45
      have HC46 := Aside0.mk H
      clear H
      have hnb47 := NB477_476.out
      have hnc47 := NB476_477.out
      have hnb48 := NB477_484.out
      have hnc48 := NB484_477.out
      have hnb49 := NB477_493.out
      have hnc49 := NB493_477.out
      obtain ⟨⟨hcz50_0, hcz50_1, hcz50_2, hcz50_3, hcz50_4, hcz50_5, hcz50_6⟩, hfz50_0, hfz50_1, hfz50_2, hfz50_3, hfz50_4, hfz50_5, hfz50_6⟩ := Zk7 BK477
      have hnb51 := NB476_484.out
      have hnc51 := NB484_476.out
      have hnb52 := NB476_493.out
      have hnc52 := NB493_476.out
      obtain ⟨⟨hcz53_0, hcz53_1⟩, hfz53_0, hfz53_1⟩ := Zk2 BK476
      have p494 : 0 ≤ (a1_3 : Int) := of_decide_eq_true (by first | (with_reducible assumption) | assumption)
      have q494 : a1_3 < (l0_1.length : Int) := of_decide_eq_true (by first | (with_reducible assumption) | assumption)
      obtain ⟨ad494, e494, hx494_0, hx494_1⟩ := at_T53 HR0_1.out a1_3 p494 q494
      cases e494
      replace hx494_0 := (HB.out.cell (World.block_lt_of_cell? w _ hx494_0)).trans hx494_0
      replace hx494_1 := (HB.out.cell (World.block_lt_of_cell? w _ hx494_1)).trans hx494_1
      replace p494 := eq_true p494
      replace q494 := eq_true q494
      go_upto_region 7 with (fail)
      repeat (go_quiet (fail); go_upto_region 7 with (fail))
      go_cut [70] (fun v70 wc => ∃ (kq : Nat) (x70_45 : Bool), v70 = .bool x70_45 ∧ Aside0 (palinodelaw19_SagaSteps.j1 kq a2 t478 (decide (a1_4 < ((rd_T53 l0_1 a1_3).f0))) x70_45 a0_0 l0_1 a1_0 a1_1 a1_2 a1_3 a1_4 a1_5 a1_6 t479 t480 t481 t482 t485 t486 t487 t488 t489 t490 t491 = some r) ∧ Aside0 (kq ≤ kj7) ∧ Aside0 (wc.heap[gb476]? = some (.cells #[.string a0_0, (.slice (some ad494) l0_1.length c0_1)] 24 (0, 0))) ∧ Aside0 (wc.heap[gb477]? = some (.cells #[.string a1_0, .string a1_1, .int .i64 a1_2, .int .i64 a1_3, .int .i64 a1_4, .int .i64 a1_5, .bool a1_6] 26 (0, 0))) ∧ Aside0 (wc.heap[gb484]? = some (.cells #[.string t479, .int .i64 t480, .int .i64 t481, .int .i64 t482] 35 (0, 0))) ∧ Aside0 (wc.heap[gb493]? = some (.cells #[.string t485, .string t486, .int .i64 t487, .int .i64 t488, .int .i64 t489, .int .i64 t490, .bool t491] 26 (0, 0))) ∧ Aside0 (Below w.heap.size w wc))
      case first =>
       have H := HC46.out
       clear HC46
       by_cases c54 : a2 = 1
       ·
        rw [if_pos c54] at H
        have c54b0 : (a2 == 1) = true := beq_iff_eq.mpr c54
        have c54b1 : (a2 != 1) = false := bne_eq_false_iff_eq.mpr c54
        clear c54
        (first | rw [c54b0] | (simp only [i64_w, i32_w]; rw [c54b0]) | skip)
        have H' := Aside0.mk H
        clear H
        have hnb55 := NB484_476.out
        have hnc55 := NB476_484.out
        have hnb56 := NB484_477.out
        have hnc56 := NB477_484.out
        have hnb57 := NB484_493.out
        have hnc57 := NB493_484.out
        obtain ⟨⟨hcz58_0, hcz58_1, hcz58_2, hcz58_3⟩, hfz58_0, hfz58_1, hfz58_2, hfz58_3⟩ := Zk4 BK484
        go_wp2
        repeat (go_quiet (fail); try go_wp2)
        go_meet
        case rel => exact ⟨_, ((t481 == 1)), (by first | rfl | (simp; done) | (simp [*]; done)), H', ⟨by have := HJ7.out; first | omega | exact Nat.le_refl _⟩, ⟨by (with_reducible repeat (first | refine Zn ?_ _ | refine Zd ?_ | refine Za ?_ _)); exact BK476.out⟩, ⟨by (with_reducible repeat (first | refine Zn ?_ _ | refine Zd ?_ | refine Za ?_ _)); exact BK477.out⟩, ⟨by (with_reducible repeat (first | refine Zn ?_ _ | refine Zd ?_ | refine Za ?_ _)); exact BK484.out⟩, ⟨by (with_reducible repeat (first | refine Zn ?_ _ | refine Zd ?_ | refine Za ?_ _)); exact BK493.out⟩, ⟨Yr HB⟩⟩
       ·
        rw [if_neg c54] at H
        have c54b0 : (a2 == 1) = false := beq_eq_false_iff_ne.mpr c54
        have c54b1 : (a2 != 1) = true := bne_iff_ne.mpr c54
        (first | rw [c54b0] | (simp only [i64_w, i32_w]; rw [c54b0]) | skip)
        have H' := Aside0.mk H
        clear H
        go_wp2
        repeat (go_quiet (fail); try go_wp2)
        go_meet
        case rel => exact ⟨_, (false), (by first | rfl | (simp; done) | (simp [*]; done)), H', ⟨by have := HJ7.out; first | omega | exact Nat.le_refl _⟩, ⟨by (with_reducible repeat (first | refine Zn ?_ _ | refine Zd ?_ | refine Za ?_ _)); exact BK476.out⟩, ⟨by (with_reducible repeat (first | refine Zn ?_ _ | refine Zd ?_ | refine Za ?_ _)); exact BK477.out⟩, ⟨by (with_reducible repeat (first | refine Zn ?_ _ | refine Zd ?_ | refine Za ?_ _)); exact BK484.out⟩, ⟨by (with_reducible repeat (first | refine Zn ?_ _ | refine Zd ?_ | refine Za ?_ _)); exact BK493.out⟩, ⟨Yr HB⟩⟩
      case rest =>
       clear HC46
       try clear c1
       try clear c2
       try clear p2
       try clear c3
       try clear c4
       try clear p4
       try clear q4
       try clear hx4
       try clear c5
       try clear c7
       try clear c12
       try clear c16
       try clear c17
       try clear c23
       try clear c24
       try clear c25
       try clear c27
       try clear c28
       try clear c29
       try clear c29b0
       try clear c30
       try clear c31
       try clear c32
       try clear c34
       try clear c35
       try clear c36
       try clear c38
       try clear c39
       try clear c41
       try clear c42
       try clear c43
       try clear c44
       try clear c44b0
       try clear c45
       try clear c45b0
       try clear c47
       try clear c48
       try clear c49
       try clear p49
       try clear q49
       try clear hx49
       try clear c51
       try clear c52
       try clear c54
       try clear c54b0
       try clear c54b1
       try clear c55
       try clear c56
       try clear c57
       try clear hcz13_0
       try clear hcz13_1
       try clear hcz13_2
       try clear hcz13_3
       try clear hcz13_4
       try clear hcz13_5
       try clear hcz13_6
       try clear hcz18_0
       try clear hcz18_1
       try clear hcz18_2
       try clear hcz18_3
       try clear hcz19_0
       try clear hcz19_1
       try clear hcz20_0
       try clear hcz20_1
       try clear hcz20_2
       try clear hcz20_3
       try clear hcz20_4
       try clear hcz20_5
       try clear hcz20_6
       try clear hcz26_0
       try clear hcz26_1
       try clear hcz26_2
       try clear hcz26_3
       try clear hcz26_4
       try clear hcz26_5
       try clear hcz26_6
       try clear hcz33_0
       try clear hcz33_1
       try clear hcz33_2
       try clear hcz33_3
       try clear hcz33_4
       try clear hcz33_5
       try clear hcz33_6
       try clear hcz37_0
       try clear hcz37_1
       try clear hcz37_2
       try clear hcz37_3
       try clear hcz37_4
       try clear hcz37_5
       try clear hcz37_6
       try clear hcz40_0
       try clear hcz40_1
       try clear hcz50_0
       try clear hcz50_1
       try clear hcz50_2
       try clear hcz50_3
       try clear hcz50_4
       try clear hcz50_5
       try clear hcz50_6
       try clear hcz53_0
       try clear hcz53_1
       try clear hcz58_0
       try clear hcz58_1
       try clear hcz58_2
       try clear hcz58_3
       try clear hfz13_0
       try clear hfz13_1
       try clear hfz13_2
       try clear hfz13_3
       try clear hfz13_4
       try clear hfz13_5
       try clear hfz13_6
       try clear hfz18_0
       try clear hfz18_1
       try clear hfz18_2
       try clear hfz18_3
       try clear hfz19_0
       try clear hfz19_1
       try clear hfz20_0
       try clear hfz20_1
       try clear hfz20_2
       try clear hfz20_3
       try clear hfz20_4
       try clear hfz20_5
       try clear hfz20_6
       try clear hfz26_0
       try clear hfz26_1
       try clear hfz26_2
       try clear hfz26_3
       try clear hfz26_4
       try clear hfz26_5
       try clear hfz26_6
       try clear hfz33_0
       try clear hfz33_1
       try clear hfz33_2
       try clear hfz33_3
       try clear hfz33_4
       try clear hfz33_5
       try clear hfz33_6
       try clear hfz37_0
       try clear hfz37_1
       try clear hfz37_2
       try clear hfz37_3
       try clear hfz37_4
       try clear hfz37_5
       try clear hfz37_6
       try clear hfz40_0
       try clear hfz40_1
       try clear hfz50_0
       try clear hfz50_1
       try clear hfz50_2
       try clear hfz50_3
       try clear hfz50_4
       try clear hfz50_5
       try clear hfz50_6
       try clear hfz53_0
       try clear hfz53_1
       try clear hfz58_0
       try clear hfz58_1
       try clear hfz58_2
       try clear hfz58_3
       try clear hx494_0
       try clear hx494_1
       try clear p2
       try clear p494
       try clear q494
       obtain ⟨kq, x70_45, rfl, HA, HJ45, BK476, BK477, BK484, BK493, HB⟩ := hcut
       cases kq with
       | zero => exact absurd HA.out (by simp [palinodelaw19_SagaSteps.j1])
       | succ kj45 =>
        have H := HA.out
        clear HA
        simp only [palinodelaw19_SagaSteps.j1] at H
        by_cases c59 : x70_45 = true
        ·
         subst c59
         have H1 : (if t478 = true then (if t488 = (wrap64 (a1_3 + 1)) then (if t487 = 1 then (if t488 < (l0_1.length : Int) then (some true) else (if t487 = 3 then (some (t488 == (l0_1.length : Int))) else (some false))) else (if t487 = 3 then (some (t488 == (l0_1.length : Int))) else (some false))) else (some false)) else (some false)) = some r := by rw [if_pos rfl] at H; exact H
         clear H
         have H := H1
         clear H1
         by_cases c60 : t478 = true
         ·
          subst c60
          have H1 : (if t488 = (wrap64 (a1_3 + 1)) then (if t487 = 1 then (if t488 < (l0_1.length : Int) then (some true) else (if t487 = 3 then (some (t488 == (l0_1.length : Int))) else (some false))) else (if t487 = 3 then (some (t488 == (l0_1.length : Int))) else (some false))) else (some false)) = some r := by rw [if_pos rfl] at H; exact H
          clear H
          have H := H1
          clear H1
          by_cases c61 : t488 = (wrap64 (a1_3 + 1))
          ·
           rw [if_pos c61] at H
           have c61b0 : (t488 == (wrap64 (a1_3 + 1))) = true := beq_iff_eq.mpr c61
           have c61b1 : (t488 != (wrap64 (a1_3 + 1))) = false := bne_eq_false_iff_eq.mpr c61
           clear c61
           by_cases c62 : t487 = 1
           ·
            rw [if_pos c62] at H
            have c62b0 : (t487 == 1) = true := beq_iff_eq.mpr c62
            have c62b1 : (t487 != 1) = false := bne_eq_false_iff_eq.mpr c62
            clear c62
            by_cases c63 : t488 < (l0_1.length : Int)
            ·
             rw [if_pos c63] at H
             have c63b0 : decide (t488 < (l0_1.length : Int)) = true := decide_eq_true c63
             clear c63
             obtain rfl := Option.some.inj H
             have hnb64 := NB493_476.out
             have hnc64 := NB476_493.out
             have hnb65 := NB493_477.out
             have hnc65 := NB477_493.out
             have hnb66 := NB493_484.out
             have hnc66 := NB484_493.out
             obtain ⟨⟨hcz67_0, hcz67_1, hcz67_2, hcz67_3, hcz67_4, hcz67_5, hcz67_6⟩, hfz67_0, hfz67_1, hfz67_2, hfz67_3, hfz67_4, hfz67_5, hfz67_6⟩ := Zk7 BK493
             have hnb68 := NB477_476.out
             have hnc68 := NB476_477.out
             have hnb69 := NB477_484.out
             have hnc69 := NB484_477.out
             obtain ⟨⟨hcz70_0, hcz70_1, hcz70_2, hcz70_3, hcz70_4, hcz70_5, hcz70_6⟩, hfz70_0, hfz70_1, hfz70_2, hfz70_3, hfz70_4, hfz70_5, hfz70_6⟩ := Zk7 BK477
             have hnb71 := NB476_484.out
             have hnc71 := NB484_476.out
             obtain ⟨⟨hcz72_0, hcz72_1⟩, hfz72_0, hfz72_1⟩ := Zk2 BK476
             go_wp2
             repeat (go_quiet (fail); try go_wp2)
             go_ret
             first | (refine absurd c61b0 ?_; simp [*]; done) | exact ⟨by first | rfl | (simp [errW_none, errW_some] <;> rfl) | (simp [*, errW_none, errW_some] <;> rfl), Yr HB⟩
            ·
             rw [if_neg c63] at H
             have c63b0 : decide (t488 < (l0_1.length : Int)) = false := decide_eq_false c63
             clear c63
             by_cases c73 : t487 = 3
             ·
              rw [if_pos c73] at H
              have c73b0 : (t487 == 3) = true := beq_iff_eq.mpr c73
              have c73b1 : (t487 != 3) = false := bne_eq_false_iff_eq.mpr c73
              clear c73
              obtain rfl := Option.some.inj H
              have hnb74 := NB493_476.out
              have hnc74 := NB476_493.out
              have hnb75 := NB493_477.out
              have hnc75 := NB477_493.out
              have hnb76 := NB493_484.out
              have hnc76 := NB484_493.out
              obtain ⟨⟨hcz77_0, hcz77_1, hcz77_2, hcz77_3, hcz77_4, hcz77_5, hcz77_6⟩, hfz77_0, hfz77_1, hfz77_2, hfz77_3, hfz77_4, hfz77_5, hfz77_6⟩ := Zk7 BK493
              have hnb78 := NB477_476.out
              have hnc78 := NB476_477.out
              have hnb79 := NB477_484.out
              have hnc79 := NB484_477.out
              obtain ⟨⟨hcz80_0, hcz80_1, hcz80_2, hcz80_3, hcz80_4, hcz80_5, hcz80_6⟩, hfz80_0, hfz80_1, hfz80_2, hfz80_3, hfz80_4, hfz80_5, hfz80_6⟩ := Zk7 BK477
              have hnb81 := NB476_484.out
              have hnc81 := NB484_476.out
              obtain ⟨⟨hcz82_0, hcz82_1⟩, hfz82_0, hfz82_1⟩ := Zk2 BK476
              go_wp2
              repeat (go_quiet (fail); try go_wp2)
              go_ret
              first | (refine absurd c61b0 ?_; simp [*]; done) | exact ⟨by first | rfl | (simp [errW_none, errW_some] <;> rfl) | (simp [*, errW_none, errW_some] <;> rfl), Yr HB⟩
             ·
              rw [if_neg c73] at H
              have c73b0 : (t487 == 3) = false := beq_eq_false_iff_ne.mpr c73
              have c73b1 : (t487 != 3) = true := bne_iff_ne.mpr c73
              exact absurd ((Option.some.inj H).trans HRT_.out) (by decide)
           ·
            rw [if_neg c62] at H
            have c62b0 : (t487 == 1) = false := beq_eq_false_iff_ne.mpr c62
            have c62b1 : (t487 != 1) = true := bne_iff_ne.mpr c62
            by_cases c83 : t487 = 3
            ·
             rw [if_pos c83] at H
             have c83b0 : (t487 == 3) = true := beq_iff_eq.mpr c83
             have c83b1 : (t487 != 3) = false := bne_eq_false_iff_eq.mpr c83
             clear c83
             obtain rfl := Option.some.inj H
             have hnb84 := NB493_476.out
             have hnc84 := NB476_493.out
             have hnb85 := NB493_477.out
             have hnc85 := NB477_493.out
             have hnb86 := NB493_484.out
             have hnc86 := NB484_493.out
             obtain ⟨⟨hcz87_0, hcz87_1, hcz87_2, hcz87_3, hcz87_4, hcz87_5, hcz87_6⟩, hfz87_0, hfz87_1, hfz87_2, hfz87_3, hfz87_4, hfz87_5, hfz87_6⟩ := Zk7 BK493
             have hnb88 := NB477_476.out
             have hnc88 := NB476_477.out
             have hnb89 := NB477_484.out
             have hnc89 := NB484_477.out
             obtain ⟨⟨hcz90_0, hcz90_1, hcz90_2, hcz90_3, hcz90_4, hcz90_5, hcz90_6⟩, hfz90_0, hfz90_1, hfz90_2, hfz90_3, hfz90_4, hfz90_5, hfz90_6⟩ := Zk7 BK477
             have hnb91 := NB476_484.out
             have hnc91 := NB484_476.out
             obtain ⟨⟨hcz92_0, hcz92_1⟩, hfz92_0, hfz92_1⟩ := Zk2 BK476
             go_wp2
             repeat (go_quiet (fail); try go_wp2)
             go_ret
             first | (refine absurd c61b0 ?_; simp [*]; done) | exact ⟨by first | rfl | (simp [errW_none, errW_some] <;> rfl) | (simp [*, errW_none, errW_some] <;> rfl), Yr HB⟩
            ·
             rw [if_neg c83] at H
             have c83b0 : (t487 == 3) = false := beq_eq_false_iff_ne.mpr c83
             have c83b1 : (t487 != 3) = true := bne_iff_ne.mpr c83
             exact absurd ((Option.some.inj H).trans HRT_.out) (by decide)
          ·
           rw [if_neg c61] at H
           have c61b0 : (t488 == (wrap64 (a1_3 + 1))) = false := beq_eq_false_iff_ne.mpr c61
           have c61b1 : (t488 != (wrap64 (a1_3 + 1))) = true := bne_iff_ne.mpr c61
           exact absurd ((Option.some.inj H).trans HRT_.out) (by decide)
         ·
          replace c60 := Bool.eq_false_iff.mpr c60
          subst c60
          have H1 : (some false) = some r := by rw [if_neg (show ¬ (false = true) by decide)] at H; exact H
          clear H
          have H := H1
          clear H1
          exact absurd ((Option.some.inj H).trans HRT_.out) (by decide)
        ·
         replace c59 := Bool.eq_false_iff.mpr c59
         subst c59
         have H1 : (if a2 = 1 then (palinodelaw19_SagaSteps.j2 kj45 t478 (decide (a1_4 < ((rd_T53 l0_1 a1_3).f0))) true a1_0 a1_1 a1_2 a1_3 a1_4 a1_5 a1_6 t479 t480 t481 t482 t485 t486 t487 t488 t489 t490 t491) else (if a2 = 2 then (palinodelaw19_SagaSteps.j2 kj45 t478 (decide (a1_4 < ((rd_T53 l0_1 a1_3).f0))) (t481 == 1) a1_0 a1_1 a1_2 a1_3 a1_4 a1_5 a1_6 t479 t480 t481 t482 t485 t486 t487 t488 t489 t490 t491) else (palinodelaw19_SagaSteps.j2 kj45 t478 (decide (a1_4 < ((rd_T53 l0_1 a1_3).f0))) false a1_0 a1_1 a1_2 a1_3 a1_4 a1_5 a1_6 t479 t480 t481 t482 t485 t486 t487 t488 t489 t490 t491))) = some r := by rw [if_neg (show ¬ (false = true) by decide)] at H; exact H
         clear H
         have H := H1
         clear H1
         have HC93 := Aside0.mk H
         clear H
         go_upto_region 9 with (fail)
         repeat (go_quiet (fail); go_upto_region 9 with (fail))
         go_cut [113] (fun v113 wc => ∃ (kq : Nat) (x113_92 : Bool), v113 = .bool x113_92 ∧ Aside0 (palinodelaw19_SagaSteps.j2 kq t478 (decide (a1_4 < ((rd_T53 l0_1 a1_3).f0))) x113_92 a1_0 a1_1 a1_2 a1_3 a1_4 a1_5 a1_6 t479 t480 t481 t482 t485 t486 t487 t488 t489 t490 t491 = some r) ∧ Aside0 (kq ≤ kj45) ∧ Aside0 (wc.heap[gb476]? = some (.cells #[.string a0_0, (.slice (some ad494) l0_1.length c0_1)] 24 (0, 0))) ∧ Aside0 (wc.heap[gb477]? = some (.cells #[.string a1_0, .string a1_1, .int .i64 a1_2, .int .i64 a1_3, .int .i64 a1_4, .int .i64 a1_5, .bool a1_6] 26 (0, 0))) ∧ Aside0 (wc.heap[gb484]? = some (.cells #[.string t479, .int .i64 t480, .int .i64 t481, .int .i64 t482] 35 (0, 0))) ∧ Aside0 (wc.heap[gb493]? = some (.cells #[.string t485, .string t486, .int .i64 t487, .int .i64 t488, .int .i64 t489, .int .i64 t490, .bool t491] 26 (0, 0))) ∧ Aside0 (Below w.heap.size w wc))
         case first =>
          have H := HC93.out
          clear HC93
          by_cases c94 : a2 = 1
          ·
           rw [if_pos c94] at H
           have c94b0 : (a2 == 1) = true := beq_iff_eq.mpr c94
           have c94b1 : (a2 != 1) = false := bne_eq_false_iff_eq.mpr c94
           clear c94
           (first | rw [c94b0] | (simp only [i64_w, i32_w]; rw [c94b0]) | skip)
           have H' := Aside0.mk H
           clear H
           go_wp2
           repeat (go_quiet (fail); try go_wp2)
           go_meet
           case rel => exact ⟨_, (true), (by first | rfl | (simp; done) | (simp [*]; done)), H', ⟨by have := HJ7.out; have := HJ45.out; first | omega | exact Nat.le_refl _⟩, ⟨by (with_reducible repeat (first | refine Zn ?_ _ | refine Zd ?_ | refine Za ?_ _)); exact BK476.out⟩, ⟨by (with_reducible repeat (first | refine Zn ?_ _ | refine Zd ?_ | refine Za ?_ _)); exact BK477.out⟩, ⟨by (with_reducible repeat (first | refine Zn ?_ _ | refine Zd ?_ | refine Za ?_ _)); exact BK484.out⟩, ⟨by (with_reducible repeat (first | refine Zn ?_ _ | refine Zd ?_ | refine Za ?_ _)); exact BK493.out⟩, ⟨Yr HB⟩⟩
          ·
           rw [if_neg c94] at H
           have c94b0 : (a2 == 1) = false := beq_eq_false_iff_ne.mpr c94
           have c94b1 : (a2 != 1) = true := bne_iff_ne.mpr c94
           (first | rw [c94b0] | (simp only [i64_w, i32_w]; rw [c94b0]) | skip)
           by_cases c95 : a2 = 2
           ·
            rw [if_pos c95] at H
            have c95b0 : (a2 == 2) = true := beq_iff_eq.mpr c95
            have c95b1 : (a2 != 2) = false := bne_eq_false_iff_eq.mpr c95
            clear c95
            have H' := Aside0.mk H
            clear H
            have hnb96 := NB484_476.out
            have hnc96 := NB476_484.out
            have hnb97 := NB484_477.out
            have hnc97 := NB477_484.out
            have hnb98 := NB484_493.out
            have hnc98 := NB493_484.out
            obtain ⟨⟨hcz99_0, hcz99_1, hcz99_2, hcz99_3⟩, hfz99_0, hfz99_1, hfz99_2, hfz99_3⟩ := Zk4 BK484
            go_wp2
            repeat (go_quiet (fail); try go_wp2)
            go_meet
            case rel => exact ⟨_, ((t481 == 1)), (by first | rfl | (simp; done) | (simp [*]; done)), H', ⟨by have := HJ7.out; have := HJ45.out; first | omega | exact Nat.le_refl _⟩, ⟨by (with_reducible repeat (first | refine Zn ?_ _ | refine Zd ?_ | refine Za ?_ _)); exact BK476.out⟩, ⟨by (with_reducible repeat (first | refine Zn ?_ _ | refine Zd ?_ | refine Za ?_ _)); exact BK477.out⟩, ⟨by (with_reducible repeat (first | refine Zn ?_ _ | refine Zd ?_ | refine Za ?_ _)); exact BK484.out⟩, ⟨by (with_reducible repeat (first | refine Zn ?_ _ | refine Zd ?_ | refine Za ?_ _)); exact BK493.out⟩, ⟨Yr HB⟩⟩
           ·
            rw [if_neg c95] at H
            have c95b0 : (a2 == 2) = false := beq_eq_false_iff_ne.mpr c95
            have c95b1 : (a2 != 2) = true := bne_iff_ne.mpr c95
            have H' := Aside0.mk H
            clear H
            go_wp2
            repeat (go_quiet (fail); try go_wp2)
            go_meet
            case rel => exact ⟨_, (false), (by first | rfl | (simp; done) | (simp [*]; done)), H', ⟨by have := HJ7.out; have := HJ45.out; first | omega | exact Nat.le_refl _⟩, ⟨by (with_reducible repeat (first | refine Zn ?_ _ | refine Zd ?_ | refine Za ?_ _)); exact BK476.out⟩, ⟨by (with_reducible repeat (first | refine Zn ?_ _ | refine Zd ?_ | refine Za ?_ _)); exact BK477.out⟩, ⟨by (with_reducible repeat (first | refine Zn ?_ _ | refine Zd ?_ | refine Za ?_ _)); exact BK484.out⟩, ⟨by (with_reducible repeat (first | refine Zn ?_ _ | refine Zd ?_ | refine Za ?_ _)); exact BK493.out⟩, ⟨Yr HB⟩⟩
         case rest =>
          clear HC93
          try clear c1
          try clear c2
          try clear p2
          try clear c3
          try clear c4
          try clear p4
          try clear q4
          try clear hx4
          try clear c5
          try clear c6
          try clear p6
          try clear c7
          try clear c8
          try clear c9
          try clear c12
          try clear c16
          try clear c17
          try clear c23
          try clear c24
          try clear c25
          try clear c27
          try clear c28
          try clear c29
          try clear c29b0
          try clear c30
          try clear c31
          try clear c32
          try clear c34
          try clear c35
          try clear c36
          try clear c38
          try clear c39
          try clear c41
          try clear c42
          try clear c43
          try clear c44
          try clear c44b0
          try clear c45
          try clear c45b0
          try clear c47
          try clear c48
          try clear c49
          try clear p49
          try clear q49
          try clear hx49
          try clear c51
          try clear c52
          try clear c54
          try clear c54b0
          try clear c54b1
          try clear c55
          try clear c56
          try clear c57
          try clear c59
          try clear c60
          try clear c61
          try clear c61b0
          try clear c61b1
          try clear c62
          try clear c62b0
          try clear c62b1
          try clear c63
          try clear c63b0
          try clear c64
          try clear p64
          try clear c65
          try clear c66
          try clear c68
          try clear c69
          try clear c71
          try clear c73
          try clear c73b0
          try clear c73b1
          try clear c74
          try clear c75
          try clear c76
          try clear c78
          try clear c79
          try clear c81
          try clear c83
          try clear c83b0
          try clear c83b1
          try clear c84
          try clear c85
          try clear c86
          try clear c88
          try clear c89
          try clear c91
          try clear c94
          try clear c94b0
          try clear c94b1
          try clear c95
          try clear c95b0
          try clear c95b1
          try clear c96
          try clear c97
          try clear c98
          try clear hcz13_0
          try clear hcz13_1
          try clear hcz13_2
          try clear hcz13_3
          try clear hcz13_4
          try clear hcz13_5
          try clear hcz13_6
          try clear hcz18_0
          try clear hcz18_1
          try clear hcz18_2
          try clear hcz18_3
          try clear hcz19_0
          try clear hcz19_1
          try clear hcz20_0
          try clear hcz20_1
          try clear hcz20_2
          try clear hcz20_3
          try clear hcz20_4
          try clear hcz20_5
          try clear hcz20_6
          try clear hcz26_0
          try clear hcz26_1
          try clear hcz26_2
          try clear hcz26_3
          try clear hcz26_4
          try clear hcz26_5
          try clear hcz26_6
          try clear hcz33_0
          try clear hcz33_1
          try clear hcz33_2
          try clear hcz33_3
          try clear hcz33_4
          try clear hcz33_5
          try clear hcz33_6
          try clear hcz37_0
          try clear hcz37_1
          try clear hcz37_2
          try clear hcz37_3
          try clear hcz37_4
          try clear hcz37_5
          try clear hcz37_6
          try clear hcz40_0
          try clear hcz40_1
          try clear hcz50_0
          try clear hcz50_1
          try clear hcz50_2
          try clear hcz50_3
          try clear hcz50_4
          try clear hcz50_5
          try clear hcz50_6
          try clear hcz53_0
          try clear hcz53_1
          try clear hcz58_0
          try clear hcz58_1
          try clear hcz58_2
          try clear hcz58_3
          try clear hcz67_0
          try clear hcz67_1
          try clear hcz67_2
          try clear hcz67_3
          try clear hcz67_4
          try clear hcz67_5
          try clear hcz67_6
          try clear hcz70_0
          try clear hcz70_1
          try clear hcz70_2
          try clear hcz70_3
          try clear hcz70_4
          try clear hcz70_5
          try clear hcz70_6
          try clear hcz72_0
          try clear hcz72_1
          try clear hcz77_0
          try clear hcz77_1
          try clear hcz77_2
          try clear hcz77_3
          try clear hcz77_4
          try clear hcz77_5
          try clear hcz77_6
          try clear hcz80_0
          try clear hcz80_1
          try clear hcz80_2
          try clear hcz80_3
          try clear hcz80_4
          try clear hcz80_5
          try clear hcz80_6
          try clear hcz82_0
          try clear hcz82_1
          try clear hcz87_0
          try clear hcz87_1
          try clear hcz87_2
          try clear hcz87_3
          try clear hcz87_4
          try clear hcz87_5
          try clear hcz87_6
          try clear hcz90_0
          try clear hcz90_1
          try clear hcz90_2
          try clear hcz90_3
          try clear hcz90_4
          try clear hcz90_5
          try clear hcz90_6
          try clear hcz92_0
          try clear hcz92_1
          try clear hcz99_0
          try clear hcz99_1
          try clear hcz99_2
          try clear hcz99_3
          try clear hfz13_0
          try clear hfz13_1
          try clear hfz13_2
          try clear hfz13_3
          try clear hfz13_4
          try clear hfz13_5
          try clear hfz13_6
          try clear hfz18_0
          try clear hfz18_1
          try clear hfz18_2
          try clear hfz18_3
          try clear hfz19_0
          try clear hfz19_1
          try clear hfz20_0
          try clear hfz20_1
          try clear hfz20_2
          try clear hfz20_3
          try clear hfz20_4
          try clear hfz20_5
          try clear hfz20_6
          try clear hfz26_0
          try clear hfz26_1
          try clear hfz26_2
          try clear hfz26_3
          try clear hfz26_4
          try clear hfz26_5
          try clear hfz26_6
          try clear hfz33_0
          try clear hfz33_1
          try clear hfz33_2
          try clear hfz33_3
          try clear hfz33_4
          try clear hfz33_5
          try clear hfz33_6
          try clear hfz37_0
          try clear hfz37_1
          try clear hfz37_2
          try clear hfz37_3
          try clear hfz37_4
          try clear hfz37_5
          try clear hfz37_6
          try clear hfz40_0
          try clear hfz40_1
          try clear hfz50_0
          try clear hfz50_1
          try clear hfz50_2
          try clear hfz50_3
          try clear hfz50_4
          try clear hfz50_5
          try clear hfz50_6
          try clear hfz53_0
          try clear hfz53_1
          try clear hfz58_0
          try clear hfz58_1
          try clear hfz58_2
          try clear hfz58_3
          try clear hfz67_0
          try clear hfz67_1
          try clear hfz67_2
          try clear hfz67_3
          try clear hfz67_4
          try clear hfz67_5
          try clear hfz67_6
          try clear hfz70_0
          try clear hfz70_1
          try clear hfz70_2
          try clear hfz70_3
          try clear hfz70_4
          try clear hfz70_5
          try clear hfz70_6
          try clear hfz72_0
          try clear hfz72_1
          try clear hfz77_0
          try clear hfz77_1
          try clear hfz77_2
          try clear hfz77_3
          try clear hfz77_4
          try clear hfz77_5
          try clear hfz77_6
          try clear hfz80_0
          try clear hfz80_1
          try clear hfz80_2
          try clear hfz80_3
          try clear hfz80_4
          try clear hfz80_5
          try clear hfz80_6
          try clear hfz82_0
          try clear hfz82_1
          try clear hfz87_0
          try clear hfz87_1
          try clear hfz87_2
          try clear hfz87_3
          try clear hfz87_4
          try clear hfz87_5
          try clear hfz87_6
          try clear hfz90_0
          try clear hfz90_1
          try clear hfz90_2
          try clear hfz90_3
          try clear hfz90_4
          try clear hfz90_5
          try clear hfz90_6
          try clear hfz92_0
          try clear hfz92_1
          try clear hfz99_0
          try clear hfz99_1
          try clear hfz99_2
          try clear hfz99_3
          try clear hx494_0
          try clear hx494_1
          try clear p2
          try clear p4
          try clear p49
          try clear p494
          try clear q4
          try clear q49
          try clear q494
          obtain ⟨kq, x113_92, rfl, HA, HJ92, BK476, BK477, BK484, BK493, HB⟩ := hcut
          cases kq with
          | zero => exact absurd HA.out (by simp [palinodelaw19_SagaSteps.j2])
          | succ kj92 =>
           have H := HA.out
           clear HA
           simp only [palinodelaw19_SagaSteps.j2] at H
           by_cases c100 : x113_92 = true
           ·
            subst c100
            have H1 : (if t478 = true then (if a1_3 = 0 then (if t487 = 4 then (some true) else (if a1_3 > 0 then (if t487 = 2 then (some (t488 == (wrap64 (a1_3 - 1)))) else (some false)) else (some false))) else (if a1_3 > 0 then (if t487 = 2 then (some (t488 == (wrap64 (a1_3 - 1)))) else (some false)) else (some false))) else (some false)) = some r := by rw [if_pos rfl] at H; exact H
            clear H
            have H := H1
            clear H1
            by_cases c101 : t478 = true
            ·
             subst c101
             have H1 : (if a1_3 = 0 then (if t487 = 4 then (some true) else (if a1_3 > 0 then (if t487 = 2 then (some (t488 == (wrap64 (a1_3 - 1)))) else (some false)) else (some false))) else (if a1_3 > 0 then (if t487 = 2 then (some (t488 == (wrap64 (a1_3 - 1)))) else (some false)) else (some false))) = some r := by rw [if_pos rfl] at H; exact H
             clear H
             have H := H1
             clear H1
             by_cases c102 : a1_3 = 0
             ·
              rw [if_pos c102] at H
              have c102b0 : (a1_3 == 0) = true := beq_iff_eq.mpr c102
              have c102b1 : (a1_3 != 0) = false := bne_eq_false_iff_eq.mpr c102
              clear c102
              by_cases c103 : t487 = 4
              ·
               rw [if_pos c103] at H
               have c103b0 : (t487 == 4) = true := beq_iff_eq.mpr c103
               have c103b1 : (t487 != 4) = false := bne_eq_false_iff_eq.mpr c103
               clear c103
               obtain rfl := Option.some.inj H
               have hnb104 := NB477_476.out
               have hnc104 := NB476_477.out
               have hnb105 := NB477_484.out
               have hnc105 := NB484_477.out
               have hnb106 := NB477_493.out
               have hnc106 := NB493_477.out
               obtain ⟨⟨hcz107_0, hcz107_1, hcz107_2, hcz107_3, hcz107_4, hcz107_5, hcz107_6⟩, hfz107_0, hfz107_1, hfz107_2, hfz107_3, hfz107_4, hfz107_5, hfz107_6⟩ := Zk7 BK477
               have hnb108 := NB493_476.out
               have hnc108 := NB476_493.out
               have hnb109 := NB493_484.out
               have hnc109 := NB484_493.out
               obtain ⟨⟨hcz110_0, hcz110_1, hcz110_2, hcz110_3, hcz110_4, hcz110_5, hcz110_6⟩, hfz110_0, hfz110_1, hfz110_2, hfz110_3, hfz110_4, hfz110_5, hfz110_6⟩ := Zk7 BK493
               go_wp2
               repeat (go_quiet (fail); try go_wp2)
               go_ret
               exact ⟨by first | rfl | (simp [errW_none, errW_some] <;> rfl) | (simp [*, errW_none, errW_some] <;> rfl), Yr HB⟩
              ·
               rw [if_neg c103] at H
               have c103b0 : (t487 == 4) = false := beq_eq_false_iff_ne.mpr c103
               have c103b1 : (t487 != 4) = true := bne_iff_ne.mpr c103
               by_cases c111 : a1_3 > 0
               ·
                rw [if_pos c111] at H
                have c111b0 : decide (0 < a1_3) = true := decide_eq_true c111
                clear c111
                by_cases c112 : t487 = 2
                ·
                 rw [if_pos c112] at H
                 have c112b0 : (t487 == 2) = true := beq_iff_eq.mpr c112
                 have c112b1 : (t487 != 2) = false := bne_eq_false_iff_eq.mpr c112
                 clear c112
                 obtain rfl := Option.some.inj H
                 have hnb113 := NB477_476.out
                 have hnc113 := NB476_477.out
                 have hnb114 := NB477_484.out
                 have hnc114 := NB484_477.out
                 have hnb115 := NB477_493.out
                 have hnc115 := NB493_477.out
                 obtain ⟨⟨hcz116_0, hcz116_1, hcz116_2, hcz116_3, hcz116_4, hcz116_5, hcz116_6⟩, hfz116_0, hfz116_1, hfz116_2, hfz116_3, hfz116_4, hfz116_5, hfz116_6⟩ := Zk7 BK477
                 have hnb117 := NB493_476.out
                 have hnc117 := NB476_493.out
                 have hnb118 := NB493_484.out
                 have hnc118 := NB484_493.out
                 obtain ⟨⟨hcz119_0, hcz119_1, hcz119_2, hcz119_3, hcz119_4, hcz119_5, hcz119_6⟩, hfz119_0, hfz119_1, hfz119_2, hfz119_3, hfz119_4, hfz119_5, hfz119_6⟩ := Zk7 BK493
                 go_wp2
                 repeat (go_quiet (fail); try go_wp2)
                 go_ret
                 exact ⟨by first | rfl | (simp [errW_none, errW_some] <;> rfl) | (simp [*, errW_none, errW_some] <;> rfl), Yr HB⟩
                ·
                 rw [if_neg c112] at H
                 have c112b0 : (t487 == 2) = false := beq_eq_false_iff_ne.mpr c112
                 have c112b1 : (t487 != 2) = true := bne_iff_ne.mpr c112
                 exact absurd ((Option.some.inj H).trans HRT_.out) (by decide)
               ·
                rw [if_neg c111] at H
                have c111b0 : decide (0 < a1_3) = false := decide_eq_false c111
                clear c111
                exact absurd ((Option.some.inj H).trans HRT_.out) (by decide)
             ·
              rw [if_neg c102] at H
              have c102b0 : (a1_3 == 0) = false := beq_eq_false_iff_ne.mpr c102
              have c102b1 : (a1_3 != 0) = true := bne_iff_ne.mpr c102
              by_cases c120 : a1_3 > 0
              ·
               rw [if_pos c120] at H
               have c120b0 : decide (0 < a1_3) = true := decide_eq_true c120
               clear c120
               by_cases c121 : t487 = 2
               ·
                rw [if_pos c121] at H
                have c121b0 : (t487 == 2) = true := beq_iff_eq.mpr c121
                have c121b1 : (t487 != 2) = false := bne_eq_false_iff_eq.mpr c121
                clear c121
                obtain rfl := Option.some.inj H
                have hnb122 := NB477_476.out
                have hnc122 := NB476_477.out
                have hnb123 := NB477_484.out
                have hnc123 := NB484_477.out
                have hnb124 := NB477_493.out
                have hnc124 := NB493_477.out
                obtain ⟨⟨hcz125_0, hcz125_1, hcz125_2, hcz125_3, hcz125_4, hcz125_5, hcz125_6⟩, hfz125_0, hfz125_1, hfz125_2, hfz125_3, hfz125_4, hfz125_5, hfz125_6⟩ := Zk7 BK477
                have hnb126 := NB493_476.out
                have hnc126 := NB476_493.out
                have hnb127 := NB493_484.out
                have hnc127 := NB484_493.out
                obtain ⟨⟨hcz128_0, hcz128_1, hcz128_2, hcz128_3, hcz128_4, hcz128_5, hcz128_6⟩, hfz128_0, hfz128_1, hfz128_2, hfz128_3, hfz128_4, hfz128_5, hfz128_6⟩ := Zk7 BK493
                go_wp2
                repeat (go_quiet (fail); try go_wp2)
                go_ret
                exact ⟨by first | rfl | (simp [errW_none, errW_some] <;> rfl) | (simp [*, errW_none, errW_some] <;> rfl), Yr HB⟩
               ·
                rw [if_neg c121] at H
                have c121b0 : (t487 == 2) = false := beq_eq_false_iff_ne.mpr c121
                have c121b1 : (t487 != 2) = true := bne_iff_ne.mpr c121
                exact absurd ((Option.some.inj H).trans HRT_.out) (by decide)
              ·
               rw [if_neg c120] at H
               have c120b0 : decide (0 < a1_3) = false := decide_eq_false c120
               clear c120
               exact absurd ((Option.some.inj H).trans HRT_.out) (by decide)
            ·
             replace c101 := Bool.eq_false_iff.mpr c101
             subst c101
             have H1 : (some false) = some r := by rw [if_neg (show ¬ (false = true) by decide)] at H; exact H
             clear H
             have H := H1
             clear H1
             exact absurd ((Option.some.inj H).trans HRT_.out) (by decide)
           ·
            replace c100 := Bool.eq_false_iff.mpr c100
            subst c100
            have H1 : (if (decide (a1_4 < ((rd_T53 l0_1 a1_3).f0))) = true then (if t478 = true then (if t487 = a1_2 then (if t488 = a1_3 then (some (t489 == (wrap64 (a1_4 + 1)))) else (some false)) else (some false)) else (some false)) else (if t481 = 1 then (if t478 = true then (if t487 = 2 then (if t488 = a1_3 then (some (t489 == 0)) else (some false)) else (some false)) else (some false)) else (if t478 = true then (if t487 = 5 then (some (t488 == a1_3)) else (some false)) else (some false)))) = some r := by rw [if_neg (show ¬ (false = true) by decide)] at H; exact H
            clear H
            have H := H1
            clear H1
            by_cases c129 : (decide (a1_4 < ((rd_T53 l0_1 a1_3).f0))) = true
            ·
             rw [if_pos c129] at H
             have c129b0 : (decide (a1_4 < ((rd_T53 l0_1 a1_3).f0))) = true := c129
             (try (have c129b1 : (a1_4 < ((rd_T53 l0_1 a1_3).f0)) := by simpa using c129))
             clear c129
             by_cases c130 : t478 = true
             ·
              subst c130
              have H1 : (if t487 = a1_2 then (if t488 = a1_3 then (some (t489 == (wrap64 (a1_4 + 1)))) else (some false)) else (some false)) = some r := by rw [if_pos rfl] at H; exact H
              clear H
              have H := H1
              clear H1
              by_cases c131 : t487 = a1_2
              ·
               rw [if_pos c131] at H
               have c131b0 : (t487 == a1_2) = true := beq_iff_eq.mpr c131
               have c131b1 : (t487 != a1_2) = false := bne_eq_false_iff_eq.mpr c131
               clear c131
               by_cases c132 : t488 = a1_3
               ·
                rw [if_pos c132] at H
                have c132b0 : (t488 == a1_3) = true := beq_iff_eq.mpr c132
                have c132b1 : (t488 != a1_3) = false := bne_eq_false_iff_eq.mpr c132
                clear c132
                obtain rfl := Option.some.inj H
                have hnb133 := NB493_476.out
                have hnc133 := NB476_493.out
                have hnb134 := NB493_477.out
                have hnc134 := NB477_493.out
                have hnb135 := NB493_484.out
                have hnc135 := NB484_493.out
                obtain ⟨⟨hcz136_0, hcz136_1, hcz136_2, hcz136_3, hcz136_4, hcz136_5, hcz136_6⟩, hfz136_0, hfz136_1, hfz136_2, hfz136_3, hfz136_4, hfz136_5, hfz136_6⟩ := Zk7 BK493
                have hnb137 := NB477_476.out
                have hnc137 := NB476_477.out
                have hnb138 := NB477_484.out
                have hnc138 := NB484_477.out
                obtain ⟨⟨hcz139_0, hcz139_1, hcz139_2, hcz139_3, hcz139_4, hcz139_5, hcz139_6⟩, hfz139_0, hfz139_1, hfz139_2, hfz139_3, hfz139_4, hfz139_5, hfz139_6⟩ := Zk7 BK477
                go_wp2
                repeat (go_quiet (fail); try go_wp2)
                go_ret
                exact ⟨by first | rfl | (simp [errW_none, errW_some] <;> rfl) | (simp [*, errW_none, errW_some] <;> rfl), Yr HB⟩
               ·
                rw [if_neg c132] at H
                have c132b0 : (t488 == a1_3) = false := beq_eq_false_iff_ne.mpr c132
                have c132b1 : (t488 != a1_3) = true := bne_iff_ne.mpr c132
                exact absurd ((Option.some.inj H).trans HRT_.out) (by decide)
              ·
               rw [if_neg c131] at H
               have c131b0 : (t487 == a1_2) = false := beq_eq_false_iff_ne.mpr c131
               have c131b1 : (t487 != a1_2) = true := bne_iff_ne.mpr c131
               exact absurd ((Option.some.inj H).trans HRT_.out) (by decide)
             ·
              replace c130 := Bool.eq_false_iff.mpr c130
              subst c130
              have H1 : (some false) = some r := by rw [if_neg (show ¬ (false = true) by decide)] at H; exact H
              clear H
              have H := H1
              clear H1
              exact absurd ((Option.some.inj H).trans HRT_.out) (by decide)
            ·
             rw [if_neg c129] at H
             have c129b0 : (decide (a1_4 < ((rd_T53 l0_1 a1_3).f0))) = false := by simpa using c129
             (try (have c129b1 : ¬ (a1_4 < ((rd_T53 l0_1 a1_3).f0)) := by simpa using c129))
             clear c129
             by_cases c140 : t481 = 1
             ·
              rw [if_pos c140] at H
              have c140b0 : (t481 == 1) = true := beq_iff_eq.mpr c140
              have c140b1 : (t481 != 1) = false := bne_eq_false_iff_eq.mpr c140
              clear c140
              by_cases c141 : t478 = true
              ·
               subst c141
               have H1 : (if t487 = 2 then (if t488 = a1_3 then (some (t489 == 0)) else (some false)) else (some false)) = some r := by rw [if_pos rfl] at H; exact H
               clear H
               have H := H1
               clear H1
               by_cases c142 : t487 = 2
               ·
                rw [if_pos c142] at H
                have c142b0 : (t487 == 2) = true := beq_iff_eq.mpr c142
                have c142b1 : (t487 != 2) = false := bne_eq_false_iff_eq.mpr c142
                clear c142
                by_cases c143 : t488 = a1_3
                ·
                 rw [if_pos c143] at H
                 have c143b0 : (t488 == a1_3) = true := beq_iff_eq.mpr c143
                 have c143b1 : (t488 != a1_3) = false := bne_eq_false_iff_eq.mpr c143
                 clear c143
                 obtain rfl := Option.some.inj H
                 have hnb144 := NB484_476.out
                 have hnc144 := NB476_484.out
                 have hnb145 := NB484_477.out
                 have hnc145 := NB477_484.out
                 have hnb146 := NB484_493.out
                 have hnc146 := NB493_484.out
                 obtain ⟨⟨hcz147_0, hcz147_1, hcz147_2, hcz147_3⟩, hfz147_0, hfz147_1, hfz147_2, hfz147_3⟩ := Zk4 BK484
                 have hnb148 := NB493_476.out
                 have hnc148 := NB476_493.out
                 have hnb149 := NB493_477.out
                 have hnc149 := NB477_493.out
                 obtain ⟨⟨hcz150_0, hcz150_1, hcz150_2, hcz150_3, hcz150_4, hcz150_5, hcz150_6⟩, hfz150_0, hfz150_1, hfz150_2, hfz150_3, hfz150_4, hfz150_5, hfz150_6⟩ := Zk7 BK493
                 have hnb151 := NB477_476.out
                 have hnc151 := NB476_477.out
                 obtain ⟨⟨hcz152_0, hcz152_1, hcz152_2, hcz152_3, hcz152_4, hcz152_5, hcz152_6⟩, hfz152_0, hfz152_1, hfz152_2, hfz152_3, hfz152_4, hfz152_5, hfz152_6⟩ := Zk7 BK477
                 go_wp2
                 repeat (go_quiet (fail); try go_wp2)
                 go_ret
                 exact ⟨by first | rfl | (simp [errW_none, errW_some] <;> rfl) | (simp [*, errW_none, errW_some] <;> rfl), Yr HB⟩
                ·
                 rw [if_neg c143] at H
                 have c143b0 : (t488 == a1_3) = false := beq_eq_false_iff_ne.mpr c143
                 have c143b1 : (t488 != a1_3) = true := bne_iff_ne.mpr c143
                 exact absurd ((Option.some.inj H).trans HRT_.out) (by decide)
               ·
                rw [if_neg c142] at H
                have c142b0 : (t487 == 2) = false := beq_eq_false_iff_ne.mpr c142
                have c142b1 : (t487 != 2) = true := bne_iff_ne.mpr c142
                exact absurd ((Option.some.inj H).trans HRT_.out) (by decide)
              ·
               replace c141 := Bool.eq_false_iff.mpr c141
               subst c141
               have H1 : (some false) = some r := by rw [if_neg (show ¬ (false = true) by decide)] at H; exact H
               clear H
               have H := H1
               clear H1
               exact absurd ((Option.some.inj H).trans HRT_.out) (by decide)
             ·
              rw [if_neg c140] at H
              have c140b0 : (t481 == 1) = false := beq_eq_false_iff_ne.mpr c140
              have c140b1 : (t481 != 1) = true := bne_iff_ne.mpr c140
              by_cases c153 : t478 = true
              ·
               subst c153
               have H1 : (if t487 = 5 then (some (t488 == a1_3)) else (some false)) = some r := by rw [if_pos rfl] at H; exact H
               clear H
               have H := H1
               clear H1
               by_cases c154 : t487 = 5
               ·
                rw [if_pos c154] at H
                have c154b0 : (t487 == 5) = true := beq_iff_eq.mpr c154
                have c154b1 : (t487 != 5) = false := bne_eq_false_iff_eq.mpr c154
                clear c154
                obtain rfl := Option.some.inj H
                have hnb155 := NB484_476.out
                have hnc155 := NB476_484.out
                have hnb156 := NB484_477.out
                have hnc156 := NB477_484.out
                have hnb157 := NB484_493.out
                have hnc157 := NB493_484.out
                obtain ⟨⟨hcz158_0, hcz158_1, hcz158_2, hcz158_3⟩, hfz158_0, hfz158_1, hfz158_2, hfz158_3⟩ := Zk4 BK484
                have hnb159 := NB493_476.out
                have hnc159 := NB476_493.out
                have hnb160 := NB493_477.out
                have hnc160 := NB477_493.out
                obtain ⟨⟨hcz161_0, hcz161_1, hcz161_2, hcz161_3, hcz161_4, hcz161_5, hcz161_6⟩, hfz161_0, hfz161_1, hfz161_2, hfz161_3, hfz161_4, hfz161_5, hfz161_6⟩ := Zk7 BK493
                have hnb162 := NB477_476.out
                have hnc162 := NB476_477.out
                obtain ⟨⟨hcz163_0, hcz163_1, hcz163_2, hcz163_3, hcz163_4, hcz163_5, hcz163_6⟩, hfz163_0, hfz163_1, hfz163_2, hfz163_3, hfz163_4, hfz163_5, hfz163_6⟩ := Zk7 BK477
                go_wp2
                repeat (go_quiet (fail); try go_wp2)
                go_ret
                exact ⟨by first | rfl | (simp [errW_none, errW_some] <;> rfl) | (simp [*, errW_none, errW_some] <;> rfl), Yr HB⟩
               ·
                rw [if_neg c154] at H
                have c154b0 : (t487 == 5) = false := beq_eq_false_iff_ne.mpr c154
                have c154b1 : (t487 != 5) = true := bne_iff_ne.mpr c154
                exact absurd ((Option.some.inj H).trans HRT_.out) (by decide)
              ·
               replace c153 := Bool.eq_false_iff.mpr c153
               subst c153
               have H1 : (some false) = some r := by rw [if_neg (show ¬ (false = true) by decide)] at H; exact H
               clear H
               have H := H1
               clear H1
               exact absurd ((Option.some.inj H).trans HRT_.out) (by decide)
     ·
      rw [if_neg c45] at H
      exact absurd H (by simp)
    ·
     rw [if_neg c44] at H
     exact absurd H (by simp)

/-- THE ONE PURE STATEMENT of palinodelaw19_SagaSteps. -/
def palinodelaw19_SagaSteps.Pure : Prop := (∀ k_ r_, palinodelaw19_examples.f k_ = some r_ → r_ = true) ∧ ∀ (a0_0 : ByteArray) (l0_1 : List (S53)) (a1_0 : ByteArray) (a1_1 : ByteArray) (a1_2 : Int) (a1_3 : Int) (a1_4 : Int) (a1_5 : Int) (a1_6 : Bool) (a2 : Int) (a3 : Int), a0_0.size ≤ 140737488351232 → (l0_1.length ≤ maxLen ∧ l0_1.length * 16 ≤ 140737488351232 ∧ ∀ x_ ∈ l0_1, V53 x_) → a1_0.size ≤ 140737488351232 → a1_1.size ≤ 140737488351232 → (Lit.int .i64 a1_2).wf = true → (Lit.int .i64 a1_3).wf = true → (Lit.int .i64 a1_4).wf = true → (Lit.int .i64 a1_5).wf = true → (Lit.int .i64 a2).wf = true → (Lit.int .i64 a3).wf = true → ∃ k, palinodelaw19_SagaSteps.f k a0_0 l0_1 a1_0 a1_1 a1_2 a1_3 a1_4 a1_5 a1_6 a2 a3 = some true
theorem palinodelaw19_SagaSteps.walk (P : palinodelaw19_SagaSteps.Pure) (a0_0 : ByteArray) (A0_1 : Option Addr) (c0_1 : Nat) (l0_1 : List (S53)) (a1_0 : ByteArray) (a1_1 : ByteArray) (a1_2 : Int) (a1_3 : Int) (a1_4 : Int) (a1_5 : Int) (a1_6 : Bool) (a2 : Int) (a3 : Int) (w : World) (v0_0 : a0_0.size ≤ 140737488351232) (hr0_1 : Kd.C k53 w A0_1 l0_1.length l0_1) (hc0_1 : l0_1.length ≤ c0_1) (v0_1 : (l0_1.length ≤ maxLen ∧ l0_1.length * 16 ≤ 140737488351232 ∧ ∀ x_ ∈ l0_1, V53 x_)) (v1_0 : a1_0.size ≤ 140737488351232) (v1_1 : a1_1.size ≤ 140737488351232) (v1_2 : (Lit.int .i64 a1_2).wf = true) (v1_3 : (Lit.int .i64 a1_3).wf = true) (v1_4 : (Lit.int .i64 a1_4).wf = true) (v1_5 : (Lit.int .i64 a1_5).wf = true) (v2 : (Lit.int .i64 a2).wf = true) (v3 : (Lit.int .i64 a3).wf = true) :
  Calls Try.prog 7 #[.agg #[.string a0_0, .slice A0_1 l0_1.length c0_1], .agg #[.string a1_0, .string a1_1, .int .i64 a1_2, .int .i64 a1_3, .int .i64 a1_4, .int .i64 a1_5, .bool a1_6], .int .i64 a2, .int .i64 a3] w fun e w' => e = .returned (.bool true) ∧ Below w.heap.size w w' := by
 obtain ⟨k, h⟩ := P.2 a0_0 l0_1 a1_0 a1_1 a1_2 a1_3 a1_4 a1_5 a1_6 a2 a3 v0_0 v0_1 v1_0 v1_1 v1_2 v1_3 v1_4 v1_5 v2 v3
 refine (palinodelaw19_SagaSteps.calls k a0_0 A0_1 c0_1 l0_1 a1_0 a1_1 a1_2 a1_3 a1_4 a1_5 a1_6 a2 a3 true w hr0_1 hc0_1 h ⟨P.1⟩).mono ?_
 rintro e w' ⟨rfl, hd⟩
 exact ⟨rfl, hd⟩

end Go.Proofs.Ytfhlpkcapohnoaa.Print
