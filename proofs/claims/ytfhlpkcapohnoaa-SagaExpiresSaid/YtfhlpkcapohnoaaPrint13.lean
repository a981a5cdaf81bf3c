-- Printed out of the translation by a program of this session's own. Not trusted: Lean checks it.
import Derived.Test.YtfhlpkcapohnoaaPrint0
import Derived.Test.YtfhlpkcapohnoaaPrint7
import Derived.Test.YtfhlpkcapohnoaaPrint8
import Derived.Test.YtfhlpkcapohnoaaPrint9
import Derived.Test.YtfhlpkcapohnoaaPrint12
namespace Go.Proofs.Ytfhlpkcapohnoaa.Print
open Go.RowKit Go.Proofs.YtfhlpkcapohnoaaW.PrintWords Go.Proofs.YtfhlpkcapohnoaaW.PrintLast Go.Proofs.YtfhlpkcapohnoaaX
set_option linter.unusedVariables false
set_option linter.unusedSimpArgs false

/-! ### palinoderef19_Reply: function 24 -/
mutual
def palinoderef19_Reply.j0 : Nat → Int → Int → Bool → ByteArray → List (S53) → ByteArray → ByteArray → Int → Int → Int → Int → Bool → Option (ByteArray × ByteArray × Int × Int × Int × Int × Bool × Bool)
 | 0, _, _, _, _, _, _, _, _, _, _, _, _ => none
 | k + 1, x4, x5, x56, x341000, x341001, x342000, x342001, x342002, x342003, x342004, x342005, x342006 => if x56 = true then (some (x342000, x342001, x342002, x342003, x342004, x342005, x342006, false)) else (if 0 ≤ x342003 then (if x342003 < (x341001.length : Int) then (if x342002 = 1 then (if x4 = 1 then (palinoderef19_Reply.j1 k x4 x5 (decide (x342004 < ((rd_T53 x341001 x342003).f0))) ((wrap64 (x342003 + 1)) == (x341001.length : Int)) x341000 x341001 x342000 x342001 x342002 x342003 x342004 x342005 x342006) else (palinoderef19_Reply.j1 k x4 x5 (decide (x342004 < ((rd_T53 x341001 x342003).f0))) false x341000 x341001 x342000 x342001 x342002 x342003 x342004 x342005 x342006)) else (if x4 = 1 then (palinoderef19_Reply.j3 k x4 x5 (decide (x342004 < ((rd_T53 x341001 x342003).f0))) (x342003 == 0) x341000 x341001 x342000 x342001 x342002 x342003 x342004 x342005 x342006) else (palinoderef19_Reply.j3 k x4 x5 (decide (x342004 < ((rd_T53 x341001 x342003).f0))) false x341000 x341001 x342000 x342001 x342002 x342003 x342004 x342005 x342006))) else (none)) else (none))
def palinoderef19_Reply.j1 : Nat → Int → Int → Bool → Bool → ByteArray → List (S53) → ByteArray → ByteArray → Int → Int → Int → Int → Bool → Option (ByteArray × ByteArray × Int × Int × Int × Int × Bool × Bool)
 | 0, _, _, _, _, _, _, _, _, _, _, _, _, _ => none
 | k + 1, x4, x5, x17, x71, x341000, x341001, x342000, x342001, x342002, x342003, x342004, x342005, x342006 => if x71 = true then ((palinoderef19_over.f x342000 x342001 x342002 x342003 x342004 x342005 x342006 3 (wrap64 (x342003 + 1))).bind fun bt352 => (some (bt352.1, bt352.2.1, bt352.2.2.1, bt352.2.2.2.1, bt352.2.2.2.2.1, bt352.2.2.2.2.2.1, bt352.2.2.2.2.2.2, true))) else (if x4 = 1 then ((palinoderef19_goes.f x341000 x341001 x342000 x342001 x342002 x342003 x342004 x342005 x342006 1 (wrap64 (x342003 + 1)) 0 x5).bind fun bt359 => (some (bt359.1, bt359.2.1, bt359.2.2.1, bt359.2.2.2.1, bt359.2.2.2.2.1, bt359.2.2.2.2.2.1, bt359.2.2.2.2.2.2, true))) else (if x4 = 2 then (palinoderef19_Reply.j2 k x4 x5 x17 (x342003 == 0) x341000 x341001 x342000 x342001 x342002 x342003 x342004 x342005 x342006) else (palinoderef19_Reply.j2 k x4 x5 x17 false x341000 x341001 x342000 x342001 x342002 x342003 x342004 x342005 x342006)))
def palinoderef19_Reply.j2 : Nat → Int → Int → Bool → Bool → ByteArray → List (S53) → ByteArray → ByteArray → Int → Int → Int → Int → Bool → Option (ByteArray × ByteArray × Int × Int × Int × Int × Bool × Bool)
 | 0, _, _, _, _, _, _, _, _, _, _, _, _, _ => none
 | k + 1, x4, x5, x17, x98, x341000, x341001, x342000, x342001, x342002, x342003, x342004, x342005, x342006 => if x98 = true then ((palinoderef19_over.f x342000 x342001 x342002 x342003 x342004 x342005 x342006 4 0).bind fun bt366 => (some (bt366.1, bt366.2.1, bt366.2.2.1, bt366.2.2.2.1, bt366.2.2.2.2.1, bt366.2.2.2.2.2.1, bt366.2.2.2.2.2.2, true))) else (if x4 = 2 then ((palinoderef19_goes.f x341000 x341001 x342000 x342001 x342002 x342003 x342004 x342005 x342006 2 (wrap64 (x342003 - 1)) 0 x5).bind fun bt373 => (some (bt373.1, bt373.2.1, bt373.2.2.1, bt373.2.2.2.1, bt373.2.2.2.2.1, bt373.2.2.2.2.2.1, bt373.2.2.2.2.2.2, true))) else (if x17 = true then ((palinoderef19_goes.f x341000 x341001 x342000 x342001 x342002 x342003 x342004 x342005 x342006 1 x342003 (wrap64 (x342004 + 1)) x5).bind fun bt380 => (some (bt380.1, bt380.2.1, bt380.2.2.1, bt380.2.2.2.1, bt380.2.2.2.2.1, bt380.2.2.2.2.2.1, bt380.2.2.2.2.2.2, true))) else ((palinoderef19_goes.f x341000 x341001 x342000 x342001 x342002 x342003 x342004 x342005 x342006 2 x342003 0 x5).bind fun bt387 => (some (bt387.1, bt387.2.1, bt387.2.2.1, bt387.2.2.2.1, bt387.2.2.2.2.1, bt387.2.2.2.2.2.1, bt387.2.2.2.2.2.2, true)))))
def palinoderef19_Reply.j3 : Nat → Int → Int → Bool → Bool → ByteArray → List (S53) → ByteArray → ByteArray → Int → Int → Int → Int → Bool → Option (ByteArray × ByteArray × Int × Int × Int × Int × Bool × Bool)
 | 0, _, _, _, _, _, _, _, _, _, _, _, _, _ => none
 | k + 1, x4, x5, x17, x135, x341000, x341001, x342000, x342001, x342002, x342003, x342004, x342005, x342006 => if x135 = true then ((palinoderef19_over.f x342000 x342001 x342002 x342003 x342004 x342005 x342006 4 0).bind fun bt394 => (some (bt394.1, bt394.2.1, bt394.2.2.1, bt394.2.2.2.1, bt394.2.2.2.2.1, bt394.2.2.2.2.2.1, bt394.2.2.2.2.2.2, true))) else (if x4 = 1 then ((palinoderef19_goes.f x341000 x341001 x342000 x342001 x342002 x342003 x342004 x342005 x342006 2 (wrap64 (x342003 - 1)) 0 x5).bind fun bt401 => (some (bt401.1, bt401.2.1, bt401.2.2.1, bt401.2.2.2.1, bt401.2.2.2.2.1, bt401.2.2.2.2.2.1, bt401.2.2.2.2.2.2, true))) else (if x17 = true then ((palinoderef19_goes.f x341000 x341001 x342000 x342001 x342002 x342003 x342004 x342005 x342006 2 x342003 (wrap64 (x342004 + 1)) x5).bind fun bt408 => (some (bt408.1, bt408.2.1, bt408.2.2.1, bt408.2.2.2.1, bt408.2.2.2.2.1, bt408.2.2.2.2.2.1, bt408.2.2.2.2.2.2, true))) else ((palinoderef19_over.f x342000 x342001 x342002 x342003 x342004 x342005 x342006 5 x342003).bind fun bt415 => (some (bt415.1, bt415.2.1, bt415.2.2.1, bt415.2.2.2.1, bt415.2.2.2.2.1, bt415.2.2.2.2.2.1, bt415.2.2.2.2.2.2, true)))))
end
def palinoderef19_Reply.f (k : Nat) (a0_0 : ByteArray) (l0_1 : List (S53)) (a1_0 : ByteArray) (a1_1 : ByteArray) (a1_2 : Int) (a1_3 : Int) (a1_4 : Int) (a1_5 : Int) (a1_6 : Bool) (a2 : Int) (a3 : Int) (a4 : Int) (a5 : Int) : Option (ByteArray × ByteArray × Int × Int × Int × Int × Bool × Bool) := (palinoderef19_Right.f k a0_0 l0_1 a1_0 a1_1 a1_2 a1_3 a1_4 a1_5 a1_6).bind fun t343 => ((palinoderef19_Command.f a1_0 a1_1 a1_2 a1_3 a1_4 a1_5 a1_6).bind fun bt344 => (if t343 = true then (if bt344.2.2.2.2 = true then (if a2 = bt344.2.1 then (if a3 = bt344.2.2.1 then (if a4 < 1 then (palinoderef19_Reply.j0 k a4 a5 true a0_0 l0_1 a1_0 a1_1 a1_2 a1_3 a1_4 a1_5 a1_6) else (if a4 > 3 then (palinoderef19_Reply.j0 k a4 a5 true a0_0 l0_1 a1_0 a1_1 a1_2 a1_3 a1_4 a1_5 a1_6) else ((palinoderef19_time.f a5).bind fun t350 => (palinoderef19_Reply.j0 k a4 a5 (!t350) a0_0 l0_1 a1_0 a1_1 a1_2 a1_3 a1_4 a1_5 a1_6)))) else (palinoderef19_Reply.j0 k a4 a5 true a0_0 l0_1 a1_0 a1_1 a1_2 a1_3 a1_4 a1_5 a1_6)) else (palinoderef19_Reply.j0 k a4 a5 true a0_0 l0_1 a1_0 a1_1 a1_2 a1_3 a1_4 a1_5 a1_6)) else (palinoderef19_Reply.j0 k a4 a5 true a0_0 l0_1 a1_0 a1_1 a1_2 a1_3 a1_4 a1_5 a1_6)) else (palinoderef19_Reply.j0 k a4 a5 true a0_0 l0_1 a1_0 a1_1 a1_2 a1_3 a1_4 a1_5 a1_6)))
theorem palinoderef19_Reply.mono_l : ∀ k, (∀ y0 y1 y2 y3 y4 y5 y6 y7 y8 y9 y10 y11, LeO (palinoderef19_Reply.j0 k y0 y1 y2 y3 y4 y5 y6 y7 y8 y9 y10 y11) (palinoderef19_Reply.j0 (k + 1) y0 y1 y2 y3 y4 y5 y6 y7 y8 y9 y10 y11)) ∧ (∀ y0 y1 y2 y3 y4 y5 y6 y7 y8 y9 y10 y11 y12, LeO (palinoderef19_Reply.j1 k y0 y1 y2 y3 y4 y5 y6 y7 y8 y9 y10 y11 y12) (palinoderef19_Reply.j1 (k + 1) y0 y1 y2 y3 y4 y5 y6 y7 y8 y9 y10 y11 y12)) ∧ (∀ y0 y1 y2 y3 y4 y5 y6 y7 y8 y9 y10 y11 y12, LeO (palinoderef19_Reply.j2 k y0 y1 y2 y3 y4 y5 y6 y7 y8 y9 y10 y11 y12) (palinoderef19_Reply.j2 (k + 1) y0 y1 y2 y3 y4 y5 y6 y7 y8 y9 y10 y11 y12)) ∧ (∀ y0 y1 y2 y3 y4 y5 y6 y7 y8 y9 y10 y11 y12, LeO (palinoderef19_Reply.j3 k y0 y1 y2 y3 y4 y5 y6 y7 y8 y9 y10 y11 y12) (palinoderef19_Reply.j3 (k + 1) y0 y1 y2 y3 y4 y5 y6 y7 y8 y9 y10 y11 y12))
 | 0 => ⟨fun _ _ _ _ _ _ _ _ _ _ _ _ r h => by simp [palinoderef19_Reply.j0] at h, fun _ _ _ _ _ _ _ _ _ _ _ _ _ r h => by simp [palinoderef19_Reply.j1] at h, fun _ _ _ _ _ _ _ _ _ _ _ _ _ r h => by simp [palinoderef19_Reply.j2] at h, fun _ _ _ _ _ _ _ _ _ _ _ _ _ r h => by simp [palinoderef19_Reply.j3] at h⟩
 | k + 1 => by
  obtain ⟨ih0, ih1, ih2, ih3⟩ := palinoderef19_Reply.mono_l k
  refine ⟨?_, ?_, ?_, ?_⟩
  ·
   intro y0 y1 y2 y3 y4 y5 y6 y7 y8 y9 y10 y11
   unfold palinoderef19_Reply.j0
   repeat' first
   | (with_reducible exact ih0 _ _ _ _ _ _ _ _ _ _ _ _)
   | (with_reducible exact ih1 _ _ _ _ _ _ _ _ _ _ _ _ _)
   | (with_reducible exact ih2 _ _ _ _ _ _ _ _ _ _ _ _ _)
   | (with_reducible exact ih3 _ _ _ _ _ _ _ _ _ _ _ _ _)
   | (with_reducible exact palinoderef19_Right.mono _ _ _ _ _ _ _ _ _ _)
   | (with_reducible exact LeO.refl _)
   | (with_reducible exact LeO.none _)
   | (with_reducible refine LeO.ite ?_ ?_)
   | (with_reducible refine LeO.bind ?_ (fun _ => ?_))
   | exact ih0 _ _ _ _ _ _ _ _ _ _ _ _
   | exact ih1 _ _ _ _ _ _ _ _ _ _ _ _ _
   | exact ih2 _ _ _ _ _ _ _ _ _ _ _ _ _
   | exact ih3 _ _ _ _ _ _ _ _ _ _ _ _ _
   | exact palinoderef19_Right.mono _ _ _ _ _ _ _ _ _ _
   | exact LeO.none _
   | refine LeO.ite ?_ ?_
   | refine LeO.bind ?_ (fun _ => ?_)
  ·
   intro y0 y1 y2 y3 y4 y5 y6 y7 y8 y9 y10 y11 y12
   unfold palinoderef19_Reply.j1
   repeat' first
   | (with_reducible exact ih0 _ _ _ _ _ _ _ _ _ _ _ _)
   | (with_reducible exact ih1 _ _ _ _ _ _ _ _ _ _ _ _ _)
   | (with_reducible exact ih2 _ _ _ _ _ _ _ _ _ _ _ _ _)
   | (with_reducible exact ih3 _ _ _ _ _ _ _ _ _ _ _ _ _)
   | (with_reducible exact palinoderef19_Right.mono _ _ _ _ _ _ _ _ _ _)
   | (with_reducible exact LeO.refl _)
   | (with_reducible exact LeO.none _)
   | (with_reducible refine LeO.ite ?_ ?_)
   | (with_reducible refine LeO.bind ?_ (fun _ => ?_))
   | exact ih0 _ _ _ _ _ _ _ _ _ _ _ _
   | exact ih1 _ _ _ _ _ _ _ _ _ _ _ _ _
   | exact ih2 _ _ _ _ _ _ _ _ _ _ _ _ _
   | exact ih3 _ _ _ _ _ _ _ _ _ _ _ _ _
   | exact palinoderef19_Right.mono _ _ _ _ _ _ _ _ _ _
   | exact LeO.none _
   | refine LeO.ite ?_ ?_
   | refine LeO.bind ?_ (fun _ => ?_)
  ·
   intro y0 y1 y2 y3 y4 y5 y6 y7 y8 y9 y10 y11 y12
   unfold palinoderef19_Reply.j2
   repeat' first
   | (with_reducible exact ih0 _ _ _ _ _ _ _ _ _ _ _ _)
   | (with_reducible exact ih1 _ _ _ _ _ _ _ _ _ _ _ _ _)
   | (with_reducible exact ih2 _ _ _ _ _ _ _ _ _ _ _ _ _)
   | (with_reducible exact ih3 _ _ _ _ _ _ _ _ _ _ _ _ _)
   | (with_reducible exact palinoderef19_Right.mono _ _ _ _ _ _ _ _ _ _)
   | (with_reducible exact LeO.refl _)
   | (with_reducible exact LeO.none _)
   | (with_reducible refine LeO.ite ?_ ?_)
   | (with_reducible refine LeO.bind ?_ (fun _ => ?_))
   | exact ih0 _ _ _ _ _ _ _ _ _ _ _ _
   | exact ih1 _ _ _ _ _ _ _ _ _ _ _ _ _
   | exact ih2 _ _ _ _ _ _ _ _ _ _ _ _ _
   | exact ih3 _ _ _ _ _ _ _ _ _ _ _ _ _
   | exact palinoderef19_Right.mono _ _ _ _ _ _ _ _ _ _
   | exact LeO.none _
   | refine LeO.ite ?_ ?_
   | refine LeO.bind ?_ (fun _ => ?_)
  ·
   intro y0 y1 y2 y3 y4 y5 y6 y7 y8 y9 y10 y11 y12
   unfold palinoderef19_Reply.j3
   repeat' first
   | (with_reducible exact ih0 _ _ _ _ _ _ _ _ _ _ _ _)
   | (with_reducible exact ih1 _ _ _ _ _ _ _ _ _ _ _ _ _)
   | (with_reducible exact ih2 _ _ _ _ _ _ _ _ _ _ _ _ _)
   | (with_reducible exact ih3 _ _ _ _ _ _ _ _ _ _ _ _ _)
   | (with_reducible exact palinoderef19_Right.mono _ _ _ _ _ _ _ _ _ _)
   | (with_reducible exact LeO.refl _)
   | (with_reducible exact LeO.none _)
   | (with_reducible refine LeO.ite ?_ ?_)
   | (with_reducible refine LeO.bind ?_ (fun _ => ?_))
   | exact ih0 _ _ _ _ _ _ _ _ _ _ _ _
   | exact ih1 _ _ _ _ _ _ _ _ _ _ _ _ _
   | exact ih2 _ _ _ _ _ _ _ _ _ _ _ _ _
   | exact ih3 _ _ _ _ _ _ _ _ _ _ _ _ _
   | exact palinoderef19_Right.mono _ _ _ _ _ _ _ _ _ _
   | exact LeO.none _
   | refine LeO.ite ?_ ?_
   | refine LeO.bind ?_ (fun _ => ?_)
theorem palinoderef19_Reply.mono : ∀ a0 a1 a2 a3 a4 a5 a6 a7 a8 a9 a10 a11 a12 k, LeO (palinoderef19_Reply.f k a0 a1 a2 a3 a4 a5 a6 a7 a8 a9 a10 a11 a12) (palinoderef19_Reply.f (k + 1) a0 a1 a2 a3 a4 a5 a6 a7 a8 a9 a10 a11 a12) := by
 intro a0 a1 a2 a3 a4 a5 a6 a7 a8 a9 a10 a11 a12 k
 obtain ⟨ih0, ih1, ih2, ih3⟩ := palinoderef19_Reply.mono_l k
 unfold palinoderef19_Reply.f
 repeat' first
   | (with_reducible exact ih0 _ _ _ _ _ _ _ _ _ _ _ _)
   | (with_reducible exact ih1 _ _ _ _ _ _ _ _ _ _ _ _ _)
   | (with_reducible exact ih2 _ _ _ _ _ _ _ _ _ _ _ _ _)
   | (with_reducible exact ih3 _ _ _ _ _ _ _ _ _ _ _ _ _)
   | (with_reducible exact palinoderef19_Right.mono _ _ _ _ _ _ _ _ _ _)
   | (with_reducible exact LeO.refl _)
   | (with_reducible exact LeO.none _)
   | (with_reducible refine LeO.ite ?_ ?_)
   | (with_reducible refine LeO.bind ?_ (fun _ => ?_))
   | exact ih0 _ _ _ _ _ _ _ _ _ _ _ _
   | exact ih1 _ _ _ _ _ _ _ _ _ _ _ _ _
   | exact ih2 _ _ _ _ _ _ _ _ _ _ _ _ _
   | exact ih3 _ _ _ _ _ _ _ _ _ _ _ _ _
   | exact palinoderef19_Right.mono _ _ _ _ _ _ _ _ _ _
   | exact LeO.none _
   | refine LeO.ite ?_ ?_
   | refine LeO.bind ?_ (fun _ => ?_)
set_option maxHeartbeats 8000000 in
set_option maxRecDepth 100000 in
theorem palinoderef19_Reply.calls (k : Nat) (a0_0 : ByteArray) (A0_1 : Option Addr) (c0_1 : Nat) (l0_1 : List (S53)) (a1_0 : ByteArray) (a1_1 : ByteArray) (a1_2 : Int) (a1_3 : Int) (a1_4 : Int) (a1_5 : Int) (a1_6 : Bool) (a2 : Int) (a3 : Int) (a4 : Int) (a5 : Int) (r1 : ByteArray) (r2 : ByteArray) (r3 : Int) (r4 : Int) (r5 : Int) (r6 : Int) (r7 : Bool) (r8 : Bool) (w : World) (hr0_1 : Kd.C k53 w A0_1 l0_1.length l0_1) (hc0_1 : l0_1.length ≤ c0_1) (h : palinoderef19_Reply.f k a0_0 l0_1 a1_0 a1_1 a1_2 a1_3 a1_4 a1_5 a1_6 a2 a3 a4 a5 = some (r1, r2, r3, r4, r5, r6, r7, r8)) :
  Calls Try.prog 24 #[.agg #[.string a0_0, .slice A0_1 l0_1.length c0_1], .agg #[.string a1_0, .string a1_1, .int .i64 a1_2, .int .i64 a1_3, .int .i64 a1_4, .int .i64 a1_5, .bool a1_6], .int .i64 a2, .int .i64 a3, .int .i64 a4, .int .i64 a5] w fun e w' => e = .returned (.tuple #[.agg #[.string r1, .string r2, .int .i64 r3, .int .i64 r4, .int .i64 r5, .int .i64 r6, .bool r7], .bool r8]) ∧ Below w.heap.size w w' := by
 have hu24 := Try.underlying24
 have hu26 := Try.underlying26
 have hu35 := Try.underlying35
 have HR0_1 := Aside0.mk hr0_1
 have HC0_1 := Aside0.mk hc0_1
 clear hr0_1 hc0_1
 have HB := Aside0.mk (Below.refl w.heap.size w)
 have H : ((palinoderef19_Right.f k a0_0 l0_1 a1_0 a1_1 a1_2 a1_3 a1_4 a1_5 a1_6).bind fun t343 => ((palinoderef19_Command.f a1_0 a1_1 a1_2 a1_3 a1_4 a1_5 a1_6).bind fun bt344 => (if t343 = true then (if bt344.2.2.2.2 = true then (if a2 = bt344.2.1 then (if a3 = bt344.2.2.1 then (if a4 < 1 then (palinoderef19_Reply.j0 k a4 a5 true a0_0 l0_1 a1_0 a1_1 a1_2 a1_3 a1_4 a1_5 a1_6) else (if a4 > 3 then (palinoderef19_Reply.j0 k a4 a5 true a0_0 l0_1 a1_0 a1_1 a1_2 a1_3 a1_4 a1_5 a1_6) else ((palinoderef19_time.f a5).bind fun t350 => (palinoderef19_Reply.j0 k a4 a5 (!t350) a0_0 l0_1 a1_0 a1_1 a1_2 a1_3 a1_4 a1_5 a1_6)))) else (palinoderef19_Reply.j0 k a4 a5 true a0_0 l0_1 a1_0 a1_1 a1_2 a1_3 a1_4 a1_5 a1_6)) else (palinoderef19_Reply.j0 k a4 a5 true a0_0 l0_1 a1_0 a1_1 a1_2 a1_3 a1_4 a1_5 a1_6)) else (palinoderef19_Reply.j0 k a4 a5 true a0_0 l0_1 a1_0 a1_1 a1_2 a1_3 a1_4 a1_5 a1_6)) else (palinoderef19_Reply.j0 k a4 a5 true a0_0 l0_1 a1_0 a1_1 a1_2 a1_3 a1_4 a1_5 a1_6)))) = some (r1, r2, r3, r4, r5, r6, r7, r8) := h
 clear h
 replace H := Option.bind_eq_some_iff.mp H
 obtain ⟨t343, A70, H⟩ := H
 replace H : ((palinoderef19_Command.f a1_0 a1_1 a1_2 a1_3 a1_4 a1_5 a1_6).bind fun bt344 => (if t343 = true then (if bt344.2.2.2.2 = true then (if a2 = bt344.2.1 then (if a3 = bt344.2.2.1 then (if a4 < 1 then (palinoderef19_Reply.j0 k a4 a5 true a0_0 l0_1 a1_0 a1_1 a1_2 a1_3 a1_4 a1_5 a1_6) else (if a4 > 3 then (palinoderef19_Reply.j0 k a4 a5 true a0_0 l0_1 a1_0 a1_1 a1_2 a1_3 a1_4 a1_5 a1_6) else ((palinoderef19_time.f a5).bind fun t350 => (palinoderef19_Reply.j0 k a4 a5 (!t350) a0_0 l0_1 a1_0 a1_1 a1_2 a1_3 a1_4 a1_5 a1_6)))) else (palinoderef19_Reply.j0 k a4 a5 true a0_0 l0_1 a1_0 a1_1 a1_2 a1_3 a1_4 a1_5 a1_6)) else (palinoderef19_Reply.j0 k a4 a5 true a0_0 l0_1 a1_0 a1_1 a1_2 a1_3 a1_4 a1_5 a1_6)) else (palinoderef19_Reply.j0 k a4 a5 true a0_0 l0_1 a1_0 a1_1 a1_2 a1_3 a1_4 a1_5 a1_6)) else (palinoderef19_Reply.j0 k a4 a5 true a0_0 l0_1 a1_0 a1_1 a1_2 a1_3 a1_4 a1_5 a1_6))) = some (r1, r2, r3, r4, r5, r6, r7, r8) := H
 have A7 := Aside0.mk A70
 clear A70
 replace H := Option.bind_eq_some_iff.mp H
 obtain ⟨⟨t344, t345, t346, t347, t348⟩, A80, H⟩ := H
 replace H : (if t343 = true then (if t348 = true then (if a2 = t345 then (if a3 = t346 then (if a4 < 1 then (palinoderef19_Reply.j0 k a4 a5 true a0_0 l0_1 a1_0 a1_1 a1_2 a1_3 a1_4 a1_5 a1_6) else (if a4 > 3 then (palinoderef19_Reply.j0 k a4 a5 true a0_0 l0_1 a1_0 a1_1 a1_2 a1_3 a1_4 a1_5 a1_6) else ((palinoderef19_time.f a5).bind fun t350 => (palinoderef19_Reply.j0 k a4 a5 (!t350) a0_0 l0_1 a1_0 a1_1 a1_2 a1_3 a1_4 a1_5 a1_6)))) else (palinoderef19_Reply.j0 k a4 a5 true a0_0 l0_1 a1_0 a1_1 a1_2 a1_3 a1_4 a1_5 a1_6)) else (palinoderef19_Reply.j0 k a4 a5 true a0_0 l0_1 a1_0 a1_1 a1_2 a1_3 a1_4 a1_5 a1_6)) else (palinoderef19_Reply.j0 k a4 a5 true a0_0 l0_1 a1_0 a1_1 a1_2 a1_3 a1_4 a1_5 a1_6)) else (palinoderef19_Reply.j0 k a4 a5 true a0_0 l0_1 a1_0 a1_1 a1_2 a1_3 a1_4 a1_5 a1_6)) = some (r1, r2, r3, r4, r5, r6, r7, r8) := H
 have A8 := Aside0.mk A80
 clear A80
 have HC9 := Aside0.mk H
 clear H
 go_enter Try.func24, Try.ntmps24
 go_upto_region 3 with (first | ((with_reducible refine gate_dst (N := 6) rfl ?_); (try (refine gate_guard (by rfl) ?_; dsimp only)); refine box_event ?hg (N := 6) ?hd (cs := #[.string a0_0, .slice A0_1 l0_1.length c0_1]) (t := 24) ?hr ?_; (case hd => rfl); (case hg => rfl); (case hr => first | (go_simp; done) | (go_simp; rfl)); intro gb340 hg w10 hbox hb; have n0_ := Aside0.mk (Yv HB hb); have n1_ := Aside0.mk (hbox); have n2_ := Aside0.mk ((by rw [hg]; exact (below_size (Yr HB)) : w.heap.size ≤ gb340)); have n3_ := Aside0.mk ((by rw [hg]; exact (below_size (Yr HB)) : w.heap.size ≤ gb340)); clear HB; have HB := n0_; have BK340 := n1_; have GW340 := n2_; have GE340 := n3_; clear n0_ n1_ n2_ n3_; clear hb hbox hg) | ((with_reducible refine gate_dst (N := 7) rfl ?_); (try (refine gate_guard (by rfl) ?_; dsimp only)); refine box_event ?hg (N := 7) ?hd (cs := #[.string a1_0, .string a1_1, .int .i64 a1_2, .int .i64 a1_3, .int .i64 a1_4, .int .i64 a1_5, .bool a1_6]) (t := 26) ?hr ?_; (case hd => rfl); (case hg => rfl); (case hr => first | (go_simp; done) | (go_simp; rfl)); intro gb341 hg w11 hbox hb; have n0_ := Aside0.mk (Zv BK340 hb); have n1_ := Aside0.mk (Yv HB hb); have n2_ := Aside0.mk (hbox); have n3_ := Aside0.mk ((by rw [hg]; exact (below_size (Yr HB)) : w.heap.size ≤ gb341)); have n4_ := Aside0.mk ((by rw [hg]; exact (below_size (Yr HB)) : w.heap.size ≤ gb341)); have n5_ := Aside0.mk ((by rw [hg]; exact Nat.ne_of_lt (blk_lt (g := gb340) (o := .cells #[.string a0_0, .slice A0_1 l0_1.length c0_1] 24 (0, 0)) (Zr BK340)) : gb340 ≠ gb341)); have n6_ := Aside0.mk ((by rw [hg]; exact Nat.ne_of_gt (blk_lt (g := gb340) (o := .cells #[.string a0_0, .slice A0_1 l0_1.length c0_1] 24 (0, 0)) (Zr BK340)) : gb341 ≠ gb340)); clear BK340; clear HB; have BK340 := n0_; have HB := n1_; have BK341 := n2_; have GW341 := n3_; have GE341 := n4_; have NB340_341 := n5_; have NB341_340 := n6_; clear n0_ n1_ n2_ n3_ n4_ n5_ n6_; clear hb hbox hg) | ((with_reducible refine gate_dst (N := 12) rfl ?_); (try (refine gate_guard (by rfl) ?_; dsimp only)); refine box_event ?hg (N := 12) ?hd (cs := #[.string (⟨#[]⟩ : ByteArray), .string (⟨#[]⟩ : ByteArray), .int .i64 0, .int .i64 0, .int .i64 0, .int .i64 0, .bool false]) (t := 26) ?hr ?_; (case hd => rfl); (case hg => rfl); (case hr => first | (go_simp; done) | (go_simp; rfl)); intro gb342 hg w12 hbox hb; have n0_ := Aside0.mk (Zv BK340 hb); have n1_ := Aside0.mk (Zv BK341 hb); have n2_ := Aside0.mk (Yv HB hb); have n3_ := Aside0.mk (hbox); have n4_ := Aside0.mk ((by rw [hg]; exact (below_size (Yr HB)) : w.heap.size ≤ gb342)); have n5_ := Aside0.mk ((by rw [hg]; exact (below_size (Yr HB)) : w.heap.size ≤ gb342)); have n6_ := Aside0.mk ((by rw [hg]; exact Nat.ne_of_lt (blk_lt (g := gb340) (o := .cells #[.string a0_0, .slice A0_1 l0_1.length c0_1] 24 (0, 0)) (Zr BK340)) : gb340 ≠ gb342)); have n7_ := Aside0.mk ((by rw [hg]; exact Nat.ne_of_gt (blk_lt (g := gb340) (o := .cells #[.string a0_0, .slice A0_1 l0_1.length c0_1] 24 (0, 0)) (Zr BK340)) : gb342 ≠ gb340)); have n8_ := Aside0.mk ((by rw [hg]; exact Nat.ne_of_lt (blk_lt (g := gb341) (o := .cells #[.string a1_0, .string a1_1, .int .i64 a1_2, .int .i64 a1_3, .int .i64 a1_4, .int .i64 a1_5, .bool a1_6] 26 (0, 0)) (Zr BK341)) : gb341 ≠ gb342)); have n9_ := Aside0.mk ((by rw [hg]; exact Nat.ne_of_gt (blk_lt (g := gb341) (o := .cells #[.string a1_0, .string a1_1, .int .i64 a1_2, .int .i64 a1_3, .int .i64 a1_4, .int .i64 a1_5, .bool a1_6] 26 (0, 0)) (Zr BK341)) : gb342 ≠ gb341)); clear BK340; clear BK341; clear HB; have BK340 := n0_; have BK341 := n1_; have HB := n2_; have BK342 := n3_; have GW342 := n4_; have GE342 := n5_; have NB340_342 := n6_; have NB342_340 := n7_; have NB341_342 := n8_; have NB342_341 := n9_; clear n0_ n1_ n2_ n3_ n4_ n5_ n6_ n7_ n8_ n9_; clear hb hbox hg; have hnb13 := NB340_341.out; have hnc13 := NB341_340.out; have hnb14 := NB340_342.out; have hnc14 := NB342_340.out; obtain ⟨⟨hcz15_0, hcz15_1⟩, hfz15_0, hfz15_1⟩ := Zk2 BK340; have hnb16 := NB341_342.out; have hnc16 := NB342_341.out; obtain ⟨⟨hcz17_0, hcz17_1, hcz17_2, hcz17_3, hcz17_4, hcz17_5, hcz17_6⟩, hfz17_0, hfz17_1, hfz17_2, hfz17_3, hfz17_4, hfz17_5, hfz17_6⟩ := Zk7 BK341) | (go_at_call 19; (with_reducible refine (palinoderef19_Right.calls k a0_0 _ _ l0_1 a1_0 a1_1 a1_2 a1_3 a1_4 a1_5 a1_6 t343 _ ?side1 ?side2 A7.out).mono ?_); (case side1 => repeat (first | exact (Kd.C_below HR0_1.out HB.out) | (with_reducible refine Kd.C_alloc ?_ _) | (with_reducible refine Kd.C_drewN ?_ _) | (with_reducible refine Kd.C_drew ?_))); (case side2 => exact HC0_1.out); rintro e w18 ⟨rfl, hb⟩; have n0_ := Aside0.mk (Zv BK340 hb); have n1_ := Aside0.mk (Zv BK341 hb); have n2_ := Aside0.mk (Zv BK342 hb); have n3_ := Aside0.mk (Yv HB hb); clear BK340; clear BK341; clear BK342; clear HB; have BK340 := n0_; have BK341 := n1_; have BK342 := n2_; have HB := n3_; clear n0_ n1_ n2_ n3_; (try clear hb); (try clear hb2); (try clear hk); (try clear hi); obtain ⟨⟨hcz19_0, hcz19_1, hcz19_2, hcz19_3, hcz19_4, hcz19_5, hcz19_6⟩, hfz19_0, hfz19_1, hfz19_2, hfz19_3, hfz19_4, hfz19_5, hfz19_6⟩ := Zk7 BK341) | (go_at_call 17; (with_reducible refine (palinoderef19_Command.calls a1_0 a1_1 a1_2 a1_3 a1_4 a1_5 a1_6 t344 t345 t346 t347 t348 _ A8.out).mono ?_); rintro e w20 ⟨rfl, hb⟩; have n0_ := Aside0.mk (Zv BK340 hb); have n1_ := Aside0.mk (Zv BK341 hb); have n2_ := Aside0.mk (Zv BK342 hb); have n3_ := Aside0.mk (Yv HB hb); clear BK340; clear BK341; clear BK342; clear HB; have BK340 := n0_; have BK341 := n1_; have BK342 := n2_; have HB := n3_; clear n0_ n1_ n2_ n3_; (try clear hb); (try clear hb2); (try clear hk); (try clear hi)) | ((with_reducible refine gate_dst (N := 15) rfl ?_); (try (refine gate_guard (by rfl) ?_; dsimp only)); refine box_event ?hg (N := 15) ?hd (cs := #[.string (⟨#[]⟩ : ByteArray), .int .i64 0, .int .i64 0, .int .i64 0]) (t := 35) ?hr ?_; (case hd => rfl); (case hg => rfl); (case hr => first | (go_simp; done) | (go_simp; rfl)); intro gb349 hg w21 hbox hb; have n0_ := Aside0.mk (Zv BK340 hb); have n1_ := Aside0.mk (Zv BK341 hb); have n2_ := Aside0.mk (Zv BK342 hb); have n3_ := Aside0.mk (Yv HB hb); have n4_ := Aside0.mk (hbox); have n5_ := Aside0.mk ((by rw [hg]; exact (below_size (Yr HB)) : w.heap.size ≤ gb349)); have n6_ := Aside0.mk ((by rw [hg]; exact (below_size (Yr HB)) : w.heap.size ≤ gb349)); have n7_ := Aside0.mk ((by rw [hg]; exact Nat.ne_of_lt (blk_lt (g := gb340) (o := .cells #[.string a0_0, .slice A0_1 l0_1.length c0_1] 24 (0, 0)) (Zr BK340)) : gb340 ≠ gb349)); have n8_ := Aside0.mk ((by rw [hg]; exact Nat.ne_of_gt (blk_lt (g := gb340) (o := .cells #[.string a0_0, .slice A0_1 l0_1.length c0_1] 24 (0, 0)) (Zr BK340)) : gb349 ≠ gb340)); have n9_ := Aside0.mk ((by rw [hg]; exact Nat.ne_of_lt (blk_lt (g := gb341) (o := .cells #[.string a1_0, .string a1_1, .int .i64 a1_2, .int .i64 a1_3, .int .i64 a1_4, .int .i64 a1_5, .bool a1_6] 26 (0, 0)) (Zr BK341)) : gb341 ≠ gb349)); have n10_ := Aside0.mk ((by rw [hg]; exact Nat.ne_of_gt (blk_lt (g := gb341) (o := .cells #[.string a1_0, .string a1_1, .int .i64 a1_2, .int .i64 a1_3, .int .i64 a1_4, .int .i64 a1_5, .bool a1_6] 26 (0, 0)) (Zr BK341)) : gb349 ≠ gb341)); have n11_ := Aside0.mk ((by rw [hg]; exact Nat.ne_of_lt (blk_lt (g := gb342) (o := .cells #[.string (⟨#[]⟩ : ByteArray), .string (⟨#[]⟩ : ByteArray), .int .i64 0, .int .i64 0, .int .i64 0, .int .i64 0, .bool false] 26 (0, 0)) (Zr BK342)) : gb342 ≠ gb349)); have n12_ := Aside0.mk ((by rw [hg]; exact Nat.ne_of_gt (blk_lt (g := gb342) (o := .cells #[.string (⟨#[]⟩ : ByteArray), .string (⟨#[]⟩ : ByteArray), .int .i64 0, .int .i64 0, .int .i64 0, .int .i64 0, .bool false] 26 (0, 0)) (Zr BK342)) : gb349 ≠ gb342)); clear BK340; clear BK341; clear BK342; clear HB; have BK340 := n0_; have BK341 := n1_; have BK342 := n2_; have HB := n3_; have BK349 := n4_; have GW349 := n5_; have GE349 := n6_; have NB340_349 := n7_; have NB349_340 := n8_; have NB341_349 := n9_; have NB349_341 := n10_; have NB342_349 := n11_; have NB349_342 := n12_; clear n0_ n1_ n2_ n3_ n4_ n5_ n6_ n7_ n8_ n9_ n10_ n11_ n12_; clear hb hbox hg; have hnb22 := NB349_340.out; have hnc22 := NB340_349.out; have hnb23 := NB349_341.out; have hnc23 := NB341_349.out; have hnb24 := NB349_342.out; have hnc24 := NB342_349.out; obtain ⟨⟨hcz25_0, hcz25_1, hcz25_2, hcz25_3⟩, hfz25_0, hfz25_1, hfz25_2, hfz25_3⟩ := Zk4 BK349))
 repeat (go_quiet (first | ((with_reducible refine gate_dst (N := 6) rfl ?_); (try (refine gate_guard (by rfl) ?_; dsimp only)); refine box_event ?hg (N := 6) ?hd (cs := #[.string a0_0, .slice A0_1 l0_1.length c0_1]) (t := 24) ?hr ?_; (case hd => rfl); (case hg => rfl); (case hr => first | (go_simp; done) | (go_simp; rfl)); intro gb340 hg w10 hbox hb; have n0_ := Aside0.mk (Yv HB hb); have n1_ := Aside0.mk (hbox); have n2_ := Aside0.mk ((by rw [hg]; exact (below_size (Yr HB)) : w.heap.size ≤ gb340)); have n3_ := Aside0.mk ((by rw [hg]; exact (below_size (Yr HB)) : w.heap.size ≤ gb340)); clear HB; have HB := n0_; have BK340 := n1_; have GW340 := n2_; have GE340 := n3_; clear n0_ n1_ n2_ n3_; clear hb hbox hg) | ((with_reducible refine gate_dst (N := 7) rfl ?_); (try (refine gate_guard (by rfl) ?_; dsimp only)); refine box_event ?hg (N := 7) ?hd (cs := #[.string a1_0, .string a1_1, .int .i64 a1_2, .int .i64 a1_3, .int .i64 a1_4, .int .i64 a1_5, .bool a1_6]) (t := 26) ?hr ?_; (case hd => rfl); (case hg => rfl); (case hr => first | (go_simp; done) | (go_simp; rfl)); intro gb341 hg w11 hbox hb; have n0_ := Aside0.mk (Zv BK340 hb); have n1_ := Aside0.mk (Yv HB hb); have n2_ := Aside0.mk (hbox); have n3_ := Aside0.mk ((by rw [hg]; exact (below_size (Yr HB)) : w.heap.size ≤ gb341)); have n4_ := Aside0.mk ((by rw [hg]; exact (below_size (Yr HB)) : w.heap.size ≤ gb341)); have n5_ := Aside0.mk ((by rw [hg]; exact Nat.ne_of_lt (blk_lt (g := gb340) (o := .cells #[.string a0_0, .slice A0_1 l0_1.length c0_1] 24 (0, 0)) (Zr BK340)) : gb340 ≠ gb341)); have n6_ := Aside0.mk ((by rw [hg]; exact Nat.ne_of_gt (blk_lt (g := gb340) (o := .cells #[.string a0_0, .slice A0_1 l0_1.length c0_1] 24 (0, 0)) (Zr BK340)) : gb341 ≠ gb340)); clear BK340; clear HB; have BK340 := n0_; have HB := n1_; have BK341 := n2_; have GW341 := n3_; have GE341 := n4_; have NB340_341 := n5_; have NB341_340 := n6_; clear n0_ n1_ n2_ n3_ n4_ n5_ n6_; clear hb hbox hg) | ((with_reducible refine gate_dst (N := 12) rfl ?_); (try (refine gate_guard (by rfl) ?_; dsimp only)); refine box_event ?hg (N := 12) ?hd (cs := #[.string (⟨#[]⟩ : ByteArray), .string (⟨#[]⟩ : ByteArray), .int .i64 0, .int .i64 0, .int .i64 0, .int .i64 0, .bool false]) (t := 26) ?hr ?_; (case hd => rfl); (case hg => rfl); (case hr => first | (go_simp; done) | (go_simp; rfl)); intro gb342 hg w12 hbox hb; have n0_ := Aside0.mk (Zv BK340 hb); have n1_ := Aside0.mk (Zv BK341 hb); have n2_ := Aside0.mk (Yv HB hb); have n3_ := Aside0.mk (hbox); have n4_ := Aside0.mk ((by rw [hg]; exact (below_size (Yr HB)) : w.heap.size ≤ gb342)); have n5_ := Aside0.mk ((by rw [hg]; exact (below_size (Yr HB)) : w.heap.size ≤ gb342)); have n6_ := Aside0.mk ((by rw [hg]; exact Nat.ne_of_lt (blk_lt (g := gb340) (o := .cells #[.string a0_0, .slice A0_1 l0_1.length c0_1] 24 (0, 0)) (Zr BK340)) : gb340 ≠ gb342)); have n7_ := Aside0.mk ((by rw [hg]; exact Nat.ne_of_gt (blk_lt (g := gb340) (o := .cells #[.string a0_0, .slice A0_1 l0_1.length c0_1] 24 (0, 0)) (Zr BK340)) : gb342 ≠ gb340)); have n8_ := Aside0.mk ((by rw [hg]; exact Nat.ne_of_lt (blk_lt (g := gb341) (o := .cells #[.string a1_0, .string a1_1, .int .i64 a1_2, .int .i64 a1_3, .int .i64 a1_4, .int .i64 a1_5, .bool a1_6] 26 (0, 0)) (Zr BK341)) : gb341 ≠ gb342)); have n9_ := Aside0.mk ((by rw [hg]; exact Nat.ne_of_gt (blk_lt (g := gb341) (o := .cells #[.string a1_0, .string a1_1, .int .i64 a1_2, .int .i64 a1_3, .int .i64 a1_4, .int .i64 a1_5, .bool a1_6] 26 (0, 0)) (Zr BK341)) : gb342 ≠ gb341)); clear BK340; clear BK341; clear HB; have BK340 := n0_; have BK341 := n1_; have HB := n2_; have BK342 := n3_; have GW342 := n4_; have GE342 := n5_; have NB340_342 := n6_; have NB342_340 := n7_; have NB341_342 := n8_; have NB342_341 := n9_; clear n0_ n1_ n2_ n3_ n4_ n5_ n6_ n7_ n8_ n9_; clear hb hbox hg; have hnb13 := NB340_341.out; have hnc13 := NB341_340.out; have hnb14 := NB340_342.out; have hnc14 := NB342_340.out; obtain ⟨⟨hcz15_0, hcz15_1⟩, hfz15_0, hfz15_1⟩ := Zk2 BK340; have hnb16 := NB341_342.out; have hnc16 := NB342_341.out; obtain ⟨⟨hcz17_0, hcz17_1, hcz17_2, hcz17_3, hcz17_4, hcz17_5, hcz17_6⟩, hfz17_0, hfz17_1, hfz17_2, hfz17_3, hfz17_4, hfz17_5, hfz17_6⟩ := Zk7 BK341) | (go_at_call 19; (with_reducible refine (palinoderef19_Right.calls k a0_0 _ _ l0_1 a1_0 a1_1 a1_2 a1_3 a1_4 a1_5 a1_6 t343 _ ?side1 ?side2 A7.out).mono ?_); (case side1 => repeat (first | exact (Kd.C_below HR0_1.out HB.out) | (with_reducible refine Kd.C_alloc ?_ _) | (with_reducible refine Kd.C_drewN ?_ _) | (with_reducible refine Kd.C_drew ?_))); (case side2 => exact HC0_1.out); rintro e w18 ⟨rfl, hb⟩; have n0_ := Aside0.mk (Zv BK340 hb); have n1_ := Aside0.mk (Zv BK341 hb); have n2_ := Aside0.mk (Zv BK342 hb); have n3_ := Aside0.mk (Yv HB hb); clear BK340; clear BK341; clear BK342; clear HB; have BK340 := n0_; have BK341 := n1_; have BK342 := n2_; have HB := n3_; clear n0_ n1_ n2_ n3_; (try clear hb); (try clear hb2); (try clear hk); (try clear hi); obtain ⟨⟨hcz19_0, hcz19_1, hcz19_2, hcz19_3, hcz19_4, hcz19_5, hcz19_6⟩, hfz19_0, hfz19_1, hfz19_2, hfz19_3, hfz19_4, hfz19_5, hfz19_6⟩ := Zk7 BK341) | (go_at_call 17; (with_reducible refine (palinoderef19_Command.calls a1_0 a1_1 a1_2 a1_3 a1_4 a1_5 a1_6 t344 t345 t346 t347 t348 _ A8.out).mono ?_); rintro e w20 ⟨rfl, hb⟩; have n0_ := Aside0.mk (Zv BK340 hb); have n1_ := Aside0.mk (Zv BK341 hb); have n2_ := Aside0.mk (Zv BK342 hb); have n3_ := Aside0.mk (Yv HB hb); clear BK340; clear BK341; clear BK342; clear HB; have BK340 := n0_; have BK341 := n1_; have BK342 := n2_; have HB := n3_; clear n0_ n1_ n2_ n3_; (try clear hb); (try clear hb2); (try clear hk); (try clear hi)) | ((with_reducible refine gate_dst (N := 15) rfl ?_); (try (refine gate_guard (by rfl) ?_; dsimp only)); refine box_event ?hg (N := 15) ?hd (cs := #[.string (⟨#[]⟩ : ByteArray), .int .i64 0, .int .i64 0, .int .i64 0]) (t := 35) ?hr ?_; (case hd => rfl); (case hg => rfl); (case hr => first | (go_simp; done) | (go_simp; rfl)); intro gb349 hg w21 hbox hb; have n0_ := Aside0.mk (Zv BK340 hb); have n1_ := Aside0.mk (Zv BK341 hb); have n2_ := Aside0.mk (Zv BK342 hb); have n3_ := Aside0.mk (Yv HB hb); have n4_ := Aside0.mk (hbox); have n5_ := Aside0.mk ((by rw [hg]; exact (below_size (Yr HB)) : w.heap.size ≤ gb349)); have n6_ := Aside0.mk ((by rw [hg]; exact (below_size (Yr HB)) : w.heap.size ≤ gb349)); have n7_ := Aside0.mk ((by rw [hg]; exact Nat.ne_of_lt (blk_lt (g := gb340) (o := .cells #[.string a0_0, .slice A0_1 l0_1.length c0_1] 24 (0, 0)) (Zr BK340)) : gb340 ≠ gb349)); have n8_ := Aside0.mk ((by rw [hg]; exact Nat.ne_of_gt (blk_lt (g := gb340) (o := .cells #[.string a0_0, .slice A0_1 l0_1.length c0_1] 24 (0, 0)) (Zr BK340)) : gb349 ≠ gb340)); have n9_ := Aside0.mk ((by rw [hg]; exact Nat.ne_of_lt (blk_lt (g := gb341) (o := .cells #[.string a1_0, .string a1_1, .int .i64 a1_2, .int .i64 a1_3, .int .i64 a1_4, .int .i64 a1_5, .bool a1_6] 26 (0, 0)) (Zr BK341)) : gb341 ≠ gb349)); have n10_ := Aside0.mk ((by rw [hg]; exact Nat.ne_of_gt (blk_lt (g := gb341) (o := .cells #[.string a1_0, .string a1_1, .int .i64 a1_2, .int .i64 a1_3, .int .i64 a1_4, .int .i64 a1_5, .bool a1_6] 26 (0, 0)) (Zr BK341)) : gb349 ≠ gb341)); have n11_ := Aside0.mk ((by rw [hg]; exact Nat.ne_of_lt (blk_lt (g := gb342) (o := .cells #[.string (⟨#[]⟩ : ByteArray), .string (⟨#[]⟩ : ByteArray), .int .i64 0, .int .i64 0, .int .i64 0, .int .i64 0, .bool false] 26 (0, 0)) (Zr BK342)) : gb342 ≠ gb349)); have n12_ := Aside0.mk ((by rw [hg]; exact Nat.ne_of_gt (blk_lt (g := gb342) (o := .cells #[.string (⟨#[]⟩ : ByteArray), .string (⟨#[]⟩ : ByteArray), .int .i64 0, .int .i64 0, .int .i64 0, .int .i64 0, .bool false] 26 (0, 0)) (Zr BK342)) : gb349 ≠ gb342)); clear BK340; clear BK341; clear BK342; clear HB; have BK340 := n0_; have BK341 := n1_; have BK342 := n2_; have HB := n3_; have BK349 := n4_; have GW349 := n5_; have GE349 := n6_; have NB340_349 := n7_; have NB349_340 := n8_; have NB341_349 := n9_; have NB349_341 := n10_; have NB342_349 := n11_; have NB349_342 := n12_; clear n0_ n1_ n2_ n3_ n4_ n5_ n6_ n7_ n8_ n9_ n10_ n11_ n12_; clear hb hbox hg; have hnb22 := NB349_340.out; have hnc22 := NB340_349.out; have hnb23 := NB349_341.out; have hnc23 := NB341_349.out; have hnb24 := NB349_342.out; have hnc24 := NB342_349.out; obtain ⟨⟨hcz25_0, hcz25_1, hcz25_2, hcz25_3⟩, hfz25_0, hfz25_1, hfz25_2, hfz25_3⟩ := Zk4 BK349)); go_upto_region 3 with (first | ((with_reducible refine gate_dst (N := 6) rfl ?_); (try (refine gate_guard (by rfl) ?_; dsimp only)); refine box_event ?hg (N := 6) ?hd (cs := #[.string a0_0, .slice A0_1 l0_1.length c0_1]) (t := 24) ?hr ?_; (case hd => rfl); (case hg => rfl); (case hr => first | (go_simp; done) | (go_simp; rfl)); intro gb340 hg w10 hbox hb; have n0_ := Aside0.mk (Yv HB hb); have n1_ := Aside0.mk (hbox); have n2_ := Aside0.mk ((by rw [hg]; exact (below_size (Yr HB)) : w.heap.size ≤ gb340)); have n3_ := Aside0.mk ((by rw [hg]; exact (below_size (Yr HB)) : w.heap.size ≤ gb340)); clear HB; have HB := n0_; have BK340 := n1_; have GW340 := n2_; have GE340 := n3_; clear n0_ n1_ n2_ n3_; clear hb hbox hg) | ((with_reducible refine gate_dst (N := 7) rfl ?_); (try (refine gate_guard (by rfl) ?_; dsimp only)); refine box_event ?hg (N := 7) ?hd (cs := #[.string a1_0, .string a1_1, .int .i64 a1_2, .int .i64 a1_3, .int .i64 a1_4, .int .i64 a1_5, .bool a1_6]) (t := 26) ?hr ?_; (case hd => rfl); (case hg => rfl); (case hr => first | (go_simp; done) | (go_simp; rfl)); intro gb341 hg w11 hbox hb; have n0_ := Aside0.mk (Zv BK340 hb); have n1_ := Aside0.mk (Yv HB hb); have n2_ := Aside0.mk (hbox); have n3_ := Aside0.mk ((by rw [hg]; exact (below_size (Yr HB)) : w.heap.size ≤ gb341)); have n4_ := Aside0.mk ((by rw [hg]; exact (below_size (Yr HB)) : w.heap.size ≤ gb341)); have n5_ := Aside0.mk ((by rw [hg]; exact Nat.ne_of_lt (blk_lt (g := gb340) (o := .cells #[.string a0_0, .slice A0_1 l0_1.length c0_1] 24 (0, 0)) (Zr BK340)) : gb340 ≠ gb341)); have n6_ := Aside0.mk ((by rw [hg]; exact Nat.ne_of_gt (blk_lt (g := gb340) (o := .cells #[.string a0_0, .slice A0_1 l0_1.length c0_1] 24 (0, 0)) (Zr BK340)) : gb341 ≠ gb340)); clear BK340; clear HB; have BK340 := n0_; have HB := n1_; have BK341 := n2_; have GW341 := n3_; have GE341 := n4_; have NB340_341 := n5_; have NB341_340 := n6_; clear n0_ n1_ n2_ n3_ n4_ n5_ n6_; clear hb hbox hg) | ((with_reducible refine gate_dst (N := 12) rfl ?_); (try (refine gate_guard (by rfl) ?_; dsimp only)); refine box_event ?hg (N := 12) ?hd (cs := #[.string (⟨#[]⟩ : ByteArray), .string (⟨#[]⟩ : ByteArray), .int .i64 0, .int .i64 0, .int .i64 0, .int .i64 0, .bool false]) (t := 26) ?hr ?_; (case hd => rfl); (case hg => rfl); (case hr => first | (go_simp; done) | (go_simp; rfl)); intro gb342 hg w12 hbox hb; have n0_ := Aside0.mk (Zv BK340 hb); have n1_ := Aside0.mk (Zv BK341 hb); have n2_ := Aside0.mk (Yv HB hb); have n3_ := Aside0.mk (hbox); have n4_ := Aside0.mk ((by rw [hg]; exact (below_size (Yr HB)) : w.heap.size ≤ gb342)); have n5_ := Aside0.mk ((by rw [hg]; exact (below_size (Yr HB)) : w.heap.size ≤ gb342)); have n6_ := Aside0.mk ((by rw [hg]; exact Nat.ne_of_lt (blk_lt (g := gb340) (o := .cells #[.string a0_0, .slice A0_1 l0_1.length c0_1] 24 (0, 0)) (Zr BK340)) : gb340 ≠ gb342)); have n7_ := Aside0.mk ((by rw [hg]; exact Nat.ne_of_gt (blk_lt (g := gb340) (o := .cells #[.string a0_0, .slice A0_1 l0_1.length c0_1] 24 (0, 0)) (Zr BK340)) : gb342 ≠ gb340)); have n8_ := Aside0.mk ((by rw [hg]; exact Nat.ne_of_lt (blk_lt (g := gb341) (o := .cells #[.string a1_0, .string a1_1, .int .i64 a1_2, .int .i64 a1_3, .int .i64 a1_4, .int .i64 a1_5, .bool a1_6] 26 (0, 0)) (Zr BK341)) : gb341 ≠ gb342)); have n9_ := Aside0.mk ((by rw [hg]; exact Nat.ne_of_gt (blk_lt (g := gb341) (o := .cells #[.string a1_0, .string a1_1, .int .i64 a1_2, .int .i64 a1_3, .int .i64 a1_4, .int .i64 a1_5, .bool a1_6] 26 (0, 0)) (Zr BK341)) : gb342 ≠ gb341)); clear BK340; clear BK341; clear HB; have BK340 := n0_; have BK341 := n1_; have HB := n2_; have BK342 := n3_; have GW342 := n4_; have GE342 := n5_; have NB340_342 := n6_; have NB342_340 := n7_; have NB341_342 := n8_; have NB342_341 := n9_; clear n0_ n1_ n2_ n3_ n4_ n5_ n6_ n7_ n8_ n9_; clear hb hbox hg; have hnb13 := NB340_341.out; have hnc13 := NB341_340.out; have hnb14 := NB340_342.out; have hnc14 := NB342_340.out; obtain ⟨⟨hcz15_0, hcz15_1⟩, hfz15_0, hfz15_1⟩ := Zk2 BK340; have hnb16 := NB341_342.out; have hnc16 := NB342_341.out; obtain ⟨⟨hcz17_0, hcz17_1, hcz17_2, hcz17_3, hcz17_4, hcz17_5, hcz17_6⟩, hfz17_0, hfz17_1, hfz17_2, hfz17_3, hfz17_4, hfz17_5, hfz17_6⟩ := Zk7 BK341) | (go_at_call 19; (with_reducible refine (palinoderef19_Right.calls k a0_0 _ _ l0_1 a1_0 a1_1 a1_2 a1_3 a1_4 a1_5 a1_6 t343 _ ?side1 ?side2 A7.out).mono ?_); (case side1 => repeat (first | exact (Kd.C_below HR0_1.out HB.out) | (with_reducible refine Kd.C_alloc ?_ _) | (with_reducible refine Kd.C_drewN ?_ _) | (with_reducible refine Kd.C_drew ?_))); (case side2 => exact HC0_1.out); rintro e w18 ⟨rfl, hb⟩; have n0_ := Aside0.mk (Zv BK340 hb); have n1_ := Aside0.mk (Zv BK341 hb); have n2_ := Aside0.mk (Zv BK342 hb); have n3_ := Aside0.mk (Yv HB hb); clear BK340; clear BK341; clear BK342; clear HB; have BK340 := n0_; have BK341 := n1_; have BK342 := n2_; have HB := n3_; clear n0_ n1_ n2_ n3_; (try clear hb); (try clear hb2); (try clear hk); (try clear hi); obtain ⟨⟨hcz19_0, hcz19_1, hcz19_2, hcz19_3, hcz19_4, hcz19_5, hcz19_6⟩, hfz19_0, hfz19_1, hfz19_2, hfz19_3, hfz19_4, hfz19_5, hfz19_6⟩ := Zk7 BK341) | (go_at_call 17; (with_reducible refine (palinoderef19_Command.calls a1_0 a1_1 a1_2 a1_3 a1_4 a1_5 a1_6 t344 t345 t346 t347 t348 _ A8.out).mono ?_); rintro e w20 ⟨rfl, hb⟩; have n0_ := Aside0.mk (Zv BK340 hb); have n1_ := Aside0.mk (Zv BK341 hb); have n2_ := Aside0.mk (Zv BK342 hb); have n3_ := Aside0.mk (Yv HB hb); clear BK340; clear BK341; clear BK342; clear HB; have BK340 := n0_; have BK341 := n1_; have BK342 := n2_; have HB := n3_; clear n0_ n1_ n2_ n3_; (try clear hb); (try clear hb2); (try clear hk); (try clear hi)) | ((with_reducible refine gate_dst (N := 15) rfl ?_); (try (refine gate_guard (by rfl) ?_; dsimp only)); refine box_event ?hg (N := 15) ?hd (cs := #[.string (⟨#[]⟩ : ByteArray), .int .i64 0, .int .i64 0, .int .i64 0]) (t := 35) ?hr ?_; (case hd => rfl); (case hg => rfl); (case hr => first | (go_simp; done) | (go_simp; rfl)); intro gb349 hg w21 hbox hb; have n0_ := Aside0.mk (Zv BK340 hb); have n1_ := Aside0.mk (Zv BK341 hb); have n2_ := Aside0.mk (Zv BK342 hb); have n3_ := Aside0.mk (Yv HB hb); have n4_ := Aside0.mk (hbox); have n5_ := Aside0.mk ((by rw [hg]; exact (below_size (Yr HB)) : w.heap.size ≤ gb349)); have n6_ := Aside0.mk ((by rw [hg]; exact (below_size (Yr HB)) : w.heap.size ≤ gb349)); have n7_ := Aside0.mk ((by rw [hg]; exact Nat.ne_of_lt (blk_lt (g := gb340) (o := .cells #[.string a0_0, .slice A0_1 l0_1.length c0_1] 24 (0, 0)) (Zr BK340)) : gb340 ≠ gb349)); have n8_ := Aside0.mk ((by rw [hg]; exact Nat.ne_of_gt (blk_lt (g := gb340) (o := .cells #[.string a0_0, .slice A0_1 l0_1.length c0_1] 24 (0, 0)) (Zr BK340)) : gb349 ≠ gb340)); have n9_ := Aside0.mk ((by rw [hg]; exact Nat.ne_of_lt (blk_lt (g := gb341) (o := .cells #[.string a1_0, .string a1_1, .int .i64 a1_2, .int .i64 a1_3, .int .i64 a1_4, .int .i64 a1_5, .bool a1_6] 26 (0, 0)) (Zr BK341)) : gb341 ≠ gb349)); have n10_ := Aside0.mk ((by rw [hg]; exact Nat.ne_of_gt (blk_lt (g := gb341) (o := .cells #[.string a1_0, .string a1_1, .int .i64 a1_2, .int .i64 a1_3, .int .i64 a1_4, .int .i64 a1_5, .bool a1_6] 26 (0, 0)) (Zr BK341)) : gb349 ≠ gb341)); have n11_ := Aside0.mk ((by rw [hg]; exact Nat.ne_of_lt (blk_lt (g := gb342) (o := .cells #[.string (⟨#[]⟩ : ByteArray), .string (⟨#[]⟩ : ByteArray), .int .i64 0, .int .i64 0, .int .i64 0, .int .i64 0, .bool false] 26 (0, 0)) (Zr BK342)) : gb342 ≠ gb349)); have n12_ := Aside0.mk ((by rw [hg]; exact Nat.ne_of_gt (blk_lt (g := gb342) (o := .cells #[.string (⟨#[]⟩ : ByteArray), .string (⟨#[]⟩ : ByteArray), .int .i64 0, .int .i64 0, .int .i64 0, .int .i64 0, .bool false] 26 (0, 0)) (Zr BK342)) : gb349 ≠ gb342)); clear BK340; clear BK341; clear BK342; clear HB; have BK340 := n0_; have BK341 := n1_; have BK342 := n2_; have HB := n3_; have BK349 := n4_; have GW349 := n5_; have GE349 := n6_; have NB340_349 := n7_; have NB349_340 := n8_; have NB341_349 := n9_; have NB349_341 := n10_; have NB342_349 := n11_; have NB349_342 := n12_; clear n0_ n1_ n2_ n3_ n4_ n5_ n6_ n7_ n8_ n9_ n10_ n11_ n12_; clear hb hbox hg; have hnb22 := NB349_340.out; have hnc22 := NB340_349.out; have hnb23 := NB349_341.out; have hnc23 := NB341_349.out; have hnb24 := NB349_342.out; have hnc24 := NB342_349.out; obtain ⟨⟨hcz25_0, hcz25_1, hcz25_2, hcz25_3⟩, hfz25_0, hfz25_1, hfz25_2, hfz25_3⟩ := Zk4 BK349)))
 (try simp only [Act.put, List.setIfInBounds_toArray, List.set_cons_zero, List.set_cons_succ])
 go_cut [56] (fun v56 wc => ∃ (kq : Nat) (x56_8 : Bool), v56 = .bool x56_8 ∧ Aside0 (palinoderef19_Reply.j0 kq a4 a5 x56_8 a0_0 l0_1 a1_0 a1_1 a1_2 a1_3 a1_4 a1_5 a1_6 = some (r1, r2, r3, r4, r5, r6, r7, r8)) ∧ Aside0 (kq ≤ k) ∧ Aside0 (wc.heap[gb340]? = some (.cells #[.string a0_0, (.slice A0_1 l0_1.length c0_1)] 24 (0, 0))) ∧ Aside0 (wc.heap[gb341]? = some (.cells #[.string a1_0, .string a1_1, .int .i64 a1_2, .int .i64 a1_3, .int .i64 a1_4, .int .i64 a1_5, .bool a1_6] 26 (0, 0))) ∧ Aside0 (wc.heap[gb342]? = some (.cells #[.string (⟨#[]⟩ : ByteArray), .string (⟨#[]⟩ : ByteArray), .int .i64 0, .int .i64 0, .int .i64 0, .int .i64 0, .bool false] 26 (0, 0))) ∧ Aside0 (wc.heap[gb349]? = some (.cells #[.string t344, .int .i64 t345, .int .i64 t346, .int .i64 t347] 35 (0, 0))) ∧ Aside0 (Below w.heap.size w wc))
 case first =>
  have H := HC9.out
  clear HC9
  by_cases c26 : t343 = true
  ·
   subst c26
   have H1 : (if t348 = true then (if a2 = t345 then (if a3 = t346 then (if a4 < 1 then (palinoderef19_Reply.j0 k a4 a5 true a0_0 l0_1 a1_0 a1_1 a1_2 a1_3 a1_4 a1_5 a1_6) else (if a4 > 3 then (palinoderef19_Reply.j0 k a4 a5 true a0_0 l0_1 a1_0 a1_1 a1_2 a1_3 a1_4 a1_5 a1_6) else ((palinoderef19_time.f a5).bind fun t350 => (palinoderef19_Reply.j0 k a4 a5 (!t350) a0_0 l0_1 a1_0 a1_1 a1_2 a1_3 a1_4 a1_5 a1_6)))) else (palinoderef19_Reply.j0 k a4 a5 true a0_0 l0_1 a1_0 a1_1 a1_2 a1_3 a1_4 a1_5 a1_6)) else (palinoderef19_Reply.j0 k a4 a5 true a0_0 l0_1 a1_0 a1_1 a1_2 a1_3 a1_4 a1_5 a1_6)) else (palinoderef19_Reply.j0 k a4 a5 true a0_0 l0_1 a1_0 a1_1 a1_2 a1_3 a1_4 a1_5 a1_6)) = some (r1, r2, r3, r4, r5, r6, r7, r8) := by rw [if_pos rfl] at H; exact H
   clear H
   have H := H1
   clear H1
   by_cases c27 : t348 = true
   ·
    subst c27
    have H1 : (if a2 = t345 then (if a3 = t346 then (if a4 < 1 then (palinoderef19_Reply.j0 k a4 a5 true a0_0 l0_1 a1_0 a1_1 a1_2 a1_3 a1_4 a1_5 a1_6) else (if a4 > 3 then (palinoderef19_Reply.j0 k a4 a5 true a0_0 l0_1 a1_0 a1_1 a1_2 a1_3 a1_4 a1_5 a1_6) else ((palinoderef19_time.f a5).bind fun t350 => (palinoderef19_Reply.j0 k a4 a5 (!t350) a0_0 l0_1 a1_0 a1_1 a1_2 a1_3 a1_4 a1_5 a1_6)))) else (palinoderef19_Reply.j0 k a4 a5 true a0_0 l0_1 a1_0 a1_1 a1_2 a1_3 a1_4 a1_5 a1_6)) else (palinoderef19_Reply.j0 k a4 a5 true a0_0 l0_1 a1_0 a1_1 a1_2 a1_3 a1_4 a1_5 a1_6)) = some (r1, r2, r3, r4, r5, r6, r7, r8) := by rw [if_pos rfl] at H; exact H
    clear H
    have H := H1
    clear H1
    by_cases c28 : a2 = t345
    ·
     rw [if_pos c28] at H
     have c28b0 : (a2 == t345) = true := beq_iff_eq.mpr c28
     have c28b1 : (a2 != t345) = false := bne_eq_false_iff_eq.mpr c28
     clear c28
     (first | rw [c28b0] | (simp only [i64_w, i32_w]; rw [c28b0]) | skip)
     by_cases c29 : a3 = t346
     ·
      rw [if_pos c29] at H
      have c29b0 : (a3 == t346) = true := beq_iff_eq.mpr c29
      have c29b1 : (a3 != t346) = false := bne_eq_false_iff_eq.mpr c29
      clear c29
      by_cases c30 : a4 < 1
      ·
       rw [if_pos c30] at H
       have c30b0 : decide (a4 < 1) = true := decide_eq_true c30
       clear c30
       have H' := Aside0.mk H
       clear H
       have hnb31 := NB349_340.out
       have hnc31 := NB340_349.out
       have hnb32 := NB349_341.out
       have hnc32 := NB341_349.out
       have hnb33 := NB349_342.out
       have hnc33 := NB342_349.out
       obtain ⟨⟨hcz34_0, hcz34_1, hcz34_2, hcz34_3⟩, hfz34_0, hfz34_1, hfz34_2, hfz34_3⟩ := Zk4 BK349
       go_wp2
       repeat (go_quiet (fail); try go_wp2)
       go_meet
       case rel => exact ⟨_, (true), (by first | rfl | (simp; done) | (simp [*]; done)), H', ⟨by first | omega | exact Nat.le_refl _⟩, ⟨by (with_reducible repeat (first | refine Zn ?_ _ | refine Zd ?_ | refine Za ?_ _)); refine Zq ?_ NB340_349.out _; (with_reducible repeat (first | refine Zn ?_ _ | refine Zd ?_ | refine Za ?_ _)); refine Zq ?_ NB340_349.out _; (with_reducible repeat (first | refine Zn ?_ _ | refine Zd ?_ | refine Za ?_ _)); refine Zq ?_ NB340_349.out _; (with_reducible repeat (first | refine Zn ?_ _ | refine Zd ?_ | refine Za ?_ _)); refine Zq ?_ NB340_349.out _; (with_reducible repeat (first | refine Zn ?_ _ | refine Zd ?_ | refine Za ?_ _)); exact BK340.out⟩, ⟨by (with_reducible repeat (first | refine Zn ?_ _ | refine Zd ?_ | refine Za ?_ _)); refine Zq ?_ NB341_349.out _; (with_reducible repeat (first | refine Zn ?_ _ | refine Zd ?_ | refine Za ?_ _)); refine Zq ?_ NB341_349.out _; (with_reducible repeat (first | refine Zn ?_ _ | refine Zd ?_ | refine Za ?_ _)); refine Zq ?_ NB341_349.out _; (with_reducible repeat (first | refine Zn ?_ _ | refine Zd ?_ | refine Za ?_ _)); refine Zq ?_ NB341_349.out _; (with_reducible repeat (first | refine Zn ?_ _ | refine Zd ?_ | refine Za ?_ _)); exact BK341.out⟩, ⟨by (with_reducible repeat (first | refine Zn ?_ _ | refine Zd ?_ | refine Za ?_ _)); refine Zq ?_ NB342_349.out _; (with_reducible repeat (first | refine Zn ?_ _ | refine Zd ?_ | refine Za ?_ _)); refine Zq ?_ NB342_349.out _; (with_reducible repeat (first | refine Zn ?_ _ | refine Zd ?_ | refine Za ?_ _)); refine Zq ?_ NB342_349.out _; (with_reducible repeat (first | refine Zn ?_ _ | refine Zd ?_ | refine Za ?_ _)); refine Zq ?_ NB342_349.out _; (with_reducible repeat (first | refine Zn ?_ _ | refine Zd ?_ | refine Za ?_ _)); exact BK342.out⟩, ⟨by (with_reducible repeat (first | refine Zn ?_ _ | refine Zd ?_ | refine Za ?_ _)); refine Zp (cs := #[.string t344, .int .i64 t345, .int .i64 t346, .int .i64 0]) ?_ 3 _ rfl; (with_reducible repeat (first | refine Zn ?_ _ | refine Zd ?_ | refine Za ?_ _)); refine Zp (cs := #[.string t344, .int .i64 t345, .int .i64 0, .int .i64 0]) ?_ 2 _ rfl; (with_reducible repeat (first | refine Zn ?_ _ | refine Zd ?_ | refine Za ?_ _)); refine Zp (cs := #[.string t344, .int .i64 0, .int .i64 0, .int .i64 0]) ?_ 1 _ rfl; (with_reducible repeat (first | refine Zn ?_ _ | refine Zd ?_ | refine Za ?_ _)); refine Zp (cs := #[.string (⟨#[]⟩ : ByteArray), .int .i64 0, .int .i64 0, .int .i64 0]) ?_ 0 _ rfl; (with_reducible repeat (first | refine Zn ?_ _ | refine Zd ?_ | refine Za ?_ _)); exact BK349.out⟩, ⟨Yr HB⟩⟩
      ·
       rw [if_neg c30] at H
       have c30b0 : decide (a4 < 1) = false := decide_eq_false c30
       clear c30
       by_cases c35 : a4 > 3
       ·
        rw [if_pos c35] at H
        have c35b0 : decide (3 < a4) = true := decide_eq_true c35
        clear c35
        have H' := Aside0.mk H
        clear H
        have hnb36 := NB349_340.out
        have hnc36 := NB340_349.out
        have hnb37 := NB349_341.out
        have hnc37 := NB341_349.out
        have hnb38 := NB349_342.out
        have hnc38 := NB342_349.out
        obtain ⟨⟨hcz39_0, hcz39_1, hcz39_2, hcz39_3⟩, hfz39_0, hfz39_1, hfz39_2, hfz39_3⟩ := Zk4 BK349
        go_wp2
        repeat (go_quiet (fail); try go_wp2)
        go_meet
        case rel => exact ⟨_, (true), (by first | rfl | (simp; done) | (simp [*]; done)), H', ⟨by first | omega | exact Nat.le_refl _⟩, ⟨by (with_reducible repeat (first | refine Zn ?_ _ | refine Zd ?_ | refine Za ?_ _)); refine Zq ?_ NB340_349.out _; (with_reducible repeat (first | refine Zn ?_ _ | refine Zd ?_ | refine Za ?_ _)); refine Zq ?_ NB340_349.out _; (with_reducible repeat (first | refine Zn ?_ _ | refine Zd ?_ | refine Za ?_ _)); refine Zq ?_ NB340_349.out _; (with_reducible repeat (first | refine Zn ?_ _ | refine Zd ?_ | refine Za ?_ _)); refine Zq ?_ NB340_349.out _; (with_reducible repeat (first | refine Zn ?_ _ | refine Zd ?_ | refine Za ?_ _)); exact BK340.out⟩, ⟨by (with_reducible repeat (first | refine Zn ?_ _ | refine Zd ?_ | refine Za ?_ _)); refine Zq ?_ NB341_349.out _; (with_reducible repeat (first | refine Zn ?_ _ | refine Zd ?_ | refine Za ?_ _)); refine Zq ?_ NB341_349.out _; (with_reducible repeat (first | refine Zn ?_ _ | refine Zd ?_ | refine Za ?_ _)); refine Zq ?_ NB341_349.out _; (with_reducible repeat (first | refine Zn ?_ _ | refine Zd ?_ | refine Za ?_ _)); refine Zq ?_ NB341_349.out _; (with_reducible repeat (first | refine Zn ?_ _ | refine Zd ?_ | refine Za ?_ _)); exact BK341.out⟩, ⟨by (with_reducible repeat (first | refine Zn ?_ _ | refine Zd ?_ | refine Za ?_ _)); refine Zq ?_ NB342_349.out _; (with_reducible repeat (first | refine Zn ?_ _ | refine Zd ?_ | refine Za ?_ _)); refine Zq ?_ NB342_349.out _; (with_reducible repeat (first | refine Zn ?_ _ | refine Zd ?_ | refine Za ?_ _)); refine Zq ?_ NB342_349.out _; (with_reducible repeat (first | refine Zn ?_ _ | refine Zd ?_ | refine Za ?_ _)); refine Zq ?_ NB342_349.out _; (with_reducible repeat (first | refine Zn ?_ _ | refine Zd ?_ | refine Za ?_ _)); exact BK342.out⟩, ⟨by (with_reducible repeat (first | refine Zn ?_ _ | refine Zd ?_ | refine Za ?_ _)); refine Zp (cs := #[.string t344, .int .i64 t345, .int .i64 t346, .int .i64 0]) ?_ 3 _ rfl; (with_reducible repeat (first | refine Zn ?_ _ | refine Zd ?_ | refine Za ?_ _)); refine Zp (cs := #[.string t344, .int .i64 t345, .int .i64 0, .int .i64 0]) ?_ 2 _ rfl; (with_reducible repeat (first | refine Zn ?_ _ | refine Zd ?_ | refine Za ?_ _)); refine Zp (cs := #[.string t344, .int .i64 0, .int .i64 0, .int .i64 0]) ?_ 1 _ rfl; (with_reducible repeat (first | refine Zn ?_ _ | refine Zd ?_ | refine Za ?_ _)); refine Zp (cs := #[.string (⟨#[]⟩ : ByteArray), .int .i64 0, .int .i64 0, .int .i64 0]) ?_ 0 _ rfl; (with_reducible repeat (first | refine Zn ?_ _ | refine Zd ?_ | refine Za ?_ _)); exact BK349.out⟩, ⟨Yr HB⟩⟩
       ·
        rw [if_neg c35] at H
        have c35b0 : decide (3 < a4) = false := decide_eq_false c35
        clear c35
        replace H := Option.bind_eq_some_iff.mp H
        obtain ⟨t350, A400, H⟩ := H
        replace H : (palinoderef19_Reply.j0 k a4 a5 (!t350) a0_0 l0_1 a1_0 a1_1 a1_2 a1_3 a1_4 a1_5 a1_6) = some (r1, r2, r3, r4, r5, r6, r7, r8) := H
        have A40 := Aside0.mk A400
        clear A400
        have H' := Aside0.mk H
        clear H
        have hnb41 := NB349_340.out
        have hnc41 := NB340_349.out
        have hnb42 := NB349_341.out
        have hnc42 := NB341_349.out
        have hnb43 := NB349_342.out
        have hnc43 := NB342_349.out
        obtain ⟨⟨hcz44_0, hcz44_1, hcz44_2, hcz44_3⟩, hfz44_0, hfz44_1, hfz44_2, hfz44_3⟩ := Zk4 BK349
        go_wp2_with (first | (go_at_call 39; (with_reducible refine (palinoderef19_time.calls a5 t350 _ A40.out).mono ?_); rintro e w' ⟨rfl, ⟨nd, rfl⟩⟩; (try first | exact ⟨rfl, _, World.drewN_drewN _ _ _⟩ | exact ⟨rfl, _, Eq.trans (World.drewN_drewN _ _ _) (congrArg (World.drewN _) (Nat.add_assoc _ _ _))⟩)))
        repeat (go_quiet (first | (go_at_call 39; (with_reducible refine (palinoderef19_time.calls a5 t350 _ A40.out).mono ?_); rintro e w' ⟨rfl, ⟨nd, rfl⟩⟩; (try first | exact ⟨rfl, _, World.drewN_drewN _ _ _⟩ | exact ⟨rfl, _, Eq.trans (World.drewN_drewN _ _ _) (congrArg (World.drewN _) (Nat.add_assoc _ _ _))⟩))); try go_wp2_with (first | (go_at_call 39; (with_reducible refine (palinoderef19_time.calls a5 t350 _ A40.out).mono ?_); rintro e w' ⟨rfl, ⟨nd, rfl⟩⟩; (try first | exact ⟨rfl, _, World.drewN_drewN _ _ _⟩ | exact ⟨rfl, _, Eq.trans (World.drewN_drewN _ _ _) (congrArg (World.drewN _) (Nat.add_assoc _ _ _))⟩))))
        go_meet
        case rel => exact ⟨_, (!t350), (by first | rfl | (simp; done) | (simp [*]; done)), H', ⟨by first | omega | exact Nat.le_refl _⟩, ⟨by (with_reducible repeat (first | refine Zn ?_ _ | refine Zd ?_ | refine Za ?_ _)); refine Zq ?_ NB340_349.out _; (with_reducible repeat (first | refine Zn ?_ _ | refine Zd ?_ | refine Za ?_ _)); refine Zq ?_ NB340_349.out _; (with_reducible repeat (first | refine Zn ?_ _ | refine Zd ?_ | refine Za ?_ _)); refine Zq ?_ NB340_349.out _; (with_reducible repeat (first | refine Zn ?_ _ | refine Zd ?_ | refine Za ?_ _)); refine Zq ?_ NB340_349.out _; (with_reducible repeat (first | refine Zn ?_ _ | refine Zd ?_ | refine Za ?_ _)); exact BK340.out⟩, ⟨by (with_reducible repeat (first | refine Zn ?_ _ | refine Zd ?_ | refine Za ?_ _)); refine Zq ?_ NB341_349.out _; (with_reducible repeat (first | refine Zn ?_ _ | refine Zd ?_ | refine Za ?_ _)); refine Zq ?_ NB341_349.out _; (with_reducible repeat (first | refine Zn ?_ _ | refine Zd ?_ | refine Za ?_ _)); refine Zq ?_ NB341_349.out _; (with_reducible repeat (first | refine Zn ?_ _ | refine Zd ?_ | refine Za ?_ _)); refine Zq ?_ NB341_349.out _; (with_reducible repeat (first | refine Zn ?_ _ | refine Zd ?_ | refine Za ?_ _)); exact BK341.out⟩, ⟨by (with_reducible repeat (first | refine Zn ?_ _ | refine Zd ?_ | refine Za ?_ _)); refine Zq ?_ NB342_349.out _; (with_reducible repeat (first | refine Zn ?_ _ | refine Zd ?_ | refine Za ?_ _)); refine Zq ?_ NB342_349.out _; (with_reducible repeat (first | refine Zn ?_ _ | refine Zd ?_ | refine Za ?_ _)); refine Zq ?_ NB342_349.out _; (with_reducible repeat (first | refine Zn ?_ _ | refine Zd ?_ | refine Za ?_ _)); refine Zq ?_ NB342_349.out _; (with_reducible repeat (first | refine Zn ?_ _ | refine Zd ?_ | refine Za ?_ _)); exact BK342.out⟩, ⟨by (with_reducible repeat (first | refine Zn ?_ _ | refine Zd ?_ | refine Za ?_ _)); refine Zp (cs := #[.string t344, .int .i64 t345, .int .i64 t346, .int .i64 0]) ?_ 3 _ rfl; (with_reducible repeat (first | refine Zn ?_ _ | refine Zd ?_ | refine Za ?_ _)); refine Zp (cs := #[.string t344, .int .i64 t345, .int .i64 0, .int .i64 0]) ?_ 2 _ rfl; (with_reducible repeat (first | refine Zn ?_ _ | refine Zd ?_ | refine Za ?_ _)); refine Zp (cs := #[.string t344, .int .i64 0, .int .i64 0, .int .i64 0]) ?_ 1 _ rfl; (with_reducible repeat (first | refine Zn ?_ _ | refine Zd ?_ | refine Za ?_ _)); refine Zp (cs := #[.string (⟨#[]⟩ : ByteArray), .int .i64 0, .int .i64 0, .int .i64 0]) ?_ 0 _ rfl; (with_reducible repeat (first | refine Zn ?_ _ | refine Zd ?_ | refine Za ?_ _)); exact BK349.out⟩, ⟨Yr HB⟩⟩
     ·
      rw [if_neg c29] at H
      have c29b0 : (a3 == t346) = false := beq_eq_false_iff_ne.mpr c29
      have c29b1 : (a3 != t346) = true := bne_iff_ne.mpr c29
      have H' := Aside0.mk H
      clear H
      have hnb45 := NB349_340.out
      have hnc45 := NB340_349.out
      have hnb46 := NB349_341.out
      have hnc46 := NB341_349.out
      have hnb47 := NB349_342.out
      have hnc47 := NB342_349.out
      obtain ⟨⟨hcz48_0, hcz48_1, hcz48_2, hcz48_3⟩, hfz48_0, hfz48_1, hfz48_2, hfz48_3⟩ := Zk4 BK349
      go_wp2
      repeat (go_quiet (fail); try go_wp2)
      go_meet
      case rel => exact ⟨_, (true), (by first | rfl | (simp; done) | (simp [*]; done)), H', ⟨by first | omega | exact Nat.le_refl _⟩, ⟨by (with_reducible repeat (first | refine Zn ?_ _ | refine Zd ?_ | refine Za ?_ _)); refine Zq ?_ NB340_349.out _; (with_reducible repeat (first | refine Zn ?_ _ | refine Zd ?_ | refine Za ?_ _)); refine Zq ?_ NB340_349.out _; (with_reducible repeat (first | refine Zn ?_ _ | refine Zd ?_ | refine Za ?_ _)); refine Zq ?_ NB340_349.out _; (with_reducible repeat (first | refine Zn ?_ _ | refine Zd ?_ | refine Za ?_ _)); refine Zq ?_ NB340_349.out _; (with_reducible repeat (first | refine Zn ?_ _ | refine Zd ?_ | refine Za ?_ _)); exact BK340.out⟩, ⟨by (with_reducible repeat (first | refine Zn ?_ _ | refine Zd ?_ | refine Za ?_ _)); refine Zq ?_ NB341_349.out _; (with_reducible repeat (first | refine Zn ?_ _ | refine Zd ?_ | refine Za ?_ _)); refine Zq ?_ NB341_349.out _; (with_reducible repeat (first | refine Zn ?_ _ | refine Zd ?_ | refine Za ?_ _)); refine Zq ?_ NB341_349.out _; (with_reducible repeat (first | refine Zn ?_ _ | refine Zd ?_ | refine Za ?_ _)); refine Zq ?_ NB341_349.out _; (with_reducible repeat (first | refine Zn ?_ _ | refine Zd ?_ | refine Za ?_ _)); exact BK341.out⟩, ⟨by (with_reducible repeat (first | refine Zn ?_ _ | refine Zd ?_ | refine Za ?_ _)); refine Zq ?_ NB342_349.out _; (with_reducible repeat (first | refine Zn ?_ _ | refine Zd ?_ | refine Za ?_ _)); refine Zq ?_ NB342_349.out _; (with_reducible repeat (first | refine Zn ?_ _ | refine Zd ?_ | refine Za ?_ _)); refine Zq ?_ NB342_349.out _; (with_reducible repeat (first | refine Zn ?_ _ | refine Zd ?_ | refine Za ?_ _)); refine Zq ?_ NB342_349.out _; (with_reducible repeat (first | refine Zn ?_ _ | refine Zd ?_ | refine Za ?_ _)); exact BK342.out⟩, ⟨by (with_reducible repeat (first | refine Zn ?_ _ | refine Zd ?_ | refine Za ?_ _)); refine Zp (cs := #[.string t344, .int .i64 t345, .int .i64 t346, .int .i64 0]) ?_ 3 _ rfl; (with_reducible repeat (first | refine Zn ?_ _ | refine Zd ?_ | refine Za ?_ _)); refine Zp (cs := #[.string t344, .int .i64 t345, .int .i64 0, .int .i64 0]) ?_ 2 _ rfl; (with_reducible repeat (first | refine Zn ?_ _ | refine Zd ?_ | refine Za ?_ _)); refine Zp (cs := #[.string t344, .int .i64 0, .int .i64 0, .int .i64 0]) ?_ 1 _ rfl; (with_reducible repeat (first | refine Zn ?_ _ | refine Zd ?_ | refine Za ?_ _)); refine Zp (cs := #[.string (⟨#[]⟩ : ByteArray), .int .i64 0, .int .i64 0, .int .i64 0]) ?_ 0 _ rfl; (with_reducible repeat (first | refine Zn ?_ _ | refine Zd ?_ | refine Za ?_ _)); exact BK349.out⟩, ⟨Yr HB⟩⟩
    ·
     rw [if_neg c28] at H
     have c28b0 : (a2 == t345) = false := beq_eq_false_iff_ne.mpr c28
     have c28b1 : (a2 != t345) = true := bne_iff_ne.mpr c28
     (first | rw [c28b0] | (simp only [i64_w, i32_w]; rw [c28b0]) | skip)
     have H' := Aside0.mk H
     clear H
     have hnb49 := NB349_340.out
     have hnc49 := NB340_349.out
     have hnb50 := NB349_341.out
     have hnc50 := NB341_349.out
     have hnb51 := NB349_342.out
     have hnc51 := NB342_349.out
     obtain ⟨⟨hcz52_0, hcz52_1, hcz52_2, hcz52_3⟩, hfz52_0, hfz52_1, hfz52_2, hfz52_3⟩ := Zk4 BK349
     go_wp2
     repeat (go_quiet (fail); try go_wp2)
     go_meet
     case rel => exact ⟨_, (true), (by first | rfl | (simp; done) | (simp [*]; done)), H', ⟨by first | omega | exact Nat.le_refl _⟩, ⟨by (with_reducible repeat (first | refine Zn ?_ _ | refine Zd ?_ | refine Za ?_ _)); refine Zq ?_ NB340_349.out _; (with_reducible repeat (first | refine Zn ?_ _ | refine Zd ?_ | refine Za ?_ _)); refine Zq ?_ NB340_349.out _; (with_reducible repeat (first | refine Zn ?_ _ | refine Zd ?_ | refine Za ?_ _)); refine Zq ?_ NB340_349.out _; (with_reducible repeat (first | refine Zn ?_ _ | refine Zd ?_ | refine Za ?_ _)); refine Zq ?_ NB340_349.out _; (with_reducible repeat (first | refine Zn ?_ _ | refine Zd ?_ | refine Za ?_ _)); exact BK340.out⟩, ⟨by (with_reducible repeat (first | refine Zn ?_ _ | refine Zd ?_ | refine Za ?_ _)); refine Zq ?_ NB341_349.out _; (with_reducible repeat (first | refine Zn ?_ _ | refine Zd ?_ | refine Za ?_ _)); refine Zq ?_ NB341_349.out _; (with_reducible repeat (first | refine Zn ?_ _ | refine Zd ?_ | refine Za ?_ _)); refine Zq ?_ NB341_349.out _; (with_reducible repeat (first | refine Zn ?_ _ | refine Zd ?_ | refine Za ?_ _)); refine Zq ?_ NB341_349.out _; (with_reducible repeat (first | refine Zn ?_ _ | refine Zd ?_ | refine Za ?_ _)); exact BK341.out⟩, ⟨by (with_reducible repeat (first | refine Zn ?_ _ | refine Zd ?_ | refine Za ?_ _)); refine Zq ?_ NB342_349.out _; (with_reducible repeat (first | refine Zn ?_ _ | refine Zd ?_ | refine Za ?_ _)); refine Zq ?_ NB342_349.out _; (with_reducible repeat (first | refine Zn ?_ _ | refine Zd ?_ | refine Za ?_ _)); refine Zq ?_ NB342_349.out _; (with_reducible repeat (first | refine Zn ?_ _ | refine Zd ?_ | refine Za ?_ _)); refine Zq ?_ NB342_349.out _; (with_reducible repeat (first | refine Zn ?_ _ | refine Zd ?_ | refine Za ?_ _)); exact BK342.out⟩, ⟨by (with_reducible repeat (first | refine Zn ?_ _ | refine Zd ?_ | refine Za ?_ _)); refine Zp (cs := #[.string t344, .int .i64 t345, .int .i64 t346, .int .i64 0]) ?_ 3 _ rfl; (with_reducible repeat (first | refine Zn ?_ _ | refine Zd ?_ | refine Za ?_ _)); refine Zp (cs := #[.string t344, .int .i64 t345, .int .i64 0, .int .i64 0]) ?_ 2 _ rfl; (with_reducible repeat (first | refine Zn ?_ _ | refine Zd ?_ | refine Za ?_ _)); refine Zp (cs := #[.string t344, .int .i64 0, .int .i64 0, .int .i64 0]) ?_ 1 _ rfl; (with_reducible repeat (first | refine Zn ?_ _ | refine Zd ?_ | refine Za ?_ _)); refine Zp (cs := #[.string (⟨#[]⟩ : ByteArray), .int .i64 0, .int .i64 0, .int .i64 0]) ?_ 0 _ rfl; (with_reducible repeat (first | refine Zn ?_ _ | refine Zd ?_ | refine Za ?_ _)); exact BK349.out⟩, ⟨Yr HB⟩⟩
   ·
    replace c27 := Bool.eq_false_iff.mpr c27
    subst c27
    have H1 : (palinoderef19_Reply.j0 k a4 a5 true a0_0 l0_1 a1_0 a1_1 a1_2 a1_3 a1_4 a1_5 a1_6) = some (r1, r2, r3, r4, r5, r6, r7, r8) := by rw [if_neg (show ¬ (false = true) by decide)] at H; exact H
    clear H
    have H := H1
    clear H1
    have H' := Aside0.mk H
    clear H
    go_wp2
    repeat (go_quiet (fail); try go_wp2)
    go_meet
    case rel => exact ⟨_, (true), (by first | rfl | (simp; done) | (simp [*]; done)), H', ⟨by first | omega | exact Nat.le_refl _⟩, ⟨by (with_reducible repeat (first | refine Zn ?_ _ | refine Zd ?_ | refine Za ?_ _)); refine Zq ?_ NB340_349.out _; (with_reducible repeat (first | refine Zn ?_ _ | refine Zd ?_ | refine Za ?_ _)); refine Zq ?_ NB340_349.out _; (with_reducible repeat (first | refine Zn ?_ _ | refine Zd ?_ | refine Za ?_ _)); refine Zq ?_ NB340_349.out _; (with_reducible repeat (first | refine Zn ?_ _ | refine Zd ?_ | refine Za ?_ _)); refine Zq ?_ NB340_349.out _; (with_reducible repeat (first | refine Zn ?_ _ | refine Zd ?_ | refine Za ?_ _)); exact BK340.out⟩, ⟨by (with_reducible repeat (first | refine Zn ?_ _ | refine Zd ?_ | refine Za ?_ _)); refine Zq ?_ NB341_349.out _; (with_reducible repeat (first | refine Zn ?_ _ | refine Zd ?_ | refine Za ?_ _)); refine Zq ?_ NB341_349.out _; (with_reducible repeat (first | refine Zn ?_ _ | refine Zd ?_ | refine Za ?_ _)); refine Zq ?_ NB341_349.out _; (with_reducible repeat (first | refine Zn ?_ _ | refine Zd ?_ | refine Za ?_ _)); refine Zq ?_ NB341_349.out _; (with_reducible repeat (first | refine Zn ?_ _ | refine Zd ?_ | refine Za ?_ _)); exact BK341.out⟩, ⟨by (with_reducible repeat (first | refine Zn ?_ _ | refine Zd ?_ | refine Za ?_ _)); refine Zq ?_ NB342_349.out _; (with_reducible repeat (first | refine Zn ?_ _ | refine Zd ?_ | refine Za ?_ _)); refine Zq ?_ NB342_349.out _; (with_reducible repeat (first | refine Zn ?_ _ | refine Zd ?_ | refine Za ?_ _)); refine Zq ?_ NB342_349.out _; (with_reducible repeat (first | refine Zn ?_ _ | refine Zd ?_ | refine Za ?_ _)); refine Zq ?_ NB342_349.out _; (with_reducible repeat (first | refine Zn ?_ _ | refine Zd ?_ | refine Za ?_ _)); exact BK342.out⟩, ⟨by (with_reducible repeat (first | refine Zn ?_ _ | refine Zd ?_ | refine Za ?_ _)); refine Zp (cs := #[.string t344, .int .i64 t345, .int .i64 t346, .int .i64 0]) ?_ 3 _ rfl; (with_reducible repeat (first | refine Zn ?_ _ | refine Zd ?_ | refine Za ?_ _)); refine Zp (cs := #[.string t344, .int .i64 t345, .int .i64 0, .int .i64 0]) ?_ 2 _ rfl; (with_reducible repeat (first | refine Zn ?_ _ | refine Zd ?_ | refine Za ?_ _)); refine Zp (cs := #[.string t344, .int .i64 0, .int .i64 0, .int .i64 0]) ?_ 1 _ rfl; (with_reducible repeat (first | refine Zn ?_ _ | refine Zd ?_ | refine Za ?_ _)); refine Zp (cs := #[.string (⟨#[]⟩ : ByteArray), .int .i64 0, .int .i64 0, .int .i64 0]) ?_ 0 _ rfl; (with_reducible repeat (first | refine Zn ?_ _ | refine Zd ?_ | refine Za ?_ _)); exact BK349.out⟩, ⟨Yr HB⟩⟩
  ·
   replace c26 := Bool.eq_false_iff.mpr c26
   subst c26
   have H1 : (palinoderef19_Reply.j0 k a4 a5 true a0_0 l0_1 a1_0 a1_1 a1_2 a1_3 a1_4 a1_5 a1_6) = some (r1, r2, r3, r4, r5, r6, r7, r8) := by rw [if_neg (show ¬ (false = true) by decide)] at H; exact H
   clear H
   have H := H1
   clear H1
   have H' := Aside0.mk H
   clear H
   go_wp2
   repeat (go_quiet (fail); try go_wp2)
   go_meet
   case rel => exact ⟨_, (true), (by first | rfl | (simp; done) | (simp [*]; done)), H', ⟨by first | omega | exact Nat.le_refl _⟩, ⟨by (with_reducible repeat (first | refine Zn ?_ _ | refine Zd ?_ | refine Za ?_ _)); refine Zq ?_ NB340_349.out _; (with_reducible repeat (first | refine Zn ?_ _ | refine Zd ?_ | refine Za ?_ _)); refine Zq ?_ NB340_349.out _; (with_reducible repeat (first | refine Zn ?_ _ | refine Zd ?_ | refine Za ?_ _)); refine Zq ?_ NB340_349.out _; (with_reducible repeat (first | refine Zn ?_ _ | refine Zd ?_ | refine Za ?_ _)); refine Zq ?_ NB340_349.out _; (with_reducible repeat (first | refine Zn ?_ _ | refine Zd ?_ | refine Za ?_ _)); exact BK340.out⟩, ⟨by (with_reducible repeat (first | refine Zn ?_ _ | refine Zd ?_ | refine Za ?_ _)); refine Zq ?_ NB341_349.out _; (with_reducible repeat (first | refine Zn ?_ _ | refine Zd ?_ | refine Za ?_ _)); refine Zq ?_ NB341_349.out _; (with_reducible repeat (first | refine Zn ?_ _ | refine Zd ?_ | refine Za ?_ _)); refine Zq ?_ NB341_349.out _; (with_reducible repeat (first | refine Zn ?_ _ | refine Zd ?_ | refine Za ?_ _)); refine Zq ?_ NB341_349.out _; (with_reducible repeat (first | refine Zn ?_ _ | refine Zd ?_ | refine Za ?_ _)); exact BK341.out⟩, ⟨by (with_reducible repeat (first | refine Zn ?_ _ | refine Zd ?_ | refine Za ?_ _)); refine Zq ?_ NB342_349.out _; (with_reducible repeat (first | refine Zn ?_ _ | refine Zd ?_ | refine Za ?_ _)); refine Zq ?_ NB342_349.out _; (with_reducible repeat (first | refine Zn ?_ _ | refine Zd ?_ | refine Za ?_ _)); refine Zq ?_ NB342_349.out _; (with_reducible repeat (first | refine Zn ?_ _ | refine Zd ?_ | refine Za ?_ _)); refine Zq ?_ NB342_349.out _; (with_reducible repeat (first | refine Zn ?_ _ | refine Zd ?_ | refine Za ?_ _)); exact BK342.out⟩, ⟨by (with_reducible repeat (first | refine Zn ?_ _ | refine Zd ?_ | refine Za ?_ _)); refine Zp (cs := #[.string t344, .int .i64 t345, .int .i64 t346, .int .i64 0]) ?_ 3 _ rfl; (with_reducible repeat (first | refine Zn ?_ _ | refine Zd ?_ | refine Za ?_ _)); refine Zp (cs := #[.string t344, .int .i64 t345, .int .i64 0, .int .i64 0]) ?_ 2 _ rfl; (with_reducible repeat (first | refine Zn ?_ _ | refine Zd ?_ | refine Za ?_ _)); refine Zp (cs := #[.string t344, .int .i64 0, .int .i64 0, .int .i64 0]) ?_ 1 _ rfl; (with_reducible repeat (first | refine Zn ?_ _ | refine Zd ?_ | refine Za ?_ _)); refine Zp (cs := #[.string (⟨#[]⟩ : ByteArray), .int .i64 0, .int .i64 0, .int .i64 0]) ?_ 0 _ rfl; (with_reducible repeat (first | refine Zn ?_ _ | refine Zd ?_ | refine Za ?_ _)); exact BK349.out⟩, ⟨Yr HB⟩⟩
 case rest =>
  clear HC9
  try clear c1
  try clear c2
  try clear p2
  try clear c3
  try clear c4
  try clear c5
  try clear c13
  try clear c14
  try clear c16
  try clear c22
  try clear c23
  try clear c24
  try clear c26
  try clear c27
  try clear c28
  try clear c28b0
  try clear c28b1
  try clear c29
  try clear c29b0
  try clear c29b1
  try clear c30
  try clear c30b0
  try clear c31
  try clear c32
  try clear c33
  try clear c35
  try clear c35b0
  try clear c36
  try clear c37
  try clear c38
  try clear c41
  try clear c42
  try clear c43
  try clear c45
  try clear c46
  try clear c47
  try clear c49
  try clear c50
  try clear c51
  try clear hcz15_0
  try clear hcz15_1
  try clear hcz17_0
  try clear hcz17_1
  try clear hcz17_2
  try clear hcz17_3
  try clear hcz17_4
  try clear hcz17_5
  try clear hcz17_6
  try clear hcz19_0
  try clear hcz19_1
  try clear hcz19_2
  try clear hcz19_3
  try clear hcz19_4
  try clear hcz19_5
  try clear hcz19_6
  try clear hcz25_0
  try clear hcz25_1
  try clear hcz25_2
  try clear hcz25_3
  try clear hcz34_0
  try clear hcz34_1
  try clear hcz34_2
  try clear hcz34_3
  try clear hcz39_0
  try clear hcz39_1
  try clear hcz39_2
  try clear hcz39_3
  try clear hcz44_0
  try clear hcz44_1
  try clear hcz44_2
  try clear hcz44_3
  try clear hcz48_0
  try clear hcz48_1
  try clear hcz48_2
  try clear hcz48_3
  try clear hcz52_0
  try clear hcz52_1
  try clear hcz52_2
  try clear hcz52_3
  try clear hfz15_0
  try clear hfz15_1
  try clear hfz17_0
  try clear hfz17_1
  try clear hfz17_2
  try clear hfz17_3
  try clear hfz17_4
  try clear hfz17_5
  try clear hfz17_6
  try clear hfz19_0
  try clear hfz19_1
  try clear hfz19_2
  try clear hfz19_3
  try clear hfz19_4
  try clear hfz19_5
  try clear hfz19_6
  try clear hfz25_0
  try clear hfz25_1
  try clear hfz25_2
  try clear hfz25_3
  try clear hfz34_0
  try clear hfz34_1
  try clear hfz34_2
  try clear hfz34_3
  try clear hfz39_0
  try clear hfz39_1
  try clear hfz39_2
  try clear hfz39_3
  try clear hfz44_0
  try clear hfz44_1
  try clear hfz44_2
  try clear hfz44_3
  try clear hfz48_0
  try clear hfz48_1
  try clear hfz48_2
  try clear hfz48_3
  try clear hfz52_0
  try clear hfz52_1
  try clear hfz52_2
  try clear hfz52_3
  obtain ⟨kq, x56_8, rfl, HA, HJ8, BK340, BK341, BK342, BK349, HB⟩ := hcut
  cases kq with
  | zero => exact absurd HA.out (by simp [palinoderef19_Reply.j0])
  | succ kj8 =>
   have H := HA.out
   clear HA
   simp only [palinoderef19_Reply.j0] at H
   by_cases c53 : x56_8 = true
   ·
    subst c53
    have H1 : (some (a1_0, a1_1, a1_2, a1_3, a1_4, a1_5, a1_6, false)) = some (r1, r2, r3, r4, r5, r6, r7, r8) := by rw [if_pos rfl] at H; exact H
    clear H
    have H := H1
    clear H1
    simp only [Option.some.injEq, Prod.mk.injEq] at H
    obtain ⟨rfl, rfl, rfl, rfl, rfl, rfl, rfl, rfl⟩ := H
    have hnb54 := NB341_340.out
    have hnc54 := NB340_341.out
    have hnb55 := NB341_342.out
    have hnc55 := NB342_341.out
    have hnb56 := NB341_349.out
    have hnc56 := NB349_341.out
    obtain ⟨⟨hcz57_0, hcz57_1, hcz57_2, hcz57_3, hcz57_4, hcz57_5, hcz57_6⟩, hfz57_0, hfz57_1, hfz57_2, hfz57_3, hfz57_4, hfz57_5, hfz57_6⟩ := Zk7 BK341
    have hnb58 := NB342_340.out
    have hnc58 := NB340_342.out
    have hnb59 := NB342_349.out
    have hnc59 := NB349_342.out
    obtain ⟨⟨hcz60_0, hcz60_1, hcz60_2, hcz60_3, hcz60_4, hcz60_5, hcz60_6⟩, hfz60_0, hfz60_1, hfz60_2, hfz60_3, hfz60_4, hfz60_5, hfz60_6⟩ := Zk7 BK342
    go_wp2
    repeat (go_quiet (fail); try go_wp2)
    refine bodyPost_ret (results_ct rfl _ _ gb342 26 #[.string a1_0, .string a1_1, .int .i64 a1_2, .int .i64 a1_3, .int .i64 a1_4, .int .i64 a1_5, .bool a1_6] (0, 0) _ rfl (by (with_reducible repeat (first | refine Zn ?_ _ | refine Zd ?_ | refine Za ?_ _)); refine Zp (cs := #[.string a1_0, .string a1_1, .int .i64 a1_2, .int .i64 a1_3, .int .i64 a1_4, .int .i64 a1_5, .bool false]) ?_ 6 _ rfl; (with_reducible repeat (first | refine Zn ?_ _ | refine Zd ?_ | refine Za ?_ _)); refine Zp (cs := #[.string a1_0, .string a1_1, .int .i64 a1_2, .int .i64 a1_3, .int .i64 a1_4, .int .i64 0, .bool false]) ?_ 5 _ rfl; (with_reducible repeat (first | refine Zn ?_ _ | refine Zd ?_ | refine Za ?_ _)); refine Zp (cs := #[.string a1_0, .string a1_1, .int .i64 a1_2, .int .i64 a1_3, .int .i64 0, .int .i64 0, .bool false]) ?_ 4 _ rfl; (with_reducible repeat (first | refine Zn ?_ _ | refine Zd ?_ | refine Za ?_ _)); refine Zp (cs := #[.string a1_0, .string a1_1, .int .i64 a1_2, .int .i64 0, .int .i64 0, .int .i64 0, .bool false]) ?_ 3 _ rfl; (with_reducible repeat (first | refine Zn ?_ _ | refine Zd ?_ | refine Za ?_ _)); refine Zp (cs := #[.string a1_0, .string a1_1, .int .i64 0, .int .i64 0, .int .i64 0, .int .i64 0, .bool false]) ?_ 2 _ rfl; (with_reducible repeat (first | refine Zn ?_ _ | refine Zd ?_ | refine Za ?_ _)); refine Zp (cs := #[.string a1_0, .string (⟨#[]⟩ : ByteArray), .int .i64 0, .int .i64 0, .int .i64 0, .int .i64 0, .bool false]) ?_ 1 _ rfl; (with_reducible repeat (first | refine Zn ?_ _ | refine Zd ?_ | refine Za ?_ _)); refine Zp (cs := #[.string (⟨#[]⟩ : ByteArray), .string (⟨#[]⟩ : ByteArray), .int .i64 0, .int .i64 0, .int .i64 0, .int .i64 0, .bool false]) ?_ 0 _ rfl; (with_reducible repeat (first | refine Zn ?_ _ | refine Zd ?_ | refine Za ?_ _)); exact BK342.out) Try.underlying26 rfl (by kernel_rfl)) rfl ?_
    exact ⟨by first | rfl | (simp [errW_none, errW_some] <;> rfl) | (simp [*, errW_none, errW_some] <;> rfl), Yr HB⟩
   ·
    replace c53 := Bool.eq_false_iff.mpr c53
    subst c53
    have H1 : (if 0 ≤ a1_3 then (if a1_3 < (l0_1.length : Int) then (if a1_2 = 1 then (if a4 = 1 then (palinoderef19_Reply.j1 kj8 a4 a5 (decide (a1_4 < ((rd_T53 l0_1 a1_3).f0))) ((wrap64 (a1_3 + 1)) == (l0_1.length : Int)) a0_0 l0_1 a1_0 a1_1 a1_2 a1_3 a1_4 a1_5 a1_6) else (palinoderef19_Reply.j1 kj8 a4 a5 (decide (a1_4 < ((rd_T53 l0_1 a1_3).f0))) false a0_0 l0_1 a1_0 a1_1 a1_2 a1_3 a1_4 a1_5 a1_6)) else (if a4 = 1 then (palinoderef19_Reply.j3 kj8 a4 a5 (decide (a1_4 < ((rd_T53 l0_1 a1_3).f0))) (a1_3 == 0) a0_0 l0_1 a1_0 a1_1 a1_2 a1_3 a1_4 a1_5 a1_6) else (palinoderef19_Reply.j3 kj8 a4 a5 (decide (a1_4 < ((rd_T53 l0_1 a1_3).f0))) false a0_0 l0_1 a1_0 a1_1 a1_2 a1_3 a1_4 a1_5 a1_6))) else (none)) else (none)) = some (r1, r2, r3, r4, r5, r6, r7, r8) := by rw [if_neg (show ¬ (false = true) by decide)] at H; exact H
    clear H
    have H := H1
    clear H1
    by_cases c61 : 0 ≤ a1_3
    ·
     rw [if_pos c61] at H
     have c61b0 : decide (0 ≤ a1_3) = true := decide_eq_true c61
     clear c61
     by_cases c62 : a1_3 < (l0_1.length : Int)
     ·
      rw [if_pos c62] at H
      have c62b0 : decide (a1_3 < (l0_1.length : Int)) = true := decide_eq_true c62
      clear c62
      by_cases c63 : a1_2 = 1
      ·
       rw [if_pos c63] at H
       have c63b0 : (a1_2 == 1) = true := beq_iff_eq.mpr c63
       have c63b1 : (a1_2 != 1) = false := bne_eq_false_iff_eq.mpr c63
       clear c63
       have HC64 := Aside0.mk H
       clear H
       have hnb65 := NB341_340.out
       have hnc65 := NB340_341.out
       have hnb66 := NB341_342.out
       have hnc66 := NB342_341.out
       have hnb67 := NB341_349.out
       have hnc67 := NB349_341.out
       obtain ⟨⟨hcz68_0, hcz68_1, hcz68_2, hcz68_3, hcz68_4, hcz68_5, hcz68_6⟩, hfz68_0, hfz68_1, hfz68_2, hfz68_3, hfz68_4, hfz68_5, hfz68_6⟩ := Zk7 BK341
       have hnb69 := NB340_342.out
       have hnc69 := NB342_340.out
       have hnb70 := NB340_349.out
       have hnc70 := NB349_340.out
       obtain ⟨⟨hcz71_0, hcz71_1⟩, hfz71_0, hfz71_1⟩ := Zk2 BK340
       have p351 : 0 ≤ (a1_3 : Int) := of_decide_eq_true (by first | (with_reducible assumption) | assumption)
       have q351 : a1_3 < (l0_1.length : Int) := of_decide_eq_true (by first | (with_reducible assumption) | assumption)
       obtain ⟨ad351, e351, hx351_0, hx351_1⟩ := at_T53 HR0_1.out a1_3 p351 q351
       cases e351
       replace hx351_0 := (HB.out.cell (World.block_lt_of_cell? w _ hx351_0)).trans hx351_0
       replace hx351_1 := (HB.out.cell (World.block_lt_of_cell? w _ hx351_1)).trans hx351_1
       replace p351 := eq_true p351
       replace q351 := eq_true q351
       go_upto_region 7 with (fail)
       repeat (go_quiet (fail); go_upto_region 7 with (fail))
       go_cut [71] (fun v71 wc => ∃ (kq : Nat) (x71_63 : Bool), v71 = .bool x71_63 ∧ Aside0 (palinoderef19_Reply.j1 kq a4 a5 (decide (a1_4 < ((rd_T53 l0_1 a1_3).f0))) x71_63 a0_0 l0_1 a1_0 a1_1 a1_2 a1_3 a1_4 a1_5 a1_6 = some (r1, r2, r3, r4, r5, r6, r7, r8)) ∧ Aside0 (kq ≤ kj8) ∧ Aside0 (wc.heap[gb340]? = some (.cells #[.string a0_0, (.slice (some ad351) l0_1.length c0_1)] 24 (0, 0))) ∧ Aside0 (wc.heap[gb341]? = some (.cells #[.string a1_0, .string a1_1, .int .i64 a1_2, .int .i64 a1_3, .int .i64 a1_4, .int .i64 a1_5, .bool a1_6] 26 (0, 0))) ∧ Aside0 (wc.heap[gb342]? = some (.cells #[.string (⟨#[]⟩ : ByteArray), .string (⟨#[]⟩ : ByteArray), .int .i64 0, .int .i64 0, .int .i64 0, .int .i64 0, .bool false] 26 (0, 0))) ∧ Aside0 (wc.heap[gb349]? = some (.cells #[.string t344, .int .i64 t345, .int .i64 t346, .int .i64 t347] 35 (0, 0))) ∧ Aside0 (Below w.heap.size w wc))
       case first =>
        have H := HC64.out
        clear HC64
        by_cases c72 : a4 = 1
        ·
         rw [if_pos c72] at H
         have c72b0 : (a4 == 1) = true := beq_iff_eq.mpr c72
         have c72b1 : (a4 != 1) = false := bne_eq_false_iff_eq.mpr c72
         clear c72
         (first | rw [c72b0] | (simp only [i64_w, i32_w]; rw [c72b0]) | skip)
         have H' := Aside0.mk H
         clear H
         have hnb73 := NB341_340.out
         have hnc73 := NB340_341.out
         have hnb74 := NB341_342.out
         have hnc74 := NB342_341.out
         have hnb75 := NB341_349.out
         have hnc75 := NB349_341.out
         obtain ⟨⟨hcz76_0, hcz76_1, hcz76_2, hcz76_3, hcz76_4, hcz76_5, hcz76_6⟩, hfz76_0, hfz76_1, hfz76_2, hfz76_3, hfz76_4, hfz76_5, hfz76_6⟩ := Zk7 BK341
         have hnb77 := NB340_342.out
         have hnc77 := NB342_340.out
         have hnb78 := NB340_349.out
         have hnc78 := NB349_340.out
         obtain ⟨⟨hcz79_0, hcz79_1⟩, hfz79_0, hfz79_1⟩ := Zk2 BK340
         go_wp2
         repeat (go_quiet (fail); try go_wp2)
         go_meet
         case rel => exact ⟨_, (((wrap64 (a1_3 + 1)) == (l0_1.length : Int))), (by first | rfl | (simp; done) | (simp [*]; done)), H', ⟨by have := HJ8.out; first | omega | exact Nat.le_refl _⟩, ⟨by (with_reducible repeat (first | refine Zn ?_ _ | refine Zd ?_ | refine Za ?_ _)); exact BK340.out⟩, ⟨by (with_reducible repeat (first | refine Zn ?_ _ | refine Zd ?_ | refine Za ?_ _)); exact BK341.out⟩, ⟨by (with_reducible repeat (first | refine Zn ?_ _ | refine Zd ?_ | refine Za ?_ _)); exact BK342.out⟩, ⟨by (with_reducible repeat (first | refine Zn ?_ _ | refine Zd ?_ | refine Za ?_ _)); exact BK349.out⟩, ⟨Yr HB⟩⟩
        ·
         rw [if_neg c72] at H
         have c72b0 : (a4 == 1) = false := beq_eq_false_iff_ne.mpr c72
         have c72b1 : (a4 != 1) = true := bne_iff_ne.mpr c72
         (first | rw [c72b0] | (simp only [i64_w, i32_w]; rw [c72b0]) | skip)
         have H' := Aside0.mk H
         clear H
         go_wp2
         repeat (go_quiet (fail); try go_wp2)
         go_meet
         case rel => exact ⟨_, (false), (by first | rfl | (simp; done) | (simp [*]; done)), H', ⟨by have := HJ8.out; first | omega | exact Nat.le_refl _⟩, ⟨by (with_reducible repeat (first | refine Zn ?_ _ | refine Zd ?_ | refine Za ?_ _)); exact BK340.out⟩, ⟨by (with_reducible repeat (first | refine Zn ?_ _ | refine Zd ?_ | refine Za ?_ _)); exact BK341.out⟩, ⟨by (with_reducible repeat (first | refine Zn ?_ _ | refine Zd ?_ | refine Za ?_ _)); exact BK342.out⟩, ⟨by (with_reducible repeat (first | refine Zn ?_ _ | refine Zd ?_ | refine Za ?_ _)); exact BK349.out⟩, ⟨Yr HB⟩⟩
       case rest =>
        clear HC64
        try clear c1
        try clear c2
        try clear p2
        try clear c3
        try clear p3
        try clear q3
        try clear hx3
        try clear c4
        try clear c5
        try clear c6
        try clear p6
        try clear c7
        try clear c13
        try clear c14
        try clear c16
        try clear c22
        try clear c23
        try clear c24
        try clear c26
        try clear c27
        try clear c28
        try clear c28b0
        try clear c28b1
        try clear c29
        try clear c29b0
        try clear c29b1
        try clear c30
        try clear c30b0
        try clear c31
        try clear c32
        try clear c33
        try clear c35
        try clear c35b0
        try clear p35
        try clear q35
        try clear hx35
        try clear c36
        try clear c37
        try clear c38
        try clear c41
        try clear c42
        try clear c43
        try clear c45
        try clear c46
        try clear c47
        try clear c49
        try clear c50
        try clear c51
        try clear c53
        try clear c54
        try clear c55
        try clear c56
        try clear c58
        try clear c59
        try clear c61
        try clear c61b0
        try clear c62
        try clear c62b0
        try clear c63
        try clear c63b0
        try clear c63b1
        try clear p64
        try clear c65
        try clear c66
        try clear c67
        try clear c69
        try clear c70
        try clear c72
        try clear c72b0
        try clear c72b1
        try clear c73
        try clear c74
        try clear c75
        try clear c77
        try clear c78
        try clear hcz15_0
        try clear hcz15_1
        try clear hcz17_0
        try clear hcz17_1
        try clear hcz17_2
        try clear hcz17_3
        try clear hcz17_4
        try clear hcz17_5
        try clear hcz17_6
        try clear hcz19_0
        try clear hcz19_1
        try clear hcz19_2
        try clear hcz19_3
        try clear hcz19_4
        try clear hcz19_5
        try clear hcz19_6
        try clear hcz25_0
        try clear hcz25_1
        try clear hcz25_2
        try clear hcz25_3
        try clear hcz34_0
        try clear hcz34_1
        try clear hcz34_2
        try clear hcz34_3
        try clear hcz39_0
        try clear hcz39_1
        try clear hcz39_2
        try clear hcz39_3
        try clear hcz44_0
        try clear hcz44_1
        try clear hcz44_2
        try clear hcz44_3
        try clear hcz48_0
        try clear hcz48_1
        try clear hcz48_2
        try clear hcz48_3
        try clear hcz52_0
        try clear hcz52_1
        try clear hcz52_2
        try clear hcz52_3
        try clear hcz57_0
        try clear hcz57_1
        try clear hcz57_2
        try clear hcz57_3
        try clear hcz57_4
        try clear hcz57_5
        try clear hcz57_6
        try clear hcz60_0
        try clear hcz60_1
        try clear hcz60_2
        try clear hcz60_3
        try clear hcz60_4
        try clear hcz60_5
        try clear hcz60_6
        try clear hcz68_0
        try clear hcz68_1
        try clear hcz68_2
        try clear hcz68_3
        try clear hcz68_4
        try clear hcz68_5
        try clear hcz68_6
        try clear hcz71_0
        try clear hcz71_1
        try clear hcz76_0
        try clear hcz76_1
        try clear hcz76_2
        try clear hcz76_3
        try clear hcz76_4
        try clear hcz76_5
        try clear hcz76_6
        try clear hcz79_0
        try clear hcz79_1
        try clear hfz15_0
        try clear hfz15_1
        try clear hfz17_0
        try clear hfz17_1
        try clear hfz17_2
        try clear hfz17_3
        try clear hfz17_4
        try clear hfz17_5
        try clear hfz17_6
        try clear hfz19_0
        try clear hfz19_1
        try clear hfz19_2
        try clear hfz19_3
        try clear hfz19_4
        try clear hfz19_5
        try clear hfz19_6
        try clear hfz25_0
        try clear hfz25_1
        try clear hfz25_2
        try clear hfz25_3
        try clear hfz34_0
        try clear hfz34_1
        try clear hfz34_2
        try clear hfz34_3
        try clear hfz39_0
        try clear hfz39_1
        try clear hfz39_2
        try clear hfz39_3
        try clear hfz44_0
        try clear hfz44_1
        try clear hfz44_2
        try clear hfz44_3
        try clear hfz48_0
        try clear hfz48_1
        try clear hfz48_2
        try clear hfz48_3
        try clear hfz52_0
        try clear hfz52_1
        try clear hfz52_2
        try clear hfz52_3
        try clear hfz57_0
        try clear hfz57_1
        try clear hfz57_2
        try clear hfz57_3
        try clear hfz57_4
        try clear hfz57_5
        try clear hfz57_6
        try clear hfz60_0
        try clear hfz60_1
        try clear hfz60_2
        try clear hfz60_3
        try clear hfz60_4
        try clear hfz60_5
        try clear hfz60_6
        try clear hfz68_0
        try clear hfz68_1
        try clear hfz68_2
        try clear hfz68_3
        try clear hfz68_4
        try clear hfz68_5
        try clear hfz68_6
        try clear hfz71_0
        try clear hfz71_1
        try clear hfz76_0
        try clear hfz76_1
        try clear hfz76_2
        try clear hfz76_3
        try clear hfz76_4
        try clear hfz76_5
        try clear hfz76_6
        try clear hfz79_0
        try clear hfz79_1
        try clear hx351_0
        try clear hx351_1
        try clear p2
        try clear p351
        try clear q351
        obtain ⟨kq, x71_63, rfl, HA, HJ63, BK340, BK341, BK342, BK349, HB⟩ := hcut
        cases kq with
        | zero => exact absurd HA.out (by simp [palinoderef19_Reply.j1])
        | succ kj63 =>
         have H := HA.out
         clear HA
         simp only [palinoderef19_Reply.j1] at H
         by_cases c80 : x71_63 = true
         ·
          subst c80
          have H1 : ((palinoderef19_over.f a1_0 a1_1 a1_2 a1_3 a1_4 a1_5 a1_6 3 (wrap64 (a1_3 + 1))).bind fun bt352 => (some (bt352.1, bt352.2.1, bt352.2.2.1, bt352.2.2.2.1, bt352.2.2.2.2.1, bt352.2.2.2.2.2.1, bt352.2.2.2.2.2.2, true))) = some (r1, r2, r3, r4, r5, r6, r7, r8) := by rw [if_pos rfl] at H; exact H
          clear H
          have H := H1
          clear H1
          replace H := Option.bind_eq_some_iff.mp H
          obtain ⟨⟨t352, t353, t354, t355, t356, t357, t358⟩, A810, H⟩ := H
          replace H : (some (t352, t353, t354, t355, t356, t357, t358, true)) = some (r1, r2, r3, r4, r5, r6, r7, r8) := H
          have A81 := Aside0.mk A810
          clear A810
          simp only [Option.some.injEq, Prod.mk.injEq] at H
          obtain ⟨rfl, rfl, rfl, rfl, rfl, rfl, rfl, rfl⟩ := H
          have hnb82 := NB341_340.out
          have hnc82 := NB340_341.out
          have hnb83 := NB341_342.out
          have hnc83 := NB342_341.out
          have hnb84 := NB341_349.out
          have hnc84 := NB349_341.out
          obtain ⟨⟨hcz85_0, hcz85_1, hcz85_2, hcz85_3, hcz85_4, hcz85_5, hcz85_6⟩, hfz85_0, hfz85_1, hfz85_2, hfz85_3, hfz85_4, hfz85_5, hfz85_6⟩ := Zk7 BK341
          go_wp2_with (first | (go_at_call 43; (with_reducible refine (palinoderef19_over.calls a1_0 a1_1 a1_2 a1_3 a1_4 a1_5 a1_6 3 (wrap64 (a1_3 + 1)) t352 t353 t354 t355 t356 t357 t358 _ A81.out).mono ?_); rintro e w86 ⟨rfl, hb⟩; have n0_ := Aside0.mk (Zv BK340 hb); have n1_ := Aside0.mk (Zv BK341 hb); have n2_ := Aside0.mk (Zv BK342 hb); have n3_ := Aside0.mk (Zv BK349 hb); have n4_ := Aside0.mk (Yv HB hb); clear BK340; clear BK341; clear BK342; clear BK349; clear HB; have BK340 := n0_; have BK341 := n1_; have BK342 := n2_; have BK349 := n3_; have HB := n4_; clear n0_ n1_ n2_ n3_ n4_; (try clear hb); (try clear hb2); (try clear hk); (try clear hi); have hnb87 := NB342_340.out; have hnc87 := NB340_342.out; have hnb88 := NB342_349.out; have hnc88 := NB349_342.out; obtain ⟨⟨hcz89_0, hcz89_1, hcz89_2, hcz89_3, hcz89_4, hcz89_5, hcz89_6⟩, hfz89_0, hfz89_1, hfz89_2, hfz89_3, hfz89_4, hfz89_5, hfz89_6⟩ := Zk7 BK342))
          repeat (go_quiet (first | (go_at_call 43; (with_reducible refine (palinoderef19_over.calls a1_0 a1_1 a1_2 a1_3 a1_4 a1_5 a1_6 3 (wrap64 (a1_3 + 1)) t352 t353 t354 t355 t356 t357 t358 _ A81.out).mono ?_); rintro e w86 ⟨rfl, hb⟩; have n0_ := Aside0.mk (Zv BK340 hb); have n1_ := Aside0.mk (Zv BK341 hb); have n2_ := Aside0.mk (Zv BK342 hb); have n3_ := Aside0.mk (Zv BK349 hb); have n4_ := Aside0.mk (Yv HB hb); clear BK340; clear BK341; clear BK342; clear BK349; clear HB; have BK340 := n0_; have BK341 := n1_; have BK342 := n2_; have BK349 := n3_; have HB := n4_; clear n0_ n1_ n2_ n3_ n4_; (try clear hb); (try clear hb2); (try clear hk); (try clear hi); have hnb87 := NB342_340.out; have hnc87 := NB340_342.out; have hnb88 := NB342_349.out; have hnc88 := NB349_342.out; obtain ⟨⟨hcz89_0, hcz89_1, hcz89_2, hcz89_3, hcz89_4, hcz89_5, hcz89_6⟩, hfz89_0, hfz89_1, hfz89_2, hfz89_3, hfz89_4, hfz89_5, hfz89_6⟩ := Zk7 BK342)); try go_wp2_with (first | (go_at_call 43; (with_reducible refine (palinoderef19_over.calls a1_0 a1_1 a1_2 a1_3 a1_4 a1_5 a1_6 3 (wrap64 (a1_3 + 1)) t352 t353 t354 t355 t356 t357 t358 _ A81.out).mono ?_); rintro e w86 ⟨rfl, hb⟩; have n0_ := Aside0.mk (Zv BK340 hb); have n1_ := Aside0.mk (Zv BK341 hb); have n2_ := Aside0.mk (Zv BK342 hb); have n3_ := Aside0.mk (Zv BK349 hb); have n4_ := Aside0.mk (Yv HB hb); clear BK340; clear BK341; clear BK342; clear BK349; clear HB; have BK340 := n0_; have BK341 := n1_; have BK342 := n2_; have BK349 := n3_; have HB := n4_; clear n0_ n1_ n2_ n3_ n4_; (try clear hb); (try clear hb2); (try clear hk); (try clear hi); have hnb87 := NB342_340.out; have hnc87 := NB340_342.out; have hnb88 := NB342_349.out; have hnc88 := NB349_342.out; obtain ⟨⟨hcz89_0, hcz89_1, hcz89_2, hcz89_3, hcz89_4, hcz89_5, hcz89_6⟩, hfz89_0, hfz89_1, hfz89_2, hfz89_3, hfz89_4, hfz89_5, hfz89_6⟩ := Zk7 BK342)))
          refine bodyPost_ret (results_ct rfl _ _ gb342 26 #[.string t352, .string t353, .int .i64 t354, .int .i64 t355, .int .i64 t356, .int .i64 t357, .bool t358] (0, 0) _ rfl (by (with_reducible repeat (first | refine Zn ?_ _ | refine Zd ?_ | refine Za ?_ _)); refine Zp (cs := #[.string t352, .string t353, .int .i64 t354, .int .i64 t355, .int .i64 t356, .int .i64 t357, .bool false]) ?_ 6 _ rfl; (with_reducible repeat (first | refine Zn ?_ _ | refine Zd ?_ | refine Za ?_ _)); refine Zp (cs := #[.string t352, .string t353, .int .i64 t354, .int .i64 t355, .int .i64 t356, .int .i64 0, .bool false]) ?_ 5 _ rfl; (with_reducible repeat (first | refine Zn ?_ _ | refine Zd ?_ | refine Za ?_ _)); refine Zp (cs := #[.string t352, .string t353, .int .i64 t354, .int .i64 t355, .int .i64 0, .int .i64 0, .bool false]) ?_ 4 _ rfl; (with_reducible repeat (first | refine Zn ?_ _ | refine Zd ?_ | refine Za ?_ _)); refine Zp (cs := #[.string t352, .string t353, .int .i64 t354, .int .i64 0, .int .i64 0, .int .i64 0, .bool false]) ?_ 3 _ rfl; (with_reducible repeat (first | refine Zn ?_ _ | refine Zd ?_ | refine Za ?_ _)); refine Zp (cs := #[.string t352, .string t353, .int .i64 0, .int .i64 0, .int .i64 0, .int .i64 0, .bool false]) ?_ 2 _ rfl; (with_reducible repeat (first | refine Zn ?_ _ | refine Zd ?_ | refine Za ?_ _)); refine Zp (cs := #[.string t352, .string (⟨#[]⟩ : ByteArray), .int .i64 0, .int .i64 0, .int .i64 0, .int .i64 0, .bool false]) ?_ 1 _ rfl; (with_reducible repeat (first | refine Zn ?_ _ | refine Zd ?_ | refine Za ?_ _)); refine Zp (cs := #[.string (⟨#[]⟩ : ByteArray), .string (⟨#[]⟩ : ByteArray), .int .i64 0, .int .i64 0, .int .i64 0, .int .i64 0, .bool false]) ?_ 0 _ rfl; (with_reducible repeat (first | refine Zn ?_ _ | refine Zd ?_ | refine Za ?_ _)); exact BK342.out) Try.underlying26 rfl (by kernel_rfl)) rfl ?_
          exact ⟨by first | rfl | (simp [errW_none, errW_some] <;> rfl) | (simp [*, errW_none, errW_some] <;> rfl), Yr HB⟩
         ·
          replace c80 := Bool.eq_false_iff.mpr c80
          subst c80
          have H1 : (if a4 = 1 then ((palinoderef19_goes.f a0_0 l0_1 a1_0 a1_1 a1_2 a1_3 a1_4 a1_5 a1_6 1 (wrap64 (a1_3 + 1)) 0 a5).bind fun bt359 => (some (bt359.1, bt359.2.1, bt359.2.2.1, bt359.2.2.2.1, bt359.2.2.2.2.1, bt359.2.2.2.2.2.1, bt359.2.2.2.2.2.2, true))) else (if a4 = 2 then (palinoderef19_Reply.j2 kj63 a4 a5 (decide (a1_4 < ((rd_T53 l0_1 a1_3).f0))) (a1_3 == 0) a0_0 l0_1 a1_0 a1_1 a1_2 a1_3 a1_4 a1_5 a1_6) else (palinoderef19_Reply.j2 kj63 a4 a5 (decide (a1_4 < ((rd_T53 l0_1 a1_3).f0))) false a0_0 l0_1 a1_0 a1_1 a1_2 a1_3 a1_4 a1_5 a1_6))) = some (r1, r2, r3, r4, r5, r6, r7, r8) := by rw [if_neg (show ¬ (false = true) by decide)] at H; exact H
          clear H
          have H := H1
          clear H1
          by_cases c90 : a4 = 1
          ·
           rw [if_pos c90] at H
           have c90b0 : (a4 == 1) = true := beq_iff_eq.mpr c90
           have c90b1 : (a4 != 1) = false := bne_eq_false_iff_eq.mpr c90
           clear c90
           replace H := Option.bind_eq_some_iff.mp H
           obtain ⟨⟨t359, t360, t361, t362, t363, t364, t365⟩, A910, H⟩ := H
           replace H : (some (t359, t360, t361, t362, t363, t364, t365, true)) = some (r1, r2, r3, r4, r5, r6, r7, r8) := H
           have A91 := Aside0.mk A910
           clear A910
           simp only [Option.some.injEq, Prod.mk.injEq] at H
           obtain ⟨rfl, rfl, rfl, rfl, rfl, rfl, rfl, rfl⟩ := H
           have hnb92 := NB340_341.out
           have hnc92 := NB341_340.out
           have hnb93 := NB340_342.out
           have hnc93 := NB342_340.out
           have hnb94 := NB340_349.out
           have hnc94 := NB349_340.out
           obtain ⟨⟨hcz95_0, hcz95_1⟩, hfz95_0, hfz95_1⟩ := Zk2 BK340
           have hnb96 := NB341_342.out
           have hnc96 := NB342_341.out
           have hnb97 := NB341_349.out
           have hnc97 := NB349_341.out
           obtain ⟨⟨hcz98_0, hcz98_1, hcz98_2, hcz98_3, hcz98_4, hcz98_5, hcz98_6⟩, hfz98_0, hfz98_1, hfz98_2, hfz98_3, hfz98_4, hfz98_5, hfz98_6⟩ := Zk7 BK341
           go_wp2_with (first | (go_at_call 44; (with_reducible refine (palinoderef19_goes.calls a0_0 _ _ l0_1 a1_0 a1_1 a1_2 a1_3 a1_4 a1_5 a1_6 1 (wrap64 (a1_3 + 1)) 0 a5 t359 t360 t361 t362 t363 t364 t365 _ ?side1 ?side2 A91.out).mono ?_); (case side1 => repeat (first | exact (Kd.C_below HR0_1.out HB.out) | (with_reducible refine Kd.C_alloc ?_ _) | (with_reducible refine Kd.C_drewN ?_ _) | (with_reducible refine Kd.C_drew ?_))); (case side2 => exact HC0_1.out); rintro e w99 ⟨rfl, hb⟩; have n0_ := Aside0.mk (Zv BK340 hb); have n1_ := Aside0.mk (Zv BK341 hb); have n2_ := Aside0.mk (Zv BK342 hb); have n3_ := Aside0.mk (Zv BK349 hb); have n4_ := Aside0.mk (Yv HB hb); clear BK340; clear BK341; clear BK342; clear BK349; clear HB; have BK340 := n0_; have BK341 := n1_; have BK342 := n2_; have BK349 := n3_; have HB := n4_; clear n0_ n1_ n2_ n3_ n4_; (try clear hb); (try clear hb2); (try clear hk); (try clear hi); have hnb100 := NB342_349.out; have hnc100 := NB349_342.out; obtain ⟨⟨hcz101_0, hcz101_1, hcz101_2, hcz101_3, hcz101_4, hcz101_5, hcz101_6⟩, hfz101_0, hfz101_1, hfz101_2, hfz101_3, hfz101_4, hfz101_5, hfz101_6⟩ := Zk7 BK342))
           repeat (go_quiet (first | (go_at_call 44; (with_reducible refine (palinoderef19_goes.calls a0_0 _ _ l0_1 a1_0 a1_1 a1_2 a1_3 a1_4 a1_5 a1_6 1 (wrap64 (a1_3 + 1)) 0 a5 t359 t360 t361 t362 t363 t364 t365 _ ?side1 ?side2 A91.out).mono ?_); (case side1 => repeat (first | exact (Kd.C_below HR0_1.out HB.out) | (with_reducible refine Kd.C_alloc ?_ _) | (with_reducible refine Kd.C_drewN ?_ _) | (with_reducible refine Kd.C_drew ?_))); (case side2 => exact HC0_1.out); rintro e w99 ⟨rfl, hb⟩; have n0_ := Aside0.mk (Zv BK340 hb); have n1_ := Aside0.mk (Zv BK341 hb); have n2_ := Aside0.mk (Zv BK342 hb); have n3_ := Aside0.mk (Zv BK349 hb); have n4_ := Aside0.mk (Yv HB hb); clear BK340; clear BK341; clear BK342; clear BK349; clear HB; have BK340 := n0_; have BK341 := n1_; have BK342 := n2_; have BK349 := n3_; have HB := n4_; clear n0_ n1_ n2_ n3_ n4_; (try clear hb); (try clear hb2); (try clear hk); (try clear hi); have hnb100 := NB342_349.out; have hnc100 := NB349_342.out; obtain ⟨⟨hcz101_0, hcz101_1, hcz101_2, hcz101_3, hcz101_4, hcz101_5, hcz101_6⟩, hfz101_0, hfz101_1, hfz101_2, hfz101_3, hfz101_4, hfz101_5, hfz101_6⟩ := Zk7 BK342)); try go_wp2_with (first | (go_at_call 44; (with_reducible refine (palinoderef19_goes.calls a0_0 _ _ l0_1 a1_0 a1_1 a1_2 a1_3 a1_4 a1_5 a1_6 1 (wrap64 (a1_3 + 1)) 0 a5 t359 t360 t361 t362 t363 t364 t365 _ ?side1 ?side2 A91.out).mono ?_); (case side1 => repeat (first | exact (Kd.C_below HR0_1.out HB.out) | (with_reducible refine Kd.C_alloc ?_ _) | (with_reducible refine Kd.C_drewN ?_ _) | (with_reducible refine Kd.C_drew ?_))); (case side2 => exact HC0_1.out); rintro e w99 ⟨rfl, hb⟩; have n0_ := Aside0.mk (Zv BK340 hb); have n1_ := Aside0.mk (Zv BK341 hb); have n2_ := Aside0.mk (Zv BK342 hb); have n3_ := Aside0.mk (Zv BK349 hb); have n4_ := Aside0.mk (Yv HB hb); clear BK340; clear BK341; clear BK342; clear BK349; clear HB; have BK340 := n0_; have BK341 := n1_; have BK342 := n2_; have BK349 := n3_; have HB := n4_; clear n0_ n1_ n2_ n3_ n4_; (try clear hb); (try clear hb2); (try clear hk); (try clear hi); have hnb100 := NB342_349.out; have hnc100 := NB349_342.out; obtain ⟨⟨hcz101_0, hcz101_1, hcz101_2, hcz101_3, hcz101_4, hcz101_5, hcz101_6⟩, hfz101_0, hfz101_1, hfz101_2, hfz101_3, hfz101_4, hfz101_5, hfz101_6⟩ := Zk7 BK342)))
           refine bodyPost_ret (results_ct rfl _ _ gb342 26 #[.string t359, .string t360, .int .i64 t361, .int .i64 t362, .int .i64 t363, .int .i64 t364, .bool t365] (0, 0) _ rfl (by (with_reducible repeat (first | refine Zn ?_ _ | refine Zd ?_ | refine Za ?_ _)); refine Zp (cs := #[.string t359, .string t360, .int .i64 t361, .int .i64 t362, .int .i64 t363, .int .i64 t364, .bool false]) ?_ 6 _ rfl; (with_reducible repeat (first | refine Zn ?_ _ | refine Zd ?_ | refine Za ?_ _)); refine Zp (cs := #[.string t359, .string t360, .int .i64 t361, .int .i64 t362, .int .i64 t363, .int .i64 0, .bool false]) ?_ 5 _ rfl; (with_reducible repeat (first | refine Zn ?_ _ | refine Zd ?_ | refine Za ?_ _)); refine Zp (cs := #[.string t359, .string t360, .int .i64 t361, .int .i64 t362, .int .i64 0, .int .i64 0, .bool false]) ?_ 4 _ rfl; (with_reducible repeat (first | refine Zn ?_ _ | refine Zd ?_ | refine Za ?_ _)); refine Zp (cs := #[.string t359, .string t360, .int .i64 t361, .int .i64 0, .int .i64 0, .int .i64 0, .bool false]) ?_ 3 _ rfl; (with_reducible repeat (first | refine Zn ?_ _ | refine Zd ?_ | refine Za ?_ _)); refine Zp (cs := #[.string t359, .string t360, .int .i64 0, .int .i64 0, .int .i64 0, .int .i64 0, .bool false]) ?_ 2 _ rfl; (with_reducible repeat (first | refine Zn ?_ _ | refine Zd ?_ | refine Za ?_ _)); refine Zp (cs := #[.string t359, .string (⟨#[]⟩ : ByteArray), .int .i64 0, .int .i64 0, .int .i64 0, .int .i64 0, .bool false]) ?_ 1 _ rfl; (with_reducible repeat (first | refine Zn ?_ _ | refine Zd ?_ | refine Za ?_ _)); refine Zp (cs := #[.string (⟨#[]⟩ : ByteArray), .string (⟨#[]⟩ : ByteArray), .int .i64 0, .int .i64 0, .int .i64 0, .int .i64 0, .bool false]) ?_ 0 _ rfl; (with_reducible repeat (first | refine Zn ?_ _ | refine Zd ?_ | refine Za ?_ _)); exact BK342.out) Try.underlying26 rfl (by kernel_rfl)) rfl ?_
           exact ⟨by first | rfl | (simp [errW_none, errW_some] <;> rfl) | (simp [*, errW_none, errW_some] <;> rfl), Yr HB⟩
          ·
           rw [if_neg c90] at H
           have c90b0 : (a4 == 1) = false := beq_eq_false_iff_ne.mpr c90
           have c90b1 : (a4 != 1) = true := bne_iff_ne.mpr c90
           have HC102 := Aside0.mk H
           clear H
           go_upto_region 11 with (fail)
           repeat (go_quiet (fail); go_upto_region 11 with (fail))
           go_cut [98] (fun v98 wc => ∃ (kq : Nat) (x98_101 : Bool), v98 = .bool x98_101 ∧ Aside0 (palinoderef19_Reply.j2 kq a4 a5 (decide (a1_4 < ((rd_T53 l0_1 a1_3).f0))) x98_101 a0_0 l0_1 a1_0 a1_1 a1_2 a1_3 a1_4 a1_5 a1_6 = some (r1, r2, r3, r4, r5, r6, r7, r8)) ∧ Aside0 (kq ≤ kj63) ∧ Aside0 (wc.heap[gb340]? = some (.cells #[.string a0_0, (.slice (some ad351) l0_1.length c0_1)] 24 (0, 0))) ∧ Aside0 (wc.heap[gb341]? = some (.cells #[.string a1_0, .string a1_1, .int .i64 a1_2, .int .i64 a1_3, .int .i64 a1_4, .int .i64 a1_5, .bool a1_6] 26 (0, 0))) ∧ Aside0 (wc.heap[gb342]? = some (.cells #[.string (⟨#[]⟩ : ByteArray), .string (⟨#[]⟩ : ByteArray), .int .i64 0, .int .i64 0, .int .i64 0, .int .i64 0, .bool false] 26 (0, 0))) ∧ Aside0 (wc.heap[gb349]? = some (.cells #[.string t344, .int .i64 t345, .int .i64 t346, .int .i64 t347] 35 (0, 0))) ∧ Aside0 (Below w.heap.size w wc))
           case first =>
            have H := HC102.out
            clear HC102
            by_cases c103 : a4 = 2
            ·
             rw [if_pos c103] at H
             have c103b0 : (a4 == 2) = true := beq_iff_eq.mpr c103
             have c103b1 : (a4 != 2) = false := bne_eq_false_iff_eq.mpr c103
             clear c103
             (first | rw [c103b0] | (simp only [i64_w, i32_w]; rw [c103b0]) | skip)
             have H' := Aside0.mk H
             clear H
             have hnb104 := NB341_340.out
             have hnc104 := NB340_341.out
             have hnb105 := NB341_342.out
             have hnc105 := NB342_341.out
             have hnb106 := NB341_349.out
             have hnc106 := NB349_341.out
             obtain ⟨⟨hcz107_0, hcz107_1, hcz107_2, hcz107_3, hcz107_4, hcz107_5, hcz107_6⟩, hfz107_0, hfz107_1, hfz107_2, hfz107_3, hfz107_4, hfz107_5, hfz107_6⟩ := Zk7 BK341
             go_wp2
             repeat (go_quiet (fail); try go_wp2)
             go_meet
             case rel => exact ⟨_, ((a1_3 == 0)), (by first | rfl | (simp; done) | (simp [*]; done)), H', ⟨by have := HJ8.out; have := HJ63.out; first | omega | exact Nat.le_refl _⟩, ⟨by (with_reducible repeat (first | refine Zn ?_ _ | refine Zd ?_ | refine Za ?_ _)); exact BK340.out⟩, ⟨by (with_reducible repeat (first | refine Zn ?_ _ | refine Zd ?_ | refine Za ?_ _)); exact BK341.out⟩, ⟨by (with_reducible repeat (first | refine Zn ?_ _ | refine Zd ?_ | refine Za ?_ _)); exact BK342.out⟩, ⟨by (with_reducible repeat (first | refine Zn ?_ _ | refine Zd ?_ | refine Za ?_ _)); exact BK349.out⟩, ⟨Yr HB⟩⟩
            ·
             rw [if_neg c103] at H
             have c103b0 : (a4 == 2) = false := beq_eq_false_iff_ne.mpr c103
             have c103b1 : (a4 != 2) = true := bne_iff_ne.mpr c103
             (first | rw [c103b0] | (simp only [i64_w, i32_w]; rw [c103b0]) | skip)
             have H' := Aside0.mk H
             clear H
             go_wp2
             repeat (go_quiet (fail); try go_wp2)
             go_meet
             case rel => exact ⟨_, (false), (by first | rfl | (simp; done) | (simp [*]; done)), H', ⟨by have := HJ8.out; have := HJ63.out; first | omega | exact Nat.le_refl _⟩, ⟨by (with_reducible repeat (first | refine Zn ?_ _ | refine Zd ?_ | refine Za ?_ _)); exact BK340.out⟩, ⟨by (with_reducible repeat (first | refine Zn ?_ _ | refine Zd ?_ | refine Za ?_ _)); exact BK341.out⟩, ⟨by (with_reducible repeat (first | refine Zn ?_ _ | refine Zd ?_ | refine Za ?_ _)); exact BK342.out⟩, ⟨by (with_reducible repeat (first | refine Zn ?_ _ | refine Zd ?_ | refine Za ?_ _)); exact BK349.out⟩, ⟨Yr HB⟩⟩
           case rest =>
            clear HC102
            try clear c1
            try clear c2
            try clear p2
            try clear c3
            try clear p3
            try clear q3
            try clear hx3
            try clear c4
            try clear c5
            try clear c6
            try clear p6
            try clear c7
            try clear c8
            try clear c9
            try clear c10
            try clear c13
            try clear c14
            try clear c16
            try clear c22
            try clear c23
            try clear c24
            try clear c26
            try clear c27
            try clear c28
            try clear c28b0
            try clear c28b1
            try clear c29
            try clear c29b0
            try clear c29b1
            try clear c30
            try clear c30b0
            try clear c31
            try clear c32
            try clear c33
            try clear c35
            try clear c35b0
            try clear p35
            try clear q35
            try clear hx35
            try clear c36
            try clear c37
            try clear c38
            try clear c41
            try clear c42
            try clear c43
            try clear c45
            try clear c46
            try clear c47
            try clear c49
            try clear c50
            try clear c51
            try clear c53
            try clear c54
            try clear c55
            try clear c56
            try clear c58
            try clear c59
            try clear c61
            try clear c61b0
            try clear c62
            try clear c62b0
            try clear c63
            try clear c63b0
            try clear c63b1
            try clear p64
            try clear c65
            try clear c66
            try clear c67
            try clear c69
            try clear c70
            try clear c72
            try clear c72b0
            try clear c72b1
            try clear c73
            try clear c74
            try clear c75
            try clear c77
            try clear c78
            try clear c80
            try clear c82
            try clear c83
            try clear c84
            try clear c87
            try clear c88
            try clear c90
            try clear c90b0
            try clear c90b1
            try clear c92
            try clear c93
            try clear c94
            try clear c96
            try clear c97
            try clear c100
            try clear c103
            try clear c103b0
            try clear c103b1
            try clear c104
            try clear c105
            try clear c106
            try clear hcz101_0
            try clear hcz101_1
            try clear hcz101_2
            try clear hcz101_3
            try clear hcz101_4
            try clear hcz101_5
            try clear hcz101_6
            try clear hcz107_0
            try clear hcz107_1
            try clear hcz107_2
            try clear hcz107_3
            try clear hcz107_4
            try clear hcz107_5
            try clear hcz107_6
            try clear hcz15_0
            try clear hcz15_1
            try clear hcz17_0
            try clear hcz17_1
            try clear hcz17_2
            try clear hcz17_3
            try clear hcz17_4
            try clear hcz17_5
            try clear hcz17_6
            try clear hcz19_0
            try clear hcz19_1
            try clear hcz19_2
            try clear hcz19_3
            try clear hcz19_4
            try clear hcz19_5
            try clear hcz19_6
            try clear hcz25_0
            try clear hcz25_1
            try clear hcz25_2
            try clear hcz25_3
            try clear hcz34_0
            try clear hcz34_1
            try clear hcz34_2
            try clear hcz34_3
            try clear hcz39_0
            try clear hcz39_1
            try clear hcz39_2
            try clear hcz39_3
            try clear hcz44_0
            try clear hcz44_1
            try clear hcz44_2
            try clear hcz44_3
            try clear hcz48_0
            try clear hcz48_1
            try clear hcz48_2
            try clear hcz48_3
            try clear hcz52_0
            try clear hcz52_1
            try clear hcz52_2
            try clear hcz52_3
            try clear hcz57_0
            try clear hcz57_1
            try clear hcz57_2
            try clear hcz57_3
            try clear hcz57_4
            try clear hcz57_5
            try clear hcz57_6
            try clear hcz60_0
            try clear hcz60_1
            try clear hcz60_2
            try clear hcz60_3
            try clear hcz60_4
            try clear hcz60_5
            try clear hcz60_6
            try clear hcz68_0
            try clear hcz68_1
            try clear hcz68_2
            try clear hcz68_3
            try clear hcz68_4
            try clear hcz68_5
            try clear hcz68_6
            try clear hcz71_0
            try clear hcz71_1
            try clear hcz76_0
            try clear hcz76_1
            try clear hcz76_2
            try clear hcz76_3
            try clear hcz76_4
            try clear hcz76_5
            try clear hcz76_6
            try clear hcz79_0
            try clear hcz79_1
            try clear hcz85_0
            try clear hcz85_1
            try clear hcz85_2
            try clear hcz85_3
            try clear hcz85_4
            try clear hcz85_5
            try clear hcz85_6
            try clear hcz89_0
            try clear hcz89_1
            try clear hcz89_2
            try clear hcz89_3
            try clear hcz89_4
            try clear hcz89_5
            try clear hcz89_6
            try clear hcz95_0
            try clear hcz95_1
            try clear hcz98_0
            try clear hcz98_1
            try clear hcz98_2
            try clear hcz98_3
            try clear hcz98_4
            try clear hcz98_5
            try clear hcz98_6
            try clear hfz101_0
            try clear hfz101_1
            try clear hfz101_2
            try clear hfz101_3
            try clear hfz101_4
            try clear hfz101_5
            try clear hfz101_6
            try clear hfz107_0
            try clear hfz107_1
            try clear hfz107_2
            try clear hfz107_3
            try clear hfz107_4
            try clear hfz107_5
            try clear hfz107_6
            try clear hfz15_0
            try clear hfz15_1
            try clear hfz17_0
            try clear hfz17_1
            try clear hfz17_2
            try clear hfz17_3
            try clear hfz17_4
            try clear hfz17_5
            try clear hfz17_6
            try clear hfz19_0
            try clear hfz19_1
            try clear hfz19_2
            try clear hfz19_3
            try clear hfz19_4
            try clear hfz19_5
            try clear hfz19_6
            try clear hfz25_0
            try clear hfz25_1
            try clear hfz25_2
            try clear hfz25_3
            try clear hfz34_0
            try clear hfz34_1
            try clear hfz34_2
            try clear hfz34_3
            try clear hfz39_0
            try clear hfz39_1
            try clear hfz39_2
            try clear hfz39_3
            try clear hfz44_0
            try clear hfz44_1
            try clear hfz44_2
            try clear hfz44_3
            try clear hfz48_0
            try clear hfz48_1
            try clear hfz48_2
            try clear hfz48_3
            try clear hfz52_0
            try clear hfz52_1
            try clear hfz52_2
            try clear hfz52_3
            try clear hfz57_0
            try clear hfz57_1
            try clear hfz57_2
            try clear hfz57_3
            try clear hfz57_4
            try clear hfz57_5
            try clear hfz57_6
            try clear hfz60_0
            try clear hfz60_1
            try clear hfz60_2
            try clear hfz60_3
            try clear hfz60_4
            try clear hfz60_5
            try clear hfz60_6
            try clear hfz68_0
            try clear hfz68_1
            try clear hfz68_2
            try clear hfz68_3
            try clear hfz68_4
            try clear hfz68_5
            try clear hfz68_6
            try clear hfz71_0
            try clear hfz71_1
            try clear hfz76_0
            try clear hfz76_1
            try clear hfz76_2
            try clear hfz76_3
            try clear hfz76_4
            try clear hfz76_5
            try clear hfz76_6
            try clear hfz79_0
            try clear hfz79_1
            try clear hfz85_0
            try clear hfz85_1
            try clear hfz85_2
            try clear hfz85_3
            try clear hfz85_4
            try clear hfz85_5
            try clear hfz85_6
            try clear hfz89_0
            try clear hfz89_1
            try clear hfz89_2
            try clear hfz89_3
            try clear hfz89_4
            try clear hfz89_5
            try clear hfz89_6
            try clear hfz95_0
            try clear hfz95_1
            try clear hfz98_0
            try clear hfz98_1
            try clear hfz98_2
            try clear hfz98_3
            try clear hfz98_4
            try clear hfz98_5
            try clear hfz98_6
            try clear hx351_0
            try clear hx351_1
            try clear p2
            try clear p3
            try clear p35
            try clear p351
            try clear p6
            try clear p64
            try clear q3
            try clear q35
            try clear q351
            obtain ⟨kq, x98_101, rfl, HA, HJ101, BK340, BK341, BK342, BK349, HB⟩ := hcut
            cases kq with
            | zero => exact absurd HA.out (by simp [palinoderef19_Reply.j2])
            | succ kj101 =>
             have H := HA.out
             clear HA
             simp only [palinoderef19_Reply.j2] at H
             by_cases c108 : x98_101 = true
             ·
              subst c108
              have H1 : ((palinoderef19_over.f a1_0 a1_1 a1_2 a1_3 a1_4 a1_5 a1_6 4 0).bind fun bt366 => (some (bt366.1, bt366.2.1, bt366.2.2.1, bt366.2.2.2.1, bt366.2.2.2.2.1, bt366.2.2.2.2.2.1, bt366.2.2.2.2.2.2, true))) = some (r1, r2, r3, r4, r5, r6, r7, r8) := by rw [if_pos rfl] at H; exact H
              clear H
              have H := H1
              clear H1
              replace H := Option.bind_eq_some_iff.mp H
              obtain ⟨⟨t366, t367, t368, t369, t370, t371, t372⟩, A1090, H⟩ := H
              replace H : (some (t366, t367, t368, t369, t370, t371, t372, true)) = some (r1, r2, r3, r4, r5, r6, r7, r8) := H
              have A109 := Aside0.mk A1090
              clear A1090
              simp only [Option.some.injEq, Prod.mk.injEq] at H
              obtain ⟨rfl, rfl, rfl, rfl, rfl, rfl, rfl, rfl⟩ := H
              have hnb110 := NB341_340.out
              have hnc110 := NB340_341.out
              have hnb111 := NB341_342.out
              have hnc111 := NB342_341.out
              have hnb112 := NB341_349.out
              have hnc112 := NB349_341.out
              obtain ⟨⟨hcz113_0, hcz113_1, hcz113_2, hcz113_3, hcz113_4, hcz113_5, hcz113_6⟩, hfz113_0, hfz113_1, hfz113_2, hfz113_3, hfz113_4, hfz113_5, hfz113_6⟩ := Zk7 BK341
              go_wp2_with (first | (go_at_call 43; (with_reducible refine (palinoderef19_over.calls a1_0 a1_1 a1_2 a1_3 a1_4 a1_5 a1_6 4 0 t366 t367 t368 t369 t370 t371 t372 _ A109.out).mono ?_); rintro e w114 ⟨rfl, hb⟩; have n0_ := Aside0.mk (Zv BK340 hb); have n1_ := Aside0.mk (Zv BK341 hb); have n2_ := Aside0.mk (Zv BK342 hb); have n3_ := Aside0.mk (Zv BK349 hb); have n4_ := Aside0.mk (Yv HB hb); clear BK340; clear BK341; clear BK342; clear BK349; clear HB; have BK340 := n0_; have BK341 := n1_; have BK342 := n2_; have BK349 := n3_; have HB := n4_; clear n0_ n1_ n2_ n3_ n4_; (try clear hb); (try clear hb2); (try clear hk); (try clear hi); have hnb115 := NB342_340.out; have hnc115 := NB340_342.out; have hnb116 := NB342_349.out; have hnc116 := NB349_342.out; obtain ⟨⟨hcz117_0, hcz117_1, hcz117_2, hcz117_3, hcz117_4, hcz117_5, hcz117_6⟩, hfz117_0, hfz117_1, hfz117_2, hfz117_3, hfz117_4, hfz117_5, hfz117_6⟩ := Zk7 BK342))
              repeat (go_quiet (first | (go_at_call 43; (with_reducible refine (palinoderef19_over.calls a1_0 a1_1 a1_2 a1_3 a1_4 a1_5 a1_6 4 0 t366 t367 t368 t369 t370 t371 t372 _ A109.out).mono ?_); rintro e w114 ⟨rfl, hb⟩; have n0_ := Aside0.mk (Zv BK340 hb); have n1_ := Aside0.mk (Zv BK341 hb); have n2_ := Aside0.mk (Zv BK342 hb); have n3_ := Aside0.mk (Zv BK349 hb); have n4_ := Aside0.mk (Yv HB hb); clear BK340; clear BK341; clear BK342; clear BK349; clear HB; have BK340 := n0_; have BK341 := n1_; have BK342 := n2_; have BK349 := n3_; have HB := n4_; clear n0_ n1_ n2_ n3_ n4_; (try clear hb); (try clear hb2); (try clear hk); (try clear hi); have hnb115 := NB342_340.out; have hnc115 := NB340_342.out; have hnb116 := NB342_349.out; have hnc116 := NB349_342.out; obtain ⟨⟨hcz117_0, hcz117_1, hcz117_2, hcz117_3, hcz117_4, hcz117_5, hcz117_6⟩, hfz117_0, hfz117_1, hfz117_2, hfz117_3, hfz117_4, hfz117_5, hfz117_6⟩ := Zk7 BK342)); try go_wp2_with (first | (go_at_call 43; (with_reducible refine (palinoderef19_over.calls a1_0 a1_1 a1_2 a1_3 a1_4 a1_5 a1_6 4 0 t366 t367 t368 t369 t370 t371 t372 _ A109.out).mono ?_); rintro e w114 ⟨rfl, hb⟩; have n0_ := Aside0.mk (Zv BK340 hb); have n1_ := Aside0.mk (Zv BK341 hb); have n2_ := Aside0.mk (Zv BK342 hb); have n3_ := Aside0.mk (Zv BK349 hb); have n4_ := Aside0.mk (Yv HB hb); clear BK340; clear BK341; clear BK342; clear BK349; clear HB; have BK340 := n0_; have BK341 := n1_; have BK342 := n2_; have BK349 := n3_; have HB := n4_; clear n0_ n1_ n2_ n3_ n4_; (try clear hb); (try clear hb2); (try clear hk); (try clear hi); have hnb115 := NB342_340.out; have hnc115 := NB340_342.out; have hnb116 := NB342_349.out; have hnc116 := NB349_342.out; obtain ⟨⟨hcz117_0, hcz117_1, hcz117_2, hcz117_3, hcz117_4, hcz117_5, hcz117_6⟩, hfz117_0, hfz117_1, hfz117_2, hfz117_3, hfz117_4, hfz117_5, hfz117_6⟩ := Zk7 BK342)))
              refine bodyPost_ret (results_ct rfl _ _ gb342 26 #[.string t366, .string t367, .int .i64 t368, .int .i64 t369, .int .i64 t370, .int .i64 t371, .bool t372] (0, 0) _ rfl (by (with_reducible repeat (first | refine Zn ?_ _ | refine Zd ?_ | refine Za ?_ _)); refine Zp (cs := #[.string t366, .string t367, .int .i64 t368, .int .i64 t369, .int .i64 t370, .int .i64 t371, .bool false]) ?_ 6 _ rfl; (with_reducible repeat (first | refine Zn ?_ _ | refine Zd ?_ | refine Za ?_ _)); refine Zp (cs := #[.string t366, .string t367, .int .i64 t368, .int .i64 t369, .int .i64 t370, .int .i64 0, .bool false]) ?_ 5 _ rfl; (with_reducible repeat (first | refine Zn ?_ _ | refine Zd ?_ | refine Za ?_ _)); refine Zp (cs := #[.string t366, .string t367, .int .i64 t368, .int .i64 t369, .int .i64 0, .int .i64 0, .bool false]) ?_ 4 _ rfl; (with_reducible repeat (first | refine Zn ?_ _ | refine Zd ?_ | refine Za ?_ _)); refine Zp (cs := #[.string t366, .string t367, .int .i64 t368, .int .i64 0, .int .i64 0, .int .i64 0, .bool false]) ?_ 3 _ rfl; (with_reducible repeat (first | refine Zn ?_ _ | refine Zd ?_ | refine Za ?_ _)); refine Zp (cs := #[.string t366, .string t367, .int .i64 0, .int .i64 0, .int .i64 0, .int .i64 0, .bool false]) ?_ 2 _ rfl; (with_reducible repeat (first | refine Zn ?_ _ | refine Zd ?_ | refine Za ?_ _)); refine Zp (cs := #[.string t366, .string (⟨#[]⟩ : ByteArray), .int .i64 0, .int .i64 0, .int .i64 0, .int .i64 0, .bool false]) ?_ 1 _ rfl; (with_reducible repeat (first | refine Zn ?_ _ | refine Zd ?_ | refine Za ?_ _)); refine Zp (cs := #[.string (⟨#[]⟩ : ByteArray), .string (⟨#[]⟩ : ByteArray), .int .i64 0, .int .i64 0, .int .i64 0, .int .i64 0, .bool false]) ?_ 0 _ rfl; (with_reducible repeat (first | refine Zn ?_ _ | refine Zd ?_ | refine Za ?_ _)); exact BK342.out) Try.underlying26 rfl (by kernel_rfl)) rfl ?_
              exact ⟨by first | rfl | (simp [errW_none, errW_some] <;> rfl) | (simp [*, errW_none, errW_some] <;> rfl), Yr HB⟩
             ·
              replace c108 := Bool.eq_false_iff.mpr c108
              subst c108
              have H1 : (if a4 = 2 then ((palinoderef19_goes.f a0_0 l0_1 a1_0 a1_1 a1_2 a1_3 a1_4 a1_5 a1_6 2 (wrap64 (a1_3 - 1)) 0 a5).bind fun bt373 => (some (bt373.1, bt373.2.1, bt373.2.2.1, bt373.2.2.2.1, bt373.2.2.2.2.1, bt373.2.2.2.2.2.1, bt373.2.2.2.2.2.2, true))) else (if (decide (a1_4 < ((rd_T53 l0_1 a1_3).f0))) = true then ((palinoderef19_goes.f a0_0 l0_1 a1_0 a1_1 a1_2 a1_3 a1_4 a1_5 a1_6 1 a1_3 (wrap64 (a1_4 + 1)) a5).bind fun bt380 => (some (bt380.1, bt380.2.1, bt380.2.2.1, bt380.2.2.2.1, bt380.2.2.2.2.1, bt380.2.2.2.2.2.1, bt380.2.2.2.2.2.2, true))) else ((palinoderef19_goes.f a0_0 l0_1 a1_0 a1_1 a1_2 a1_3 a1_4 a1_5 a1_6 2 a1_3 0 a5).bind fun bt387 => (some (bt387.1, bt387.2.1, bt387.2.2.1, bt387.2.2.2.1, bt387.2.2.2.2.1, bt387.2.2.2.2.2.1, bt387.2.2.2.2.2.2, true))))) = some (r1, r2, r3, r4, r5, r6, r7, r8) := by rw [if_neg (show ¬ (false = true) by decide)] at H; exact H
              clear H
              have H := H1
              clear H1
              by_cases c118 : a4 = 2
              ·
               rw [if_pos c118] at H
               have c118b0 : (a4 == 2) = true := beq_iff_eq.mpr c118
               have c118b1 : (a4 != 2) = false := bne_eq_false_iff_eq.mpr c118
               clear c118
               replace H := Option.bind_eq_some_iff.mp H
               obtain ⟨⟨t373, t374, t375, t376, t377, t378, t379⟩, A1190, H⟩ := H
               replace H : (some (t373, t374, t375, t376, t377, t378, t379, true)) = some (r1, r2, r3, r4, r5, r6, r7, r8) := H
               have A119 := Aside0.mk A1190
               clear A1190
               simp only [Option.some.injEq, Prod.mk.injEq] at H
               obtain ⟨rfl, rfl, rfl, rfl, rfl, rfl, rfl, rfl⟩ := H
               have hnb120 := NB340_341.out
               have hnc120 := NB341_340.out
               have hnb121 := NB340_342.out
               have hnc121 := NB342_340.out
               have hnb122 := NB340_349.out
               have hnc122 := NB349_340.out
               obtain ⟨⟨hcz123_0, hcz123_1⟩, hfz123_0, hfz123_1⟩ := Zk2 BK340
               have hnb124 := NB341_342.out
               have hnc124 := NB342_341.out
               have hnb125 := NB341_349.out
               have hnc125 := NB349_341.out
               obtain ⟨⟨hcz126_0, hcz126_1, hcz126_2, hcz126_3, hcz126_4, hcz126_5, hcz126_6⟩, hfz126_0, hfz126_1, hfz126_2, hfz126_3, hfz126_4, hfz126_5, hfz126_6⟩ := Zk7 BK341
               go_wp2_with (first | (go_at_call 44; (with_reducible refine (palinoderef19_goes.calls a0_0 _ _ l0_1 a1_0 a1_1 a1_2 a1_3 a1_4 a1_5 a1_6 2 (wrap64 (a1_3 - 1)) 0 a5 t373 t374 t375 t376 t377 t378 t379 _ ?side1 ?side2 A119.out).mono ?_); (case side1 => repeat (first | exact (Kd.C_below HR0_1.out HB.out) | (with_reducible refine Kd.C_alloc ?_ _) | (with_reducible refine Kd.C_drewN ?_ _) | (with_reducible refine Kd.C_drew ?_))); (case side2 => exact HC0_1.out); rintro e w127 ⟨rfl, hb⟩; have n0_ := Aside0.mk (Zv BK340 hb); have n1_ := Aside0.mk (Zv BK341 hb); have n2_ := Aside0.mk (Zv BK342 hb); have n3_ := Aside0.mk (Zv BK349 hb); have n4_ := Aside0.mk (Yv HB hb); clear BK340; clear BK341; clear BK342; clear BK349; clear HB; have BK340 := n0_; have BK341 := n1_; have BK342 := n2_; have BK349 := n3_; have HB := n4_; clear n0_ n1_ n2_ n3_ n4_; (try clear hb); (try clear hb2); (try clear hk); (try clear hi); have hnb128 := NB342_349.out; have hnc128 := NB349_342.out; obtain ⟨⟨hcz129_0, hcz129_1, hcz129_2, hcz129_3, hcz129_4, hcz129_5, hcz129_6⟩, hfz129_0, hfz129_1, hfz129_2, hfz129_3, hfz129_4, hfz129_5, hfz129_6⟩ := Zk7 BK342))
               repeat (go_quiet (first | (go_at_call 44; (with_reducible refine (palinoderef19_goes.calls a0_0 _ _ l0_1 a1_0 a1_1 a1_2 a1_3 a1_4 a1_5 a1_6 2 (wrap64 (a1_3 - 1)) 0 a5 t373 t374 t375 t376 t377 t378 t379 _ ?side1 ?side2 A119.out).mono ?_); (case side1 => repeat (first | exact (Kd.C_below HR0_1.out HB.out) | (with_reducible refine Kd.C_alloc ?_ _) | (with_reducible refine Kd.C_drewN ?_ _) | (with_reducible refine Kd.C_drew ?_))); (case side2 => exact HC0_1.out); rintro e w127 ⟨rfl, hb⟩; have n0_ := Aside0.mk (Zv BK340 hb); have n1_ := Aside0.mk (Zv BK341 hb); have n2_ := Aside0.mk (Zv BK342 hb); have n3_ := Aside0.mk (Zv BK349 hb); have n4_ := Aside0.mk (Yv HB hb); clear BK340; clear BK341; clear BK342; clear BK349; clear HB; have BK340 := n0_; have BK341 := n1_; have BK342 := n2_; have BK349 := n3_; have HB := n4_; clear n0_ n1_ n2_ n3_ n4_; (try clear hb); (try clear hb2); (try clear hk); (try clear hi); have hnb128 := NB342_349.out; have hnc128 := NB349_342.out; obtain ⟨⟨hcz129_0, hcz129_1, hcz129_2, hcz129_3, hcz129_4, hcz129_5, hcz129_6⟩, hfz129_0, hfz129_1, hfz129_2, hfz129_3, hfz129_4, hfz129_5, hfz129_6⟩ := Zk7 BK342)); try go_wp2_with (first | (go_at_call 44; (with_reducible refine (palinoderef19_goes.calls a0_0 _ _ l0_1 a1_0 a1_1 a1_2 a1_3 a1_4 a1_5 a1_6 2 (wrap64 (a1_3 - 1)) 0 a5 t373 t374 t375 t376 t377 t378 t379 _ ?side1 ?side2 A119.out).mono ?_); (case side1 => repeat (first | exact (Kd.C_below HR0_1.out HB.out) | (with_reducible refine Kd.C_alloc ?_ _) | (with_reducible refine Kd.C_drewN ?_ _) | (with_reducible refine Kd.C_drew ?_))); (case side2 => exact HC0_1.out); rintro e w127 ⟨rfl, hb⟩; have n0_ := Aside0.mk (Zv BK340 hb); have n1_ := Aside0.mk (Zv BK341 hb); have n2_ := Aside0.mk (Zv BK342 hb); have n3_ := Aside0.mk (Zv BK349 hb); have n4_ := Aside0.mk (Yv HB hb); clear BK340; clear BK341; clear BK342; clear BK349; clear HB; have BK340 := n0_; have BK341 := n1_; have BK342 := n2_; have BK349 := n3_; have HB := n4_; clear n0_ n1_ n2_ n3_ n4_; (try clear hb); (try clear hb2); (try clear hk); (try clear hi); have hnb128 := NB342_349.out; have hnc128 := NB349_342.out; obtain ⟨⟨hcz129_0, hcz129_1, hcz129_2, hcz129_3, hcz129_4, hcz129_5, hcz129_6⟩, hfz129_0, hfz129_1, hfz129_2, hfz129_3, hfz129_4, hfz129_5, hfz129_6⟩ := Zk7 BK342)))
               refine bodyPost_ret (results_ct rfl _ _ gb342 26 #[.string t373, .string t374, .int .i64 t375, .int .i64 t376, .int .i64 t377, .int .i64 t378, .bool t379] (0, 0) _ rfl (by (with_reducible repeat (first | refine Zn ?_ _ | refine Zd ?_ | refine Za ?_ _)); refine Zp (cs := #[.string t373, .string t374, .int .i64 t375, .int .i64 t376, .int .i64 t377, .int .i64 t378, .bool false]) ?_ 6 _ rfl; (with_reducible repeat (first | refine Zn ?_ _ | refine Zd ?_ | refine Za ?_ _)); refine Zp (cs := #[.string t373, .string t374, .int .i64 t375, .int .i64 t376, .int .i64 t377, .int .i64 0, .bool false]) ?_ 5 _ rfl; (with_reducible repeat (first | refine Zn ?_ _ | refine Zd ?_ | refine Za ?_ _)); refine Zp (cs := #[.string t373, .string t374, .int .i64 t375, .int .i64 t376, .int .i64 0, .int .i64 0, .bool false]) ?_ 4 _ rfl; (with_reducible repeat (first | refine Zn ?_ _ | refine Zd ?_ | refine Za ?_ _)); refine Zp (cs := #[.string t373, .string t374, .int .i64 t375, .int .i64 0, .int .i64 0, .int .i64 0, .bool false]) ?_ 3 _ rfl; (with_reducible repeat (first | refine Zn ?_ _ | refine Zd ?_ | refine Za ?_ _)); refine Zp (cs := #[.string t373, .string t374, .int .i64 0, .int .i64 0, .int .i64 0, .int .i64 0, .bool false]) ?_ 2 _ rfl; (with_reducible repeat (first | refine Zn ?_ _ | refine Zd ?_ | refine Za ?_ _)); refine Zp (cs := #[.string t373, .string (⟨#[]⟩ : ByteArray), .int .i64 0, .int .i64 0, .int .i64 0, .int .i64 0, .bool false]) ?_ 1 _ rfl; (with_reducible repeat (first | refine Zn ?_ _ | refine Zd ?_ | refine Za ?_ _)); refine Zp (cs := #[.string (⟨#[]⟩ : ByteArray), .string (⟨#[]⟩ : ByteArray), .int .i64 0, .int .i64 0, .int .i64 0, .int .i64 0, .bool false]) ?_ 0 _ rfl; (with_reducible repeat (first | refine Zn ?_ _ | refine Zd ?_ | refine Za ?_ _)); exact BK342.out) Try.underlying26 rfl (by kernel_rfl)) rfl ?_
               exact ⟨by first | rfl | (simp [errW_none, errW_some] <;> rfl) | (simp [*, errW_none, errW_some] <;> rfl), Yr HB⟩
              ·
               rw [if_neg c118] at H
               have c118b0 : (a4 == 2) = false := beq_eq_false_iff_ne.mpr c118
               have c118b1 : (a4 != 2) = true := bne_iff_ne.mpr c118
               by_cases c130 : (decide (a1_4 < ((rd_T53 l0_1 a1_3).f0))) = true
               ·
                rw [if_pos c130] at H
                have c130b0 : (decide (a1_4 < ((rd_T53 l0_1 a1_3).f0))) = true := c130
                (try (have c130b1 : (a1_4 < ((rd_T53 l0_1 a1_3).f0)) := by simpa using c130))
                clear c130
                replace H := Option.bind_eq_some_iff.mp H
                obtain ⟨⟨t380, t381, t382, t383, t384, t385, t386⟩, A1310, H⟩ := H
                replace H : (some (t380, t381, t382, t383, t384, t385, t386, true)) = some (r1, r2, r3, r4, r5, r6, r7, r8) := H
                have A131 := Aside0.mk A1310
                clear A1310
                simp only [Option.some.injEq, Prod.mk.injEq] at H
                obtain ⟨rfl, rfl, rfl, rfl, rfl, rfl, rfl, rfl⟩ := H
                have hnb132 := NB340_341.out
                have hnc132 := NB341_340.out
                have hnb133 := NB340_342.out
                have hnc133 := NB342_340.out
                have hnb134 := NB340_349.out
                have hnc134 := NB349_340.out
                obtain ⟨⟨hcz135_0, hcz135_1⟩, hfz135_0, hfz135_1⟩ := Zk2 BK340
                have hnb136 := NB341_342.out
                have hnc136 := NB342_341.out
                have hnb137 := NB341_349.out
                have hnc137 := NB349_341.out
                obtain ⟨⟨hcz138_0, hcz138_1, hcz138_2, hcz138_3, hcz138_4, hcz138_5, hcz138_6⟩, hfz138_0, hfz138_1, hfz138_2, hfz138_3, hfz138_4, hfz138_5, hfz138_6⟩ := Zk7 BK341
                go_wp2_with (first | (go_at_call 44; (with_reducible refine (palinoderef19_goes.calls a0_0 _ _ l0_1 a1_0 a1_1 a1_2 a1_3 a1_4 a1_5 a1_6 1 a1_3 (wrap64 (a1_4 + 1)) a5 t380 t381 t382 t383 t384 t385 t386 _ ?side1 ?side2 A131.out).mono ?_); (case side1 => repeat (first | exact (Kd.C_below HR0_1.out HB.out) | (with_reducible refine Kd.C_alloc ?_ _) | (with_reducible refine Kd.C_drewN ?_ _) | (with_reducible refine Kd.C_drew ?_))); (case side2 => exact HC0_1.out); rintro e w139 ⟨rfl, hb⟩; have n0_ := Aside0.mk (Zv BK340 hb); have n1_ := Aside0.mk (Zv BK341 hb); have n2_ := Aside0.mk (Zv BK342 hb); have n3_ := Aside0.mk (Zv BK349 hb); have n4_ := Aside0.mk (Yv HB hb); clear BK340; clear BK341; clear BK342; clear BK349; clear HB; have BK340 := n0_; have BK341 := n1_; have BK342 := n2_; have BK349 := n3_; have HB := n4_; clear n0_ n1_ n2_ n3_ n4_; (try clear hb); (try clear hb2); (try clear hk); (try clear hi); have hnb140 := NB342_349.out; have hnc140 := NB349_342.out; obtain ⟨⟨hcz141_0, hcz141_1, hcz141_2, hcz141_3, hcz141_4, hcz141_5, hcz141_6⟩, hfz141_0, hfz141_1, hfz141_2, hfz141_3, hfz141_4, hfz141_5, hfz141_6⟩ := Zk7 BK342))
                repeat (go_quiet (first | (go_at_call 44; (with_reducible refine (palinoderef19_goes.calls a0_0 _ _ l0_1 a1_0 a1_1 a1_2 a1_3 a1_4 a1_5 a1_6 1 a1_3 (wrap64 (a1_4 + 1)) a5 t380 t381 t382 t383 t384 t385 t386 _ ?side1 ?side2 A131.out).mono ?_); (case side1 => repeat (first | exact (Kd.C_below HR0_1.out HB.out) | (with_reducible refine Kd.C_alloc ?_ _) | (with_reducible refine Kd.C_drewN ?_ _) | (with_reducible refine Kd.C_drew ?_))); (case side2 => exact HC0_1.out); rintro e w139 ⟨rfl, hb⟩; have n0_ := Aside0.mk (Zv BK340 hb); have n1_ := Aside0.mk (Zv BK341 hb); have n2_ := Aside0.mk (Zv BK342 hb); have n3_ := Aside0.mk (Zv BK349 hb); have n4_ := Aside0.mk (Yv HB hb); clear BK340; clear BK341; clear BK342; clear BK349; clear HB; have BK340 := n0_; have BK341 := n1_; have BK342 := n2_; have BK349 := n3_; have HB := n4_; clear n0_ n1_ n2_ n3_ n4_; (try clear hb); (try clear hb2); (try clear hk); (try clear hi); have hnb140 := NB342_349.out; have hnc140 := NB349_342.out; obtain ⟨⟨hcz141_0, hcz141_1, hcz141_2, hcz141_3, hcz141_4, hcz141_5, hcz141_6⟩, hfz141_0, hfz141_1, hfz141_2, hfz141_3, hfz141_4, hfz141_5, hfz141_6⟩ := Zk7 BK342)); try go_wp2_with (first | (go_at_call 44; (with_reducible refine (palinoderef19_goes.calls a0_0 _ _ l0_1 a1_0 a1_1 a1_2 a1_3 a1_4 a1_5 a1_6 1 a1_3 (wrap64 (a1_4 + 1)) a5 t380 t381 t382 t383 t384 t385 t386 _ ?side1 ?side2 A131.out).mono ?_); (case side1 => repeat (first | exact (Kd.C_below HR0_1.out HB.out) | (with_reducible refine Kd.C_alloc ?_ _) | (with_reducible refine Kd.C_drewN ?_ _) | (with_reducible refine Kd.C_drew ?_))); (case side2 => exact HC0_1.out); rintro e w139 ⟨rfl, hb⟩; have n0_ := Aside0.mk (Zv BK340 hb); have n1_ := Aside0.mk (Zv BK341 hb); have n2_ := Aside0.mk (Zv BK342 hb); have n3_ := Aside0.mk (Zv BK349 hb); have n4_ := Aside0.mk (Yv HB hb); clear BK340; clear BK341; clear BK342; clear BK349; clear HB; have BK340 := n0_; have BK341 := n1_; have BK342 := n2_; have BK349 := n3_; have HB := n4_; clear n0_ n1_ n2_ n3_ n4_; (try clear hb); (try clear hb2); (try clear hk); (try clear hi); have hnb140 := NB342_349.out; have hnc140 := NB349_342.out; obtain ⟨⟨hcz141_0, hcz141_1, hcz141_2, hcz141_3, hcz141_4, hcz141_5, hcz141_6⟩, hfz141_0, hfz141_1, hfz141_2, hfz141_3, hfz141_4, hfz141_5, hfz141_6⟩ := Zk7 BK342)))
                refine bodyPost_ret (results_ct rfl _ _ gb342 26 #[.string t380, .string t381, .int .i64 t382, .int .i64 t383, .int .i64 t384, .int .i64 t385, .bool t386] (0, 0) _ rfl (by (with_reducible repeat (first | refine Zn ?_ _ | refine Zd ?_ | refine Za ?_ _)); refine Zp (cs := #[.string t380, .string t381, .int .i64 t382, .int .i64 t383, .int .i64 t384, .int .i64 t385, .bool false]) ?_ 6 _ rfl; (with_reducible repeat (first | refine Zn ?_ _ | refine Zd ?_ | refine Za ?_ _)); refine Zp (cs := #[.string t380, .string t381, .int .i64 t382, .int .i64 t383, .int .i64 t384, .int .i64 0, .bool false]) ?_ 5 _ rfl; (with_reducible repeat (first | refine Zn ?_ _ | refine Zd ?_ | refine Za ?_ _)); refine Zp (cs := #[.string t380, .string t381, .int .i64 t382, .int .i64 t383, .int .i64 0, .int .i64 0, .bool false]) ?_ 4 _ rfl; (with_reducible repeat (first | refine Zn ?_ _ | refine Zd ?_ | refine Za ?_ _)); refine Zp (cs := #[.string t380, .string t381, .int .i64 t382, .int .i64 0, .int .i64 0, .int .i64 0, .bool false]) ?_ 3 _ rfl; (with_reducible repeat (first | refine Zn ?_ _ | refine Zd ?_ | refine Za ?_ _)); refine Zp (cs := #[.string t380, .string t381, .int .i64 0, .int .i64 0, .int .i64 0, .int .i64 0, .bool false]) ?_ 2 _ rfl; (with_reducible repeat (first | refine Zn ?_ _ | refine Zd ?_ | refine Za ?_ _)); refine Zp (cs := #[.string t380, .string (⟨#[]⟩ : ByteArray), .int .i64 0, .int .i64 0, .int .i64 0, .int .i64 0, .bool false]) ?_ 1 _ rfl; (with_reducible repeat (first | refine Zn ?_ _ | refine Zd ?_ | refine Za ?_ _)); refine Zp (cs := #[.string (⟨#[]⟩ : ByteArray), .string (⟨#[]⟩ : ByteArray), .int .i64 0, .int .i64 0, .int .i64 0, .int .i64 0, .bool false]) ?_ 0 _ rfl; (with_reducible repeat (first | refine Zn ?_ _ | refine Zd ?_ | refine Za ?_ _)); exact BK342.out) Try.underlying26 rfl (by kernel_rfl)) rfl ?_
                exact ⟨by first | rfl | (simp [errW_none, errW_some] <;> rfl) | (simp [*, errW_none, errW_some] <;> rfl), Yr HB⟩
               ·
                rw [if_neg c130] at H
                have c130b0 : (decide (a1_4 < ((rd_T53 l0_1 a1_3).f0))) = false := by simpa using c130
                (try (have c130b1 : ¬ (a1_4 < ((rd_T53 l0_1 a1_3).f0)) := by simpa using c130))
                clear c130
                replace H := Option.bind_eq_some_iff.mp H
                obtain ⟨⟨t387, t388, t389, t390, t391, t392, t393⟩, A1420, H⟩ := H
                replace H : (some (t387, t388, t389, t390, t391, t392, t393, true)) = some (r1, r2, r3, r4, r5, r6, r7, r8) := H
                have A142 := Aside0.mk A1420
                clear A1420
                simp only [Option.some.injEq, Prod.mk.injEq] at H
                obtain ⟨rfl, rfl, rfl, rfl, rfl, rfl, rfl, rfl⟩ := H
                have hnb143 := NB340_341.out
                have hnc143 := NB341_340.out
                have hnb144 := NB340_342.out
                have hnc144 := NB342_340.out
                have hnb145 := NB340_349.out
                have hnc145 := NB349_340.out
                obtain ⟨⟨hcz146_0, hcz146_1⟩, hfz146_0, hfz146_1⟩ := Zk2 BK340
                have hnb147 := NB341_342.out
                have hnc147 := NB342_341.out
                have hnb148 := NB341_349.out
                have hnc148 := NB349_341.out
                obtain ⟨⟨hcz149_0, hcz149_1, hcz149_2, hcz149_3, hcz149_4, hcz149_5, hcz149_6⟩, hfz149_0, hfz149_1, hfz149_2, hfz149_3, hfz149_4, hfz149_5, hfz149_6⟩ := Zk7 BK341
                go_wp2_with (first | (go_at_call 44; (with_reducible refine (palinoderef19_goes.calls a0_0 _ _ l0_1 a1_0 a1_1 a1_2 a1_3 a1_4 a1_5 a1_6 2 a1_3 0 a5 t387 t388 t389 t390 t391 t392 t393 _ ?side1 ?side2 A142.out).mono ?_); (case side1 => repeat (first | exact (Kd.C_below HR0_1.out HB.out) | (with_reducible refine Kd.C_alloc ?_ _) | (with_reducible refine Kd.C_drewN ?_ _) | (with_reducible refine Kd.C_drew ?_))); (case side2 => exact HC0_1.out); rintro e w150 ⟨rfl, hb⟩; have n0_ := Aside0.mk (Zv BK340 hb); have n1_ := Aside0.mk (Zv BK341 hb); have n2_ := Aside0.mk (Zv BK342 hb); have n3_ := Aside0.mk (Zv BK349 hb); have n4_ := Aside0.mk (Yv HB hb); clear BK340; clear BK341; clear BK342; clear BK349; clear HB; have BK340 := n0_; have BK341 := n1_; have BK342 := n2_; have BK349 := n3_; have HB := n4_; clear n0_ n1_ n2_ n3_ n4_; (try clear hb); (try clear hb2); (try clear hk); (try clear hi); have hnb151 := NB342_349.out; have hnc151 := NB349_342.out; obtain ⟨⟨hcz152_0, hcz152_1, hcz152_2, hcz152_3, hcz152_4, hcz152_5, hcz152_6⟩, hfz152_0, hfz152_1, hfz152_2, hfz152_3, hfz152_4, hfz152_5, hfz152_6⟩ := Zk7 BK342))
                repeat (go_quiet (first | (go_at_call 44; (with_reducible refine (palinoderef19_goes.calls a0_0 _ _ l0_1 a1_0 a1_1 a1_2 a1_3 a1_4 a1_5 a1_6 2 a1_3 0 a5 t387 t388 t389 t390 t391 t392 t393 _ ?side1 ?side2 A142.out).mono ?_); (case side1 => repeat (first | exact (Kd.C_below HR0_1.out HB.out) | (with_reducible refine Kd.C_alloc ?_ _) | (with_reducible refine Kd.C_drewN ?_ _) | (with_reducible refine Kd.C_drew ?_))); (case side2 => exact HC0_1.out); rintro e w150 ⟨rfl, hb⟩; have n0_ := Aside0.mk (Zv BK340 hb); have n1_ := Aside0.mk (Zv BK341 hb); have n2_ := Aside0.mk (Zv BK342 hb); have n3_ := Aside0.mk (Zv BK349 hb); have n4_ := Aside0.mk (Yv HB hb); clear BK340; clear BK341; clear BK342; clear BK349; clear HB; have BK340 := n0_; have BK341 := n1_; have BK342 := n2_; have BK349 := n3_; have HB := n4_; clear n0_ n1_ n2_ n3_ n4_; (try clear hb); (try clear hb2); (try clear hk); (try clear hi); have hnb151 := NB342_349.out; have hnc151 := NB349_342.out; obtain ⟨⟨hcz152_0, hcz152_1, hcz152_2, hcz152_3, hcz152_4, hcz152_5, hcz152_6⟩, hfz152_0, hfz152_1, hfz152_2, hfz152_3, hfz152_4, hfz152_5, hfz152_6⟩ := Zk7 BK342)); try go_wp2_with (first | (go_at_call 44; (with_reducible refine (palinoderef19_goes.calls a0_0 _ _ l0_1 a1_0 a1_1 a1_2 a1_3 a1_4 a1_5 a1_6 2 a1_3 0 a5 t387 t388 t389 t390 t391 t392 t393 _ ?side1 ?side2 A142.out).mono ?_); (case side1 => repeat (first | exact (Kd.C_below HR0_1.out HB.out) | (with_reducible refine Kd.C_alloc ?_ _) | (with_reducible refine Kd.C_drewN ?_ _) | (with_reducible refine Kd.C_drew ?_))); (case side2 => exact HC0_1.out); rintro e w150 ⟨rfl, hb⟩; have n0_ := Aside0.mk (Zv BK340 hb); have n1_ := Aside0.mk (Zv BK341 hb); have n2_ := Aside0.mk (Zv BK342 hb); have n3_ := Aside0.mk (Zv BK349 hb); have n4_ := Aside0.mk (Yv HB hb); clear BK340; clear BK341; clear BK342; clear BK349; clear HB; have BK340 := n0_; have BK341 := n1_; have BK342 := n2_; have BK349 := n3_; have HB := n4_; clear n0_ n1_ n2_ n3_ n4_; (try clear hb); (try clear hb2); (try clear hk); (try clear hi); have hnb151 := NB342_349.out; have hnc151 := NB349_342.out; obtain ⟨⟨hcz152_0, hcz152_1, hcz152_2, hcz152_3, hcz152_4, hcz152_5, hcz152_6⟩, hfz152_0, hfz152_1, hfz152_2, hfz152_3, hfz152_4, hfz152_5, hfz152_6⟩ := Zk7 BK342)))
                refine bodyPost_ret (results_ct rfl _ _ gb342 26 #[.string t387, .string t388, .int .i64 t389, .int .i64 t390, .int .i64 t391, .int .i64 t392, .bool t393] (0, 0) _ rfl (by (with_reducible repeat (first | refine Zn ?_ _ | refine Zd ?_ | refine Za ?_ _)); refine Zp (cs := #[.string t387, .string t388, .int .i64 t389, .int .i64 t390, .int .i64 t391, .int .i64 t392, .bool false]) ?_ 6 _ rfl; (with_reducible repeat (first | refine Zn ?_ _ | refine Zd ?_ | refine Za ?_ _)); refine Zp (cs := #[.string t387, .string t388, .int .i64 t389, .int .i64 t390, .int .i64 t391, .int .i64 0, .bool false]) ?_ 5 _ rfl; (with_reducible repeat (first | refine Zn ?_ _ | refine Zd ?_ | refine Za ?_ _)); refine Zp (cs := #[.string t387, .string t388, .int .i64 t389, .int .i64 t390, .int .i64 0, .int .i64 0, .bool false]) ?_ 4 _ rfl; (with_reducible repeat (first | refine Zn ?_ _ | refine Zd ?_ | refine Za ?_ _)); refine Zp (cs := #[.string t387, .string t388, .int .i64 t389, .int .i64 0, .int .i64 0, .int .i64 0, .bool false]) ?_ 3 _ rfl; (with_reducible repeat (first | refine Zn ?_ _ | refine Zd ?_ | refine Za ?_ _)); refine Zp (cs := #[.string t387, .string t388, .int .i64 0, .int .i64 0, .int .i64 0, .int .i64 0, .bool false]) ?_ 2 _ rfl; (with_reducible repeat (first | refine Zn ?_ _ | refine Zd ?_ | refine Za ?_ _)); refine Zp (cs := #[.string t387, .string (⟨#[]⟩ : ByteArray), .int .i64 0, .int .i64 0, .int .i64 0, .int .i64 0, .bool false]) ?_ 1 _ rfl; (with_reducible repeat (first | refine Zn ?_ _ | refine Zd ?_ | refine Za ?_ _)); refine Zp (cs := #[.string (⟨#[]⟩ : ByteArray), .string (⟨#[]⟩ : ByteArray), .int .i64 0, .int .i64 0, .int .i64 0, .int .i64 0, .bool false]) ?_ 0 _ rfl; (with_reducible repeat (first | refine Zn ?_ _ | refine Zd ?_ | refine Za ?_ _)); exact BK342.out) Try.underlying26 rfl (by kernel_rfl)) rfl ?_
                exact ⟨by first | rfl | (simp [errW_none, errW_some] <;> rfl) | (simp [*, errW_none, errW_some] <;> rfl), Yr HB⟩
      ·
       rw [if_neg c63] at H
       have c63b0 : (a1_2 == 1) = false := beq_eq_false_iff_ne.mpr c63
       have c63b1 : (a1_2 != 1) = true := bne_iff_ne.mpr c63
       have HC153 := Aside0.mk H
       clear H
       have hnb154 := NB341_340.out
       have hnc154 := NB340_341.out
       have hnb155 := NB341_342.out
       have hnc155 := NB342_341.out
       have hnb156 := NB341_349.out
       have hnc156 := NB349_341.out
       obtain ⟨⟨hcz157_0, hcz157_1, hcz157_2, hcz157_3, hcz157_4, hcz157_5, hcz157_6⟩, hfz157_0, hfz157_1, hfz157_2, hfz157_3, hfz157_4, hfz157_5, hfz157_6⟩ := Zk7 BK341
       have hnb158 := NB340_342.out
       have hnc158 := NB342_340.out
       have hnb159 := NB340_349.out
       have hnc159 := NB349_340.out
       obtain ⟨⟨hcz160_0, hcz160_1⟩, hfz160_0, hfz160_1⟩ := Zk2 BK340
       have p351 : 0 ≤ (a1_3 : Int) := of_decide_eq_true (by first | (with_reducible assumption) | assumption)
       have q351 : a1_3 < (l0_1.length : Int) := of_decide_eq_true (by first | (with_reducible assumption) | assumption)
       obtain ⟨ad351, e351, hx351_0, hx351_1⟩ := at_T53 HR0_1.out a1_3 p351 q351
       cases e351
       replace hx351_0 := (HB.out.cell (World.block_lt_of_cell? w _ hx351_0)).trans hx351_0
       replace hx351_1 := (HB.out.cell (World.block_lt_of_cell? w _ hx351_1)).trans hx351_1
       replace p351 := eq_true p351
       replace q351 := eq_true q351
       go_upto_region 18 with (fail)
       repeat (go_quiet (fail); go_upto_region 18 with (fail))
       go_cut [135] (fun v135 wc => ∃ (kq : Nat) (x135_152 : Bool), v135 = .bool x135_152 ∧ Aside0 (palinoderef19_Reply.j3 kq a4 a5 (decide (a1_4 < ((rd_T53 l0_1 a1_3).f0))) x135_152 a0_0 l0_1 a1_0 a1_1 a1_2 a1_3 a1_4 a1_5 a1_6 = some (r1, r2, r3, r4, r5, r6, r7, r8)) ∧ Aside0 (kq ≤ kj8) ∧ Aside0 (wc.heap[gb340]? = some (.cells #[.string a0_0, (.slice (some ad351) l0_1.length c0_1)] 24 (0, 0))) ∧ Aside0 (wc.heap[gb341]? = some (.cells #[.string a1_0, .string a1_1, .int .i64 a1_2, .int .i64 a1_3, .int .i64 a1_4, .int .i64 a1_5, .bool a1_6] 26 (0, 0))) ∧ Aside0 (wc.heap[gb342]? = some (.cells #[.string (⟨#[]⟩ : ByteArray), .string (⟨#[]⟩ : ByteArray), .int .i64 0, .int .i64 0, .int .i64 0, .int .i64 0, .bool false] 26 (0, 0))) ∧ Aside0 (wc.heap[gb349]? = some (.cells #[.string t344, .int .i64 t345, .int .i64 t346, .int .i64 t347] 35 (0, 0))) ∧ Aside0 (Below w.heap.size w wc))
       case first =>
        have H := HC153.out
        clear HC153
        by_cases c161 : a4 = 1
        ·
         rw [if_pos c161] at H
         have c161b0 : (a4 == 1) = true := beq_iff_eq.mpr c161
         have c161b1 : (a4 != 1) = false := bne_eq_false_iff_eq.mpr c161
         clear c161
         (first | rw [c161b0] | (simp only [i64_w, i32_w]; rw [c161b0]) | skip)
         have H' := Aside0.mk H
         clear H
         have hnb162 := NB341_340.out
         have hnc162 := NB340_341.out
         have hnb163 := NB341_342.out
         have hnc163 := NB342_341.out
         have hnb164 := NB341_349.out
         have hnc164 := NB349_341.out
         obtain ⟨⟨hcz165_0, hcz165_1, hcz165_2, hcz165_3, hcz165_4, hcz165_5, hcz165_6⟩, hfz165_0, hfz165_1, hfz165_2, hfz165_3, hfz165_4, hfz165_5, hfz165_6⟩ := Zk7 BK341
         go_wp2
         repeat (go_quiet (fail); try go_wp2)
         go_meet
         case rel => exact ⟨_, ((a1_3 == 0)), (by first | rfl | (simp; done) | (simp [*]; done)), H', ⟨by have := HJ8.out; first | omega | exact Nat.le_refl _⟩, ⟨by (with_reducible repeat (first | refine Zn ?_ _ | refine Zd ?_ | refine Za ?_ _)); exact BK340.out⟩, ⟨by (with_reducible repeat (first | refine Zn ?_ _ | refine Zd ?_ | refine Za ?_ _)); exact BK341.out⟩, ⟨by (with_reducible repeat (first | refine Zn ?_ _ | refine Zd ?_ | refine Za ?_ _)); exact BK342.out⟩, ⟨by (with_reducible repeat (first | refine Zn ?_ _ | refine Zd ?_ | refine Za ?_ _)); exact BK349.out⟩, ⟨Yr HB⟩⟩
        ·
         rw [if_neg c161] at H
         have c161b0 : (a4 == 1) = false := beq_eq_false_iff_ne.mpr c161
         have c161b1 : (a4 != 1) = true := bne_iff_ne.mpr c161
         (first | rw [c161b0] | (simp only [i64_w, i32_w]; rw [c161b0]) | skip)
         have H' := Aside0.mk H
         clear H
         go_wp2
         repeat (go_quiet (fail); try go_wp2)
         go_meet
         case rel => exact ⟨_, (false), (by first | rfl | (simp; done) | (simp [*]; done)), H', ⟨by have := HJ8.out; first | omega | exact Nat.le_refl _⟩, ⟨by (with_reducible repeat (first | refine Zn ?_ _ | refine Zd ?_ | refine Za ?_ _)); exact BK340.out⟩, ⟨by (with_reducible repeat (first | refine Zn ?_ _ | refine Zd ?_ | refine Za ?_ _)); exact BK341.out⟩, ⟨by (with_reducible repeat (first | refine Zn ?_ _ | refine Zd ?_ | refine Za ?_ _)); exact BK342.out⟩, ⟨by (with_reducible repeat (first | refine Zn ?_ _ | refine Zd ?_ | refine Za ?_ _)); exact BK349.out⟩, ⟨Yr HB⟩⟩
       case rest =>
        clear HC153
        try clear c1
        try clear c2
        try clear p2
        try clear c3
        try clear p3
        try clear q3
        try clear hx3
        try clear c4
        try clear c5
        try clear c6
        try clear p6
        try clear c7
        try clear c8
        try clear c9
        try clear c10
        try clear c11
        try clear c12
        try clear c13
        try clear c14
        try clear c15
        try clear c16
        try clear c22
        try clear c23
        try clear c24
        try clear c26
        try clear c27
        try clear c28
        try clear c28b0
        try clear c28b1
        try clear c29
        try clear c29b0
        try clear c29b1
        try clear c30
        try clear c30b0
        try clear c31
        try clear c32
        try clear c33
        try clear c35
        try clear c35b0
        try clear p35
        try clear q35
        try clear hx35
        try clear c36
        try clear c37
        try clear c38
        try clear c41
        try clear c42
        try clear c43
        try clear c45
        try clear c46
        try clear c47
        try clear c49
        try clear c50
        try clear c51
        try clear c53
        try clear c54
        try clear c55
        try clear c56
        try clear c58
        try clear c59
        try clear c61
        try clear c61b0
        try clear c62
        try clear c62b0
        try clear c63
        try clear c63b0
        try clear c63b1
        try clear p64
        try clear c65
        try clear c66
        try clear c67
        try clear c69
        try clear c70
        try clear c72
        try clear c72b0
        try clear c72b1
        try clear c73
        try clear c74
        try clear c75
        try clear c77
        try clear c78
        try clear c80
        try clear c82
        try clear c83
        try clear c84
        try clear c87
        try clear c88
        try clear c90
        try clear c90b0
        try clear c90b1
        try clear c92
        try clear c93
        try clear c94
        try clear c96
        try clear c97
        try clear c100
        try clear c103
        try clear c103b0
        try clear c103b1
        try clear c104
        try clear c105
        try clear c106
        try clear c108
        try clear c110
        try clear c111
        try clear c112
        try clear c115
        try clear c116
        try clear c118
        try clear c118b0
        try clear c118b1
        try clear c120
        try clear c121
        try clear c122
        try clear c124
        try clear c125
        try clear c128
        try clear c130
        try clear c130b0
        try clear c130b1
        try clear c132
        try clear c133
        try clear c134
        try clear c136
        try clear c137
        try clear c140
        try clear c143
        try clear c144
        try clear c145
        try clear c147
        try clear c148
        try clear c151
        try clear c154
        try clear c155
        try clear c156
        try clear c158
        try clear c159
        try clear c161
        try clear c161b0
        try clear c161b1
        try clear c162
        try clear c163
        try clear c164
        try clear hcz101_0
        try clear hcz101_1
        try clear hcz101_2
        try clear hcz101_3
        try clear hcz101_4
        try clear hcz101_5
        try clear hcz101_6
        try clear hcz107_0
        try clear hcz107_1
        try clear hcz107_2
        try clear hcz107_3
        try clear hcz107_4
        try clear hcz107_5
        try clear hcz107_6
        try clear hcz113_0
        try clear hcz113_1
        try clear hcz113_2
        try clear hcz113_3
        try clear hcz113_4
        try clear hcz113_5
        try clear hcz113_6
        try clear hcz117_0
        try clear hcz117_1
        try clear hcz117_2
        try clear hcz117_3
        try clear hcz117_4
        try clear hcz117_5
        try clear hcz117_6
        try clear hcz123_0
        try clear hcz123_1
        try clear hcz126_0
        try clear hcz126_1
        try clear hcz126_2
        try clear hcz126_3
        try clear hcz126_4
        try clear hcz126_5
        try clear hcz126_6
        try clear hcz129_0
        try clear hcz129_1
        try clear hcz129_2
        try clear hcz129_3
        try clear hcz129_4
        try clear hcz129_5
        try clear hcz129_6
        try clear hcz135_0
        try clear hcz135_1
        try clear hcz138_0
        try clear hcz138_1
        try clear hcz138_2
        try clear hcz138_3
        try clear hcz138_4
        try clear hcz138_5
        try clear hcz138_6
        try clear hcz141_0
        try clear hcz141_1
        try clear hcz141_2
        try clear hcz141_3
        try clear hcz141_4
        try clear hcz141_5
        try clear hcz141_6
        try clear hcz146_0
        try clear hcz146_1
        try clear hcz149_0
        try clear hcz149_1
        try clear hcz149_2
        try clear hcz149_3
        try clear hcz149_4
        try clear hcz149_5
        try clear hcz149_6
        try clear hcz152_0
        try clear hcz152_1
        try clear hcz152_2
        try clear hcz152_3
        try clear hcz152_4
        try clear hcz152_5
        try clear hcz152_6
        try clear hcz157_0
        try clear hcz157_1
        try clear hcz157_2
        try clear hcz157_3
        try clear hcz157_4
        try clear hcz157_5
        try clear hcz157_6
        try clear hcz15_0
        try clear hcz15_1
        try clear hcz160_0
        try clear hcz160_1
        try clear hcz165_0
        try clear hcz165_1
        try clear hcz165_2
        try clear hcz165_3
        try clear hcz165_4
        try clear hcz165_5
        try clear hcz165_6
        try clear hcz17_0
        try clear hcz17_1
        try clear hcz17_2
        try clear hcz17_3
        try clear hcz17_4
        try clear hcz17_5
        try clear hcz17_6
        try clear hcz19_0
        try clear hcz19_1
        try clear hcz19_2
        try clear hcz19_3
        try clear hcz19_4
        try clear hcz19_5
        try clear hcz19_6
        try clear hcz25_0
        try clear hcz25_1
        try clear hcz25_2
        try clear hcz25_3
        try clear hcz34_0
        try clear hcz34_1
        try clear hcz34_2
        try clear hcz34_3
        try clear hcz39_0
        try clear hcz39_1
        try clear hcz39_2
        try clear hcz39_3
        try clear hcz44_0
        try clear hcz44_1
        try clear hcz44_2
        try clear hcz44_3
        try clear hcz48_0
        try clear hcz48_1
        try clear hcz48_2
        try clear hcz48_3
        try clear hcz52_0
        try clear hcz52_1
        try clear hcz52_2
        try clear hcz52_3
        try clear hcz57_0
        try clear hcz57_1
        try clear hcz57_2
        try clear hcz57_3
        try clear hcz57_4
        try clear hcz57_5
        try clear hcz57_6
        try clear hcz60_0
        try clear hcz60_1
        try clear hcz60_2
        try clear hcz60_3
        try clear hcz60_4
        try clear hcz60_5
        try clear hcz60_6
        try clear hcz68_0
        try clear hcz68_1
        try clear hcz68_2
        try clear hcz68_3
        try clear hcz68_4
        try clear hcz68_5
        try clear hcz68_6
        try clear hcz71_0
        try clear hcz71_1
        try clear hcz76_0
        try clear hcz76_1
        try clear hcz76_2
        try clear hcz76_3
        try clear hcz76_4
        try clear hcz76_5
        try clear hcz76_6
        try clear hcz79_0
        try clear hcz79_1
        try clear hcz85_0
        try clear hcz85_1
        try clear hcz85_2
        try clear hcz85_3
        try clear hcz85_4
        try clear hcz85_5
        try clear hcz85_6
        try clear hcz89_0
        try clear hcz89_1
        try clear hcz89_2
        try clear hcz89_3
        try clear hcz89_4
        try clear hcz89_5
        try clear hcz89_6
        try clear hcz95_0
        try clear hcz95_1
        try clear hcz98_0
        try clear hcz98_1
        try clear hcz98_2
        try clear hcz98_3
        try clear hcz98_4
        try clear hcz98_5
        try clear hcz98_6
        try clear hfz101_0
        try clear hfz101_1
        try clear hfz101_2
        try clear hfz101_3
        try clear hfz101_4
        try clear hfz101_5
        try clear hfz101_6
        try clear hfz107_0
        try clear hfz107_1
        try clear hfz107_2
        try clear hfz107_3
        try clear hfz107_4
        try clear hfz107_5
        try clear hfz107_6
        try clear hfz113_0
        try clear hfz113_1
        try clear hfz113_2
        try clear hfz113_3
        try clear hfz113_4
        try clear hfz113_5
        try clear hfz113_6
        try clear hfz117_0
        try clear hfz117_1
        try clear hfz117_2
        try clear hfz117_3
        try clear hfz117_4
        try clear hfz117_5
        try clear hfz117_6
        try clear hfz123_0
        try clear hfz123_1
        try clear hfz126_0
        try clear hfz126_1
        try clear hfz126_2
        try clear hfz126_3
        try clear hfz126_4
        try clear hfz126_5
        try clear hfz126_6
        try clear hfz129_0
        try clear hfz129_1
        try clear hfz129_2
        try clear hfz129_3
        try clear hfz129_4
        try clear hfz129_5
        try clear hfz129_6
        try clear hfz135_0
        try clear hfz135_1
        try clear hfz138_0
        try clear hfz138_1
        try clear hfz138_2
        try clear hfz138_3
        try clear hfz138_4
        try clear hfz138_5
        try clear hfz138_6
        try clear hfz141_0
        try clear hfz141_1
        try clear hfz141_2
        try clear hfz141_3
        try clear hfz141_4
        try clear hfz141_5
        try clear hfz141_6
        try clear hfz146_0
        try clear hfz146_1
        try clear hfz149_0
        try clear hfz149_1
        try clear hfz149_2
        try clear hfz149_3
        try clear hfz149_4
        try clear hfz149_5
        try clear hfz149_6
        try clear hfz152_0
        try clear hfz152_1
        try clear hfz152_2
        try clear hfz152_3
        try clear hfz152_4
        try clear hfz152_5
        try clear hfz152_6
        try clear hfz157_0
        try clear hfz157_1
        try clear hfz157_2
        try clear hfz157_3
        try clear hfz157_4
        try clear hfz157_5
        try clear hfz157_6
        try clear hfz15_0
        try clear hfz15_1
        try clear hfz160_0
        try clear hfz160_1
        try clear hfz165_0
        try clear hfz165_1
        try clear hfz165_2
        try clear hfz165_3
        try clear hfz165_4
        try clear hfz165_5
        try clear hfz165_6
        try clear hfz17_0
        try clear hfz17_1
        try clear hfz17_2
        try clear hfz17_3
        try clear hfz17_4
        try clear hfz17_5
        try clear hfz17_6
        try clear hfz19_0
        try clear hfz19_1
        try clear hfz19_2
        try clear hfz19_3
        try clear hfz19_4
        try clear hfz19_5
        try clear hfz19_6
        try clear hfz25_0
        try clear hfz25_1
        try clear hfz25_2
        try clear hfz25_3
        try clear hfz34_0
        try clear hfz34_1
        try clear hfz34_2
        try clear hfz34_3
        try clear hfz39_0
        try clear hfz39_1
        try clear hfz39_2
        try clear hfz39_3
        try clear hfz44_0
        try clear hfz44_1
        try clear hfz44_2
        try clear hfz44_3
        try clear hfz48_0
        try clear hfz48_1
        try clear hfz48_2
        try clear hfz48_3
        try clear hfz52_0
        try clear hfz52_1
        try clear hfz52_2
        try clear hfz52_3
        try clear hfz57_0
        try clear hfz57_1
        try clear hfz57_2
        try clear hfz57_3
        try clear hfz57_4
        try clear hfz57_5
        try clear hfz57_6
        try clear hfz60_0
        try clear hfz60_1
        try clear hfz60_2
        try clear hfz60_3
        try clear hfz60_4
        try clear hfz60_5
        try clear hfz60_6
        try clear hfz68_0
        try clear hfz68_1
        try clear hfz68_2
        try clear hfz68_3
        try clear hfz68_4
        try clear hfz68_5
        try clear hfz68_6
        try clear hfz71_0
        try clear hfz71_1
        try clear hfz76_0
        try clear hfz76_1
        try clear hfz76_2
        try clear hfz76_3
        try clear hfz76_4
        try clear hfz76_5
        try clear hfz76_6
        try clear hfz79_0
        try clear hfz79_1
        try clear hfz85_0
        try clear hfz85_1
        try clear hfz85_2
        try clear hfz85_3
        try clear hfz85_4
        try clear hfz85_5
        try clear hfz85_6
        try clear hfz89_0
        try clear hfz89_1
        try clear hfz89_2
        try clear hfz89_3
        try clear hfz89_4
        try clear hfz89_5
        try clear hfz89_6
        try clear hfz95_0
        try clear hfz95_1
        try clear hfz98_0
        try clear hfz98_1
        try clear hfz98_2
        try clear hfz98_3
        try clear hfz98_4
        try clear hfz98_5
        try clear hfz98_6
        try clear hx351_0
        try clear hx351_1
        try clear p2
        try clear p3
        try clear p35
        try clear p351
        try clear p6
        try clear p64
        try clear q3
        try clear q35
        try clear q351
        obtain ⟨kq, x135_152, rfl, HA, HJ152, BK340, BK341, BK342, BK349, HB⟩ := hcut
        cases kq with
        | zero => exact absurd HA.out (by simp [palinoderef19_Reply.j3])
        | succ kj152 =>
         have H := HA.out
         clear HA
         simp only [palinoderef19_Reply.j3] at H
         by_cases c166 : x135_152 = true
         ·
          subst c166
          have H1 : ((palinoderef19_over.f a1_0 a1_1 a1_2 a1_3 a1_4 a1_5 a1_6 4 0).bind fun bt394 => (some (bt394.1, bt394.2.1, bt394.2.2.1, bt394.2.2.2.1, bt394.2.2.2.2.1, bt394.2.2.2.2.2.1, bt394.2.2.2.2.2.2, true))) = some (r1, r2, r3, r4, r5, r6, r7, r8) := by rw [if_pos rfl] at H; exact H
          clear H
          have H := H1
          clear H1
          replace H := Option.bind_eq_some_iff.mp H
          obtain ⟨⟨t394, t395, t396, t397, t398, t399, t400⟩, A1670, H⟩ := H
          replace H : (some (t394, t395, t396, t397, t398, t399, t400, true)) = some (r1, r2, r3, r4, r5, r6, r7, r8) := H
          have A167 := Aside0.mk A1670
          clear A1670
          simp only [Option.some.injEq, Prod.mk.injEq] at H
          obtain ⟨rfl, rfl, rfl, rfl, rfl, rfl, rfl, rfl⟩ := H
          have hnb168 := NB341_340.out
          have hnc168 := NB340_341.out
          have hnb169 := NB341_342.out
          have hnc169 := NB342_341.out
          have hnb170 := NB341_349.out
          have hnc170 := NB349_341.out
          obtain ⟨⟨hcz171_0, hcz171_1, hcz171_2, hcz171_3, hcz171_4, hcz171_5, hcz171_6⟩, hfz171_0, hfz171_1, hfz171_2, hfz171_3, hfz171_4, hfz171_5, hfz171_6⟩ := Zk7 BK341
          go_wp2_with (first | (go_at_call 43; (with_reducible refine (palinoderef19_over.calls a1_0 a1_1 a1_2 a1_3 a1_4 a1_5 a1_6 4 0 t394 t395 t396 t397 t398 t399 t400 _ A167.out).mono ?_); rintro e w172 ⟨rfl, hb⟩; have n0_ := Aside0.mk (Zv BK340 hb); have n1_ := Aside0.mk (Zv BK341 hb); have n2_ := Aside0.mk (Zv BK342 hb); have n3_ := Aside0.mk (Zv BK349 hb); have n4_ := Aside0.mk (Yv HB hb); clear BK340; clear BK341; clear BK342; clear BK349; clear HB; have BK340 := n0_; have BK341 := n1_; have BK342 := n2_; have BK349 := n3_; have HB := n4_; clear n0_ n1_ n2_ n3_ n4_; (try clear hb); (try clear hb2); (try clear hk); (try clear hi); have hnb173 := NB342_340.out; have hnc173 := NB340_342.out; have hnb174 := NB342_349.out; have hnc174 := NB349_342.out; obtain ⟨⟨hcz175_0, hcz175_1, hcz175_2, hcz175_3, hcz175_4, hcz175_5, hcz175_6⟩, hfz175_0, hfz175_1, hfz175_2, hfz175_3, hfz175_4, hfz175_5, hfz175_6⟩ := Zk7 BK342))
          repeat (go_quiet (first | (go_at_call 43; (with_reducible refine (palinoderef19_over.calls a1_0 a1_1 a1_2 a1_3 a1_4 a1_5 a1_6 4 0 t394 t395 t396 t397 t398 t399 t400 _ A167.out).mono ?_); rintro e w172 ⟨rfl, hb⟩; have n0_ := Aside0.mk (Zv BK340 hb); have n1_ := Aside0.mk (Zv BK341 hb); have n2_ := Aside0.mk (Zv BK342 hb); have n3_ := Aside0.mk (Zv BK349 hb); have n4_ := Aside0.mk (Yv HB hb); clear BK340; clear BK341; clear BK342; clear BK349; clear HB; have BK340 := n0_; have BK341 := n1_; have BK342 := n2_; have BK349 := n3_; have HB := n4_; clear n0_ n1_ n2_ n3_ n4_; (try clear hb); (try clear hb2); (try clear hk); (try clear hi); have hnb173 := NB342_340.out; have hnc173 := NB340_342.out; have hnb174 := NB342_349.out; have hnc174 := NB349_342.out; obtain ⟨⟨hcz175_0, hcz175_1, hcz175_2, hcz175_3, hcz175_4, hcz175_5, hcz175_6⟩, hfz175_0, hfz175_1, hfz175_2, hfz175_3, hfz175_4, hfz175_5, hfz175_6⟩ := Zk7 BK342)); try go_wp2_with (first | (go_at_call 43; (with_reducible refine (palinoderef19_over.calls a1_0 a1_1 a1_2 a1_3 a1_4 a1_5 a1_6 4 0 t394 t395 t396 t397 t398 t399 t400 _ A167.out).mono ?_); rintro e w172 ⟨rfl, hb⟩; have n0_ := Aside0.mk (Zv BK340 hb); have n1_ := Aside0.mk (Zv BK341 hb); have n2_ := Aside0.mk (Zv BK342 hb); have n3_ := Aside0.mk (Zv BK349 hb); have n4_ := Aside0.mk (Yv HB hb); clear BK340; clear BK341; clear BK342; clear BK349; clear HB; have BK340 := n0_; have BK341 := n1_; have BK342 := n2_; have BK349 := n3_; have HB := n4_; clear n0_ n1_ n2_ n3_ n4_; (try clear hb); (try clear hb2); (try clear hk); (try clear hi); have hnb173 := NB342_340.out; have hnc173 := NB340_342.out; have hnb174 := NB342_349.out; have hnc174 := NB349_342.out; obtain ⟨⟨hcz175_0, hcz175_1, hcz175_2, hcz175_3, hcz175_4, hcz175_5, hcz175_6⟩, hfz175_0, hfz175_1, hfz175_2, hfz175_3, hfz175_4, hfz175_5, hfz175_6⟩ := Zk7 BK342)))
          refine bodyPost_ret (results_ct rfl _ _ gb342 26 #[.string t394, .string t395, .int .i64 t396, .int .i64 t397, .int .i64 t398, .int .i64 t399, .bool t400] (0, 0) _ rfl (by (with_reducible repeat (first | refine Zn ?_ _ | refine Zd ?_ | refine Za ?_ _)); refine Zp (cs := #[.string t394, .string t395, .int .i64 t396, .int .i64 t397, .int .i64 t398, .int .i64 t399, .bool false]) ?_ 6 _ rfl; (with_reducible repeat (first | refine Zn ?_ _ | refine Zd ?_ | refine Za ?_ _)); refine Zp (cs := #[.string t394, .string t395, .int .i64 t396, .int .i64 t397, .int .i64 t398, .int .i64 0, .bool false]) ?_ 5 _ rfl; (with_reducible repeat (first | refine Zn ?_ _ | refine Zd ?_ | refine Za ?_ _)); refine Zp (cs := #[.string t394, .string t395, .int .i64 t396, .int .i64 t397, .int .i64 0, .int .i64 0, .bool false]) ?_ 4 _ rfl; (with_reducible repeat (first | refine Zn ?_ _ | refine Zd ?_ | refine Za ?_ _)); refine Zp (cs := #[.string t394, .string t395, .int .i64 t396, .int .i64 0, .int .i64 0, .int .i64 0, .bool false]) ?_ 3 _ rfl; (with_reducible repeat (first | refine Zn ?_ _ | refine Zd ?_ | refine Za ?_ _)); refine Zp (cs := #[.string t394, .string t395, .int .i64 0, .int .i64 0, .int .i64 0, .int .i64 0, .bool false]) ?_ 2 _ rfl; (with_reducible repeat (first | refine Zn ?_ _ | refine Zd ?_ | refine Za ?_ _)); refine Zp (cs := #[.string t394, .string (⟨#[]⟩ : ByteArray), .int .i64 0, .int .i64 0, .int .i64 0, .int .i64 0, .bool false]) ?_ 1 _ rfl; (with_reducible repeat (first | refine Zn ?_ _ | refine Zd ?_ | refine Za ?_ _)); refine Zp (cs := #[.string (⟨#[]⟩ : ByteArray), .string (⟨#[]⟩ : ByteArray), .int .i64 0, .int .i64 0, .int .i64 0, .int .i64 0, .bool false]) ?_ 0 _ rfl; (with_reducible repeat (first | refine Zn ?_ _ | refine Zd ?_ | refine Za ?_ _)); exact BK342.out) Try.underlying26 rfl (by kernel_rfl)) rfl ?_
          exact ⟨by first | rfl | (simp [errW_none, errW_some] <;> rfl) | (simp [*, errW_none, errW_some] <;> rfl), Yr HB⟩
         ·
          replace c166 := Bool.eq_false_iff.mpr c166
          subst c166
          have H1 : (if a4 = 1 then ((palinoderef19_goes.f a0_0 l0_1 a1_0 a1_1 a1_2 a1_3 a1_4 a1_5 a1_6 2 (wrap64 (a1_3 - 1)) 0 a5).bind fun bt401 => (some (bt401.1, bt401.2.1, bt401.2.2.1, bt401.2.2.2.1, bt401.2.2.2.2.1, bt401.2.2.2.2.2.1, bt401.2.2.2.2.2.2, true))) else (if (decide (a1_4 < ((rd_T53 l0_1 a1_3).f0))) = true then ((palinoderef19_goes.f a0_0 l0_1 a1_0 a1_1 a1_2 a1_3 a1_4 a1_5 a1_6 2 a1_3 (wrap64 (a1_4 + 1)) a5).bind fun bt408 => (some (bt408.1, bt408.2.1, bt408.2.2.1, bt408.2.2.2.1, bt408.2.2.2.2.1, bt408.2.2.2.2.2.1, bt408.2.2.2.2.2.2, true))) else ((palinoderef19_over.f a1_0 a1_1 a1_2 a1_3 a1_4 a1_5 a1_6 5 a1_3).bind fun bt415 => (some (bt415.1, bt415.2.1, bt415.2.2.1, bt415.2.2.2.1, bt415.2.2.2.2.1, bt415.2.2.2.2.2.1, bt415.2.2.2.2.2.2, true))))) = some (r1, r2, r3, r4, r5, r6, r7, r8) := by rw [if_neg (show ¬ (false = true) by decide)] at H; exact H
          clear H
          have H := H1
          clear H1
          by_cases c176 : a4 = 1
          ·
           rw [if_pos c176] at H
           have c176b0 : (a4 == 1) = true := beq_iff_eq.mpr c176
           have c176b1 : (a4 != 1) = false := bne_eq_false_iff_eq.mpr c176
           clear c176
           replace H := Option.bind_eq_some_iff.mp H
           obtain ⟨⟨t401, t402, t403, t404, t405, t406, t407⟩, A1770, H⟩ := H
           replace H : (some (t401, t402, t403, t404, t405, t406, t407, true)) = some (r1, r2, r3, r4, r5, r6, r7, r8) := H
           have A177 := Aside0.mk A1770
           clear A1770
           simp only [Option.some.injEq, Prod.mk.injEq] at H
           obtain ⟨rfl, rfl, rfl, rfl, rfl, rfl, rfl, rfl⟩ := H
           have hnb178 := NB340_341.out
           have hnc178 := NB341_340.out
           have hnb179 := NB340_342.out
           have hnc179 := NB342_340.out
           have hnb180 := NB340_349.out
           have hnc180 := NB349_340.out
           obtain ⟨⟨hcz181_0, hcz181_1⟩, hfz181_0, hfz181_1⟩ := Zk2 BK340
           have hnb182 := NB341_342.out
           have hnc182 := NB342_341.out
           have hnb183 := NB341_349.out
           have hnc183 := NB349_341.out
           obtain ⟨⟨hcz184_0, hcz184_1, hcz184_2, hcz184_3, hcz184_4, hcz184_5, hcz184_6⟩, hfz184_0, hfz184_1, hfz184_2, hfz184_3, hfz184_4, hfz184_5, hfz184_6⟩ := Zk7 BK341
           go_wp2_with (first | (go_at_call 44; (with_reducible refine (palinoderef19_goes.calls a0_0 _ _ l0_1 a1_0 a1_1 a1_2 a1_3 a1_4 a1_5 a1_6 2 (wrap64 (a1_3 - 1)) 0 a5 t401 t402 t403 t404 t405 t406 t407 _ ?side1 ?side2 A177.out).mono ?_); (case side1 => repeat (first | exact (Kd.C_below HR0_1.out HB.out) | (with_reducible refine Kd.C_alloc ?_ _) | (with_reducible refine Kd.C_drewN ?_ _) | (with_reducible refine Kd.C_drew ?_))); (case side2 => exact HC0_1.out); rintro e w185 ⟨rfl, hb⟩; have n0_ := Aside0.mk (Zv BK340 hb); have n1_ := Aside0.mk (Zv BK341 hb); have n2_ := Aside0.mk (Zv BK342 hb); have n3_ := Aside0.mk (Zv BK349 hb); have n4_ := Aside0.mk (Yv HB hb); clear BK340; clear BK341; clear BK342; clear BK349; clear HB; have BK340 := n0_; have BK341 := n1_; have BK342 := n2_; have BK349 := n3_; have HB := n4_; clear n0_ n1_ n2_ n3_ n4_; (try clear hb); (try clear hb2); (try clear hk); (try clear hi); have hnb186 := NB342_349.out; have hnc186 := NB349_342.out; obtain ⟨⟨hcz187_0, hcz187_1, hcz187_2, hcz187_3, hcz187_4, hcz187_5, hcz187_6⟩, hfz187_0, hfz187_1, hfz187_2, hfz187_3, hfz187_4, hfz187_5, hfz187_6⟩ := Zk7 BK342))
           repeat (go_quiet (first | (go_at_call 44; (with_reducible refine (palinoderef19_goes.calls a0_0 _ _ l0_1 a1_0 a1_1 a1_2 a1_3 a1_4 a1_5 a1_6 2 (wrap64 (a1_3 - 1)) 0 a5 t401 t402 t403 t404 t405 t406 t407 _ ?side1 ?side2 A177.out).mono ?_); (case side1 => repeat (first | exact (Kd.C_below HR0_1.out HB.out) | (with_reducible refine Kd.C_alloc ?_ _) | (with_reducible refine Kd.C_drewN ?_ _) | (with_reducible refine Kd.C_drew ?_))); (case side2 => exact HC0_1.out); rintro e w185 ⟨rfl, hb⟩; have n0_ := Aside0.mk (Zv BK340 hb); have n1_ := Aside0.mk (Zv BK341 hb); have n2_ := Aside0.mk (Zv BK342 hb); have n3_ := Aside0.mk (Zv BK349 hb); have n4_ := Aside0.mk (Yv HB hb); clear BK340; clear BK341; clear BK342; clear BK349; clear HB; have BK340 := n0_; have BK341 := n1_; have BK342 := n2_; have BK349 := n3_; have HB := n4_; clear n0_ n1_ n2_ n3_ n4_; (try clear hb); (try clear hb2); (try clear hk); (try clear hi); have hnb186 := NB342_349.out; have hnc186 := NB349_342.out; obtain ⟨⟨hcz187_0, hcz187_1, hcz187_2, hcz187_3, hcz187_4, hcz187_5, hcz187_6⟩, hfz187_0, hfz187_1, hfz187_2, hfz187_3, hfz187_4, hfz187_5, hfz187_6⟩ := Zk7 BK342)); try go_wp2_with (first | (go_at_call 44; (with_reducible refine (palinoderef19_goes.calls a0_0 _ _ l0_1 a1_0 a1_1 a1_2 a1_3 a1_4 a1_5 a1_6 2 (wrap64 (a1_3 - 1)) 0 a5 t401 t402 t403 t404 t405 t406 t407 _ ?side1 ?side2 A177.out).mono ?_); (case side1 => repeat (first | exact (Kd.C_below HR0_1.out HB.out) | (with_reducible refine Kd.C_alloc ?_ _) | (with_reducible refine Kd.C_drewN ?_ _) | (with_reducible refine Kd.C_drew ?_))); (case side2 => exact HC0_1.out); rintro e w185 ⟨rfl, hb⟩; have n0_ := Aside0.mk (Zv BK340 hb); have n1_ := Aside0.mk (Zv BK341 hb); have n2_ := Aside0.mk (Zv BK342 hb); have n3_ := Aside0.mk (Zv BK349 hb); have n4_ := Aside0.mk (Yv HB hb); clear BK340; clear BK341; clear BK342; clear BK349; clear HB; have BK340 := n0_; have BK341 := n1_; have BK342 := n2_; have BK349 := n3_; have HB := n4_; clear n0_ n1_ n2_ n3_ n4_; (try clear hb); (try clear hb2); (try clear hk); (try clear hi); have hnb186 := NB342_349.out; have hnc186 := NB349_342.out; obtain ⟨⟨hcz187_0, hcz187_1, hcz187_2, hcz187_3, hcz187_4, hcz187_5, hcz187_6⟩, hfz187_0, hfz187_1, hfz187_2, hfz187_3, hfz187_4, hfz187_5, hfz187_6⟩ := Zk7 BK342)))
           refine bodyPost_ret (results_ct rfl _ _ gb342 26 #[.string t401, .string t402, .int .i64 t403, .int .i64 t404, .int .i64 t405, .int .i64 t406, .bool t407] (0, 0) _ rfl (by (with_reducible repeat (first | refine Zn ?_ _ | refine Zd ?_ | refine Za ?_ _)); refine Zp (cs := #[.string t401, .string t402, .int .i64 t403, .int .i64 t404, .int .i64 t405, .int .i64 t406, .bool false]) ?_ 6 _ rfl; (with_reducible repeat (first | refine Zn ?_ _ | refine Zd ?_ | refine Za ?_ _)); refine Zp (cs := #[.string t401, .string t402, .int .i64 t403, .int .i64 t404, .int .i64 t405, .int .i64 0, .bool false]) ?_ 5 _ rfl; (with_reducible repeat (first | refine Zn ?_ _ | refine Zd ?_ | refine Za ?_ _)); refine Zp (cs := #[.string t401, .string t402, .int .i64 t403, .int .i64 t404, .int .i64 0, .int .i64 0, .bool false]) ?_ 4 _ rfl; (with_reducible repeat (first | refine Zn ?_ _ | refine Zd ?_ | refine Za ?_ _)); refine Zp (cs := #[.string t401, .string t402, .int .i64 t403, .int .i64 0, .int .i64 0, .int .i64 0, .bool false]) ?_ 3 _ rfl; (with_reducible repeat (first | refine Zn ?_ _ | refine Zd ?_ | refine Za ?_ _)); refine Zp (cs := #[.string t401, .string t402, .int .i64 0, .int .i64 0, .int .i64 0, .int .i64 0, .bool false]) ?_ 2 _ rfl; (with_reducible repeat (first | refine Zn ?_ _ | refine Zd ?_ | refine Za ?_ _)); refine Zp (cs := #[.string t401, .string (⟨#[]⟩ : ByteArray), .int .i64 0, .int .i64 0, .int .i64 0, .int .i64 0, .bool false]) ?_ 1 _ rfl; (with_reducible repeat (first | refine Zn ?_ _ | refine Zd ?_ | refine Za ?_ _)); refine Zp (cs := #[.string (⟨#[]⟩ : ByteArray), .string (⟨#[]⟩ : ByteArray), .int .i64 0, .int .i64 0, .int .i64 0, .int .i64 0, .bool false]) ?_ 0 _ rfl; (with_reducible repeat (first | refine Zn ?_ _ | refine Zd ?_ | refine Za ?_ _)); exact BK342.out) Try.underlying26 rfl (by kernel_rfl)) rfl ?_
           exact ⟨by first | rfl | (simp [errW_none, errW_some] <;> rfl) | (simp [*, errW_none, errW_some] <;> rfl), Yr HB⟩
          ·
           rw [if_neg c176] at H
           have c176b0 : (a4 == 1) = false := beq_eq_false_iff_ne.mpr c176
           have c176b1 : (a4 != 1) = true := bne_iff_ne.mpr c176
           by_cases c188 : (decide (a1_4 < ((rd_T53 l0_1 a1_3).f0))) = true
           ·
            rw [if_pos c188] at H
            have c188b0 : (decide (a1_4 < ((rd_T53 l0_1 a1_3).f0))) = true := c188
            (try (have c188b1 : (a1_4 < ((rd_T53 l0_1 a1_3).f0)) := by simpa using c188))
            clear c188
            replace H := Option.bind_eq_some_iff.mp H
            obtain ⟨⟨t408, t409, t410, t411, t412, t413, t414⟩, A1890, H⟩ := H
            replace H : (some (t408, t409, t410, t411, t412, t413, t414, true)) = some (r1, r2, r3, r4, r5, r6, r7, r8) := H
            have A189 := Aside0.mk A1890
            clear A1890
            simp only [Option.some.injEq, Prod.mk.injEq] at H
            obtain ⟨rfl, rfl, rfl, rfl, rfl, rfl, rfl, rfl⟩ := H
            have hnb190 := NB340_341.out
            have hnc190 := NB341_340.out
            have hnb191 := NB340_342.out
            have hnc191 := NB342_340.out
            have hnb192 := NB340_349.out
            have hnc192 := NB349_340.out
            obtain ⟨⟨hcz193_0, hcz193_1⟩, hfz193_0, hfz193_1⟩ := Zk2 BK340
            have hnb194 := NB341_342.out
            have hnc194 := NB342_341.out
            have hnb195 := NB341_349.out
            have hnc195 := NB349_341.out
            obtain ⟨⟨hcz196_0, hcz196_1, hcz196_2, hcz196_3, hcz196_4, hcz196_5, hcz196_6⟩, hfz196_0, hfz196_1, hfz196_2, hfz196_3, hfz196_4, hfz196_5, hfz196_6⟩ := Zk7 BK341
            go_wp2_with (first | (go_at_call 44; (with_reducible refine (palinoderef19_goes.calls a0_0 _ _ l0_1 a1_0 a1_1 a1_2 a1_3 a1_4 a1_5 a1_6 2 a1_3 (wrap64 (a1_4 + 1)) a5 t408 t409 t410 t411 t412 t413 t414 _ ?side1 ?side2 A189.out).mono ?_); (case side1 => repeat (first | exact (Kd.C_below HR0_1.out HB.out) | (with_reducible refine Kd.C_alloc ?_ _) | (with_reducible refine Kd.C_drewN ?_ _) | (with_reducible refine Kd.C_drew ?_))); (case side2 => exact HC0_1.out); rintro e w197 ⟨rfl, hb⟩; have n0_ := Aside0.mk (Zv BK340 hb); have n1_ := Aside0.mk (Zv BK341 hb); have n2_ := Aside0.mk (Zv BK342 hb); have n3_ := Aside0.mk (Zv BK349 hb); have n4_ := Aside0.mk (Yv HB hb); clear BK340; clear BK341; clear BK342; clear BK349; clear HB; have BK340 := n0_; have BK341 := n1_; have BK342 := n2_; have BK349 := n3_; have HB := n4_; clear n0_ n1_ n2_ n3_ n4_; (try clear hb); (try clear hb2); (try clear hk); (try clear hi); have hnb198 := NB342_349.out; have hnc198 := NB349_342.out; obtain ⟨⟨hcz199_0, hcz199_1, hcz199_2, hcz199_3, hcz199_4, hcz199_5, hcz199_6⟩, hfz199_0, hfz199_1, hfz199_2, hfz199_3, hfz199_4, hfz199_5, hfz199_6⟩ := Zk7 BK342))
            repeat (go_quiet (first | (go_at_call 44; (with_reducible refine (palinoderef19_goes.calls a0_0 _ _ l0_1 a1_0 a1_1 a1_2 a1_3 a1_4 a1_5 a1_6 2 a1_3 (wrap64 (a1_4 + 1)) a5 t408 t409 t410 t411 t412 t413 t414 _ ?side1 ?side2 A189.out).mono ?_); (case side1 => repeat (first | exact (Kd.C_below HR0_1.out HB.out) | (with_reducible refine Kd.C_alloc ?_ _) | (with_reducible refine Kd.C_drewN ?_ _) | (with_reducible refine Kd.C_drew ?_))); (case side2 => exact HC0_1.out); rintro e w197 ⟨rfl, hb⟩; have n0_ := Aside0.mk (Zv BK340 hb); have n1_ := Aside0.mk (Zv BK341 hb); have n2_ := Aside0.mk (Zv BK342 hb); have n3_ := Aside0.mk (Zv BK349 hb); have n4_ := Aside0.mk (Yv HB hb); clear BK340; clear BK341; clear BK342; clear BK349; clear HB; have BK340 := n0_; have BK341 := n1_; have BK342 := n2_; have BK349 := n3_; have HB := n4_; clear n0_ n1_ n2_ n3_ n4_; (try clear hb); (try clear hb2); (try clear hk); (try clear hi); have hnb198 := NB342_349.out; have hnc198 := NB349_342.out; obtain ⟨⟨hcz199_0, hcz199_1, hcz199_2, hcz199_3, hcz199_4, hcz199_5, hcz199_6⟩, hfz199_0, hfz199_1, hfz199_2, hfz199_3, hfz199_4, hfz199_5, hfz199_6⟩ := Zk7 BK342)); try go_wp2_with (first | (go_at_call 44; (with_reducible refine (palinoderef19_goes.calls a0_0 _ _ l0_1 a1_0 a1_1 a1_2 a1_3 a1_4 a1_5 a1_6 2 a1_3 (wrap64 (a1_4 + 1)) a5 t408 t409 t410 t411 t412 t413 t414 _ ?side1 ?side2 A189.out).mono ?_); (case side1 => repeat (first | exact (Kd.C_below HR0_1.out HB.out) | (with_reducible refine Kd.C_alloc ?_ _) | (with_reducible refine Kd.C_drewN ?_ _) | (with_reducible refine Kd.C_drew ?_))); (case side2 => exact HC0_1.out); rintro e w197 ⟨rfl, hb⟩; have n0_ := Aside0.mk (Zv BK340 hb); have n1_ := Aside0.mk (Zv BK341 hb); have n2_ := Aside0.mk (Zv BK342 hb); have n3_ := Aside0.mk (Zv BK349 hb); have n4_ := Aside0.mk (Yv HB hb); clear BK340; clear BK341; clear BK342; clear BK349; clear HB; have BK340 := n0_; have BK341 := n1_; have BK342 := n2_; have BK349 := n3_; have HB := n4_; clear n0_ n1_ n2_ n3_ n4_; (try clear hb); (try clear hb2); (try clear hk); (try clear hi); have hnb198 := NB342_349.out; have hnc198 := NB349_342.out; obtain ⟨⟨hcz199_0, hcz199_1, hcz199_2, hcz199_3, hcz199_4, hcz199_5, hcz199_6⟩, hfz199_0, hfz199_1, hfz199_2, hfz199_3, hfz199_4, hfz199_5, hfz199_6⟩ := Zk7 BK342)))
            refine bodyPost_ret (results_ct rfl _ _ gb342 26 #[.string t408, .string t409, .int .i64 t410, .int .i64 t411, .int .i64 t412, .int .i64 t413, .bool t414] (0, 0) _ rfl (by (with_reducible repeat (first | refine Zn ?_ _ | refine Zd ?_ | refine Za ?_ _)); refine Zp (cs := #[.string t408, .string t409, .int .i64 t410, .int .i64 t411, .int .i64 t412, .int .i64 t413, .bool false]) ?_ 6 _ rfl; (with_reducible repeat (first | refine Zn ?_ _ | refine Zd ?_ | refine Za ?_ _)); refine Zp (cs := #[.string t408, .string t409, .int .i64 t410, .int .i64 t411, .int .i64 t412, .int .i64 0, .bool false]) ?_ 5 _ rfl; (with_reducible repeat (first | refine Zn ?_ _ | refine Zd ?_ | refine Za ?_ _)); refine Zp (cs := #[.string t408, .string t409, .int .i64 t410, .int .i64 t411, .int .i64 0, .int .i64 0, .bool false]) ?_ 4 _ rfl; (with_reducible repeat (first | refine Zn ?_ _ | refine Zd ?_ | refine Za ?_ _)); refine Zp (cs := #[.string t408, .string t409, .int .i64 t410, .int .i64 0, .int .i64 0, .int .i64 0, .bool false]) ?_ 3 _ rfl; (with_reducible repeat (first | refine Zn ?_ _ | refine Zd ?_ | refine Za ?_ _)); refine Zp (cs := #[.string t408, .string t409, .int .i64 0, .int .i64 0, .int .i64 0, .int .i64 0, .bool false]) ?_ 2 _ rfl; (with_reducible repeat (first | refine Zn ?_ _ | refine Zd ?_ | refine Za ?_ _)); refine Zp (cs := #[.string t408, .string (⟨#[]⟩ : ByteArray), .int .i64 0, .int .i64 0, .int .i64 0, .int .i64 0, .bool false]) ?_ 1 _ rfl; (with_reducible repeat (first | refine Zn ?_ _ | refine Zd ?_ | refine Za ?_ _)); refine Zp (cs := #[.string (⟨#[]⟩ : ByteArray), .string (⟨#[]⟩ : ByteArray), .int .i64 0, .int .i64 0, .int .i64 0, .int .i64 0, .bool false]) ?_ 0 _ rfl; (with_reducible repeat (first | refine Zn ?_ _ | refine Zd ?_ | refine Za ?_ _)); exact BK342.out) Try.underlying26 rfl (by kernel_rfl)) rfl ?_
            exact ⟨by first | rfl | (simp [errW_none, errW_some] <;> rfl) | (simp [*, errW_none, errW_some] <;> rfl), Yr HB⟩
           ·
            rw [if_neg c188] at H
            have c188b0 : (decide (a1_4 < ((rd_T53 l0_1 a1_3).f0))) = false := by simpa using c188
            (try (have c188b1 : ¬ (a1_4 < ((rd_T53 l0_1 a1_3).f0)) := by simpa using c188))
            clear c188
            replace H := Option.bind_eq_some_iff.mp H
            obtain ⟨⟨t415, t416, t417, t418, t419, t420, t421⟩, A2000, H⟩ := H
            replace H : (some (t415, t416, t417, t418, t419, t420, t421, true)) = some (r1, r2, r3, r4, r5, r6, r7, r8) := H
            have A200 := Aside0.mk A2000
            clear A2000
            simp only [Option.some.injEq, Prod.mk.injEq] at H
            obtain ⟨rfl, rfl, rfl, rfl, rfl, rfl, rfl, rfl⟩ := H
            have hnb201 := NB341_340.out
            have hnc201 := NB340_341.out
            have hnb202 := NB341_342.out
            have hnc202 := NB342_341.out
            have hnb203 := NB341_349.out
            have hnc203 := NB349_341.out
            obtain ⟨⟨hcz204_0, hcz204_1, hcz204_2, hcz204_3, hcz204_4, hcz204_5, hcz204_6⟩, hfz204_0, hfz204_1, hfz204_2, hfz204_3, hfz204_4, hfz204_5, hfz204_6⟩ := Zk7 BK341
            go_wp2_with (first | (go_at_call 43; (with_reducible refine (palinoderef19_over.calls a1_0 a1_1 a1_2 a1_3 a1_4 a1_5 a1_6 5 a1_3 t415 t416 t417 t418 t419 t420 t421 _ A200.out).mono ?_); rintro e w205 ⟨rfl, hb⟩; have n0_ := Aside0.mk (Zv BK340 hb); have n1_ := Aside0.mk (Zv BK341 hb); have n2_ := Aside0.mk (Zv BK342 hb); have n3_ := Aside0.mk (Zv BK349 hb); have n4_ := Aside0.mk (Yv HB hb); clear BK340; clear BK341; clear BK342; clear BK349; clear HB; have BK340 := n0_; have BK341 := n1_; have BK342 := n2_; have BK349 := n3_; have HB := n4_; clear n0_ n1_ n2_ n3_ n4_; (try clear hb); (try clear hb2); (try clear hk); (try clear hi); have hnb206 := NB342_340.out; have hnc206 := NB340_342.out; have hnb207 := NB342_349.out; have hnc207 := NB349_342.out; obtain ⟨⟨hcz208_0, hcz208_1, hcz208_2, hcz208_3, hcz208_4, hcz208_5, hcz208_6⟩, hfz208_0, hfz208_1, hfz208_2, hfz208_3, hfz208_4, hfz208_5, hfz208_6⟩ := Zk7 BK342))
            repeat (go_quiet (first | (go_at_call 43; (with_reducible refine (palinoderef19_over.calls a1_0 a1_1 a1_2 a1_3 a1_4 a1_5 a1_6 5 a1_3 t415 t416 t417 t418 t419 t420 t421 _ A200.out).mono ?_); rintro e w205 ⟨rfl, hb⟩; have n0_ := Aside0.mk (Zv BK340 hb); have n1_ := Aside0.mk (Zv BK341 hb); have n2_ := Aside0.mk (Zv BK342 hb); have n3_ := Aside0.mk (Zv BK349 hb); have n4_ := Aside0.mk (Yv HB hb); clear BK340; clear BK341; clear BK342; clear BK349; clear HB; have BK340 := n0_; have BK341 := n1_; have BK342 := n2_; have BK349 := n3_; have HB := n4_; clear n0_ n1_ n2_ n3_ n4_; (try clear hb); (try clear hb2); (try clear hk); (try clear hi); have hnb206 := NB342_340.out; have hnc206 := NB340_342.out; have hnb207 := NB342_349.out; have hnc207 := NB349_342.out; obtain ⟨⟨hcz208_0, hcz208_1, hcz208_2, hcz208_3, hcz208_4, hcz208_5, hcz208_6⟩, hfz208_0, hfz208_1, hfz208_2, hfz208_3, hfz208_4, hfz208_5, hfz208_6⟩ := Zk7 BK342)); try go_wp2_with (first | (go_at_call 43; (with_reducible refine (palinoderef19_over.calls a1_0 a1_1 a1_2 a1_3 a1_4 a1_5 a1_6 5 a1_3 t415 t416 t417 t418 t419 t420 t421 _ A200.out).mono ?_); rintro e w205 ⟨rfl, hb⟩; have n0_ := Aside0.mk (Zv BK340 hb); have n1_ := Aside0.mk (Zv BK341 hb); have n2_ := Aside0.mk (Zv BK342 hb); have n3_ := Aside0.mk (Zv BK349 hb); have n4_ := Aside0.mk (Yv HB hb); clear BK340; clear BK341; clear BK342; clear BK349; clear HB; have BK340 := n0_; have BK341 := n1_; have BK342 := n2_; have BK349 := n3_; have HB := n4_; clear n0_ n1_ n2_ n3_ n4_; (try clear hb); (try clear hb2); (try clear hk); (try clear hi); have hnb206 := NB342_340.out; have hnc206 := NB340_342.out; have hnb207 := NB342_349.out; have hnc207 := NB349_342.out; obtain ⟨⟨hcz208_0, hcz208_1, hcz208_2, hcz208_3, hcz208_4, hcz208_5, hcz208_6⟩, hfz208_0, hfz208_1, hfz208_2, hfz208_3, hfz208_4, hfz208_5, hfz208_6⟩ := Zk7 BK342)))
            refine bodyPost_ret (results_ct rfl _ _ gb342 26 #[.string t415, .string t416, .int .i64 t417, .int .i64 t418, .int .i64 t419, .int .i64 t420, .bool t421] (0, 0) _ rfl (by (with_reducible repeat (first | refine Zn ?_ _ | refine Zd ?_ | refine Za ?_ _)); refine Zp (cs := #[.string t415, .string t416, .int .i64 t417, .int .i64 t418, .int .i64 t419, .int .i64 t420, .bool false]) ?_ 6 _ rfl; (with_reducible repeat (first | refine Zn ?_ _ | refine Zd ?_ | refine Za ?_ _)); refine Zp (cs := #[.string t415, .string t416, .int .i64 t417, .int .i64 t418, .int .i64 t419, .int .i64 0, .bool false]) ?_ 5 _ rfl; (with_reducible repeat (first | refine Zn ?_ _ | refine Zd ?_ | refine Za ?_ _)); refine Zp (cs := #[.string t415, .string t416, .int .i64 t417, .int .i64 t418, .int .i64 0, .int .i64 0, .bool false]) ?_ 4 _ rfl; (with_reducible repeat (first | refine Zn ?_ _ | refine Zd ?_ | refine Za ?_ _)); refine Zp (cs := #[.string t415, .string t416, .int .i64 t417, .int .i64 0, .int .i64 0, .int .i64 0, .bool false]) ?_ 3 _ rfl; (with_reducible repeat (first | refine Zn ?_ _ | refine Zd ?_ | refine Za ?_ _)); refine Zp (cs := #[.string t415, .string t416, .int .i64 0, .int .i64 0, .int .i64 0, .int .i64 0, .bool false]) ?_ 2 _ rfl; (with_reducible repeat (first | refine Zn ?_ _ | refine Zd ?_ | refine Za ?_ _)); refine Zp (cs := #[.string t415, .string (⟨#[]⟩ : ByteArray), .int .i64 0, .int .i64 0, .int .i64 0, .int .i64 0, .bool false]) ?_ 1 _ rfl; (with_reducible repeat (first | refine Zn ?_ _ | refine Zd ?_ | refine Za ?_ _)); refine Zp (cs := #[.string (⟨#[]⟩ : ByteArray), .string (⟨#[]⟩ : ByteArray), .int .i64 0, .int .i64 0, .int .i64 0, .int .i64 0, .bool false]) ?_ 0 _ rfl; (with_reducible repeat (first | refine Zn ?_ _ | refine Zd ?_ | refine Za ?_ _)); exact BK342.out) Try.underlying26 rfl (by kernel_rfl)) rfl ?_
            exact ⟨by first | rfl | (simp [errW_none, errW_some] <;> rfl) | (simp [*, errW_none, errW_some] <;> rfl), Yr HB⟩
     ·
      rw [if_neg c62] at H
      exact absurd H (by simp)
    ·
     rw [if_neg c61] at H
     exact absurd H (by simp)

end Go.Proofs.Ytfhlpkcapohnoaa.Print
