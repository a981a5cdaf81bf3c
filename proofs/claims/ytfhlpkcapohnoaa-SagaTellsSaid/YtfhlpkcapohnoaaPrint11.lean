-- Printed out of the translation by a program of this session's own. Not trusted: Lean checks it.
import Derived.Test.YtfhlpkcapohnoaaPrint0
import Derived.Test.YtfhlpkcapohnoaaPrint1
import Derived.Test.YtfhlpkcapohnoaaPrint2
import Derived.Test.YtfhlpkcapohnoaaPrint3
import Derived.Test.YtfhlpkcapohnoaaPrint4
import Derived.Test.YtfhlpkcapohnoaaPrint7
import Derived.Test.YtfhlpkcapohnoaaPrint8
import Derived.Test.YtfhlpkcapohnoaaPrint9
import Derived.Test.YtfhlpkcapohnoaaPrint10
namespace Go.Proofs.Ytfhlpkcapohnoaa.Print
open Go.RowKit Go.Proofs.YtfhlpkcapohnoaaW.PrintWords Go.Proofs.YtfhlpkcapohnoaaW.PrintLast Go.Proofs.YtfhlpkcapohnoaaX
set_option linter.unusedVariables false
set_option linter.unusedSimpArgs false

attribute [local go_sem high] eqA26 eqA35
/-! ### palinodelaw19_SagaTells: function 3 -/
def palinodelaw19_SagaTells.f (k : Nat) (a0_0 : ByteArray) (l0_1 : List (S53)) (a1_0 : ByteArray) (a1_1 : ByteArray) (a1_2 : Int) (a1_3 : Int) (a1_4 : Int) (a1_5 : Int) (a1_6 : Bool) (a2 : ByteArray) (a3 : Int) : Option (Bool) := (palinodelaw19_examples.f k).bind fun t297 => ((saga_Begin.f k a0_0 l0_1 a2 a3).bind fun bt298 => ((palinoderef19_Begin.f k a0_0 l0_1 a2 a3).bind fun bt307 => ((saga_Command.f a1_0 a1_1 a1_2 a1_3 a1_4 a1_5 a1_6).bind fun bt316 => ((palinoderef19_Command.f a1_0 a1_1 a1_2 a1_3 a1_4 a1_5 a1_6).bind fun bt322 => (if t297 = true then ((saga_Right.f k a0_0 l0_1 a1_0 a1_1 a1_2 a1_3 a1_4 a1_5 a1_6).bind fun t328 => ((palinoderef19_Right.f k a0_0 l0_1 a1_0 a1_1 a1_2 a1_3 a1_4 a1_5 a1_6).bind fun t329 => (if (t328 == t329) = true then ((saga_Live.f a1_0 a1_1 a1_2 a1_3 a1_4 a1_5 a1_6).bind fun t330 => ((palinoderef19_Live.f a1_0 a1_1 a1_2 a1_3 a1_4 a1_5 a1_6).bind fun t331 => (if (t330 == t331) = true then (if (bt298.1.toList == bt307.1.toList && (bt298.2.1.toList == bt307.2.1.toList && (bt298.2.2.1 == bt307.2.2.1 && (bt298.2.2.2.1 == bt307.2.2.2.1 && (bt298.2.2.2.2.1 == bt307.2.2.2.2.1 && (bt298.2.2.2.2.2.1 == bt307.2.2.2.2.2.1 && (bt298.2.2.2.2.2.2.1 == bt307.2.2.2.2.2.2.1))))))) = true then (if bt307.2.2.2.2.2.2.2 = true then (if bt298.2.2.2.2.2.2.2.isNone = true then (if (bt316.1.toList == bt322.1.toList && (bt316.2.1 == bt322.2.1 && (bt316.2.2.1 == bt322.2.2.1 && (bt316.2.2.2.1 == bt322.2.2.2.1)))) = true then (some (bt316.2.2.2.2 == bt322.2.2.2.2)) else (some false)) else (some false)) else ((palinodelaw19_is.f bt298.2.2.2.2.2.2.2 1).bind fun t333 => (if t333 = true then (if (bt316.1.toList == bt322.1.toList && (bt316.2.1 == bt322.2.1 && (bt316.2.2.1 == bt322.2.2.1 && (bt316.2.2.2.1 == bt322.2.2.2.1)))) = true then (some (bt316.2.2.2.2 == bt322.2.2.2.2)) else (some false)) else (some false)))) else (some false)) else (some false)))) else (some false)))) else (some false))))))
theorem palinodelaw19_SagaTells.mono : ∀ a0 a1 a2 a3 a4 a5 a6 a7 a8 a9 a10 k, LeO (palinodelaw19_SagaTells.f k a0 a1 a2 a3 a4 a5 a6 a7 a8 a9 a10) (palinodelaw19_SagaTells.f (k + 1) a0 a1 a2 a3 a4 a5 a6 a7 a8 a9 a10) := by
 intro a0 a1 a2 a3 a4 a5 a6 a7 a8 a9 a10 k
 unfold palinodelaw19_SagaTells.f
 repeat' first
   | (with_reducible exact palinodelaw19_examples.mono _)
   | (with_reducible exact palinoderef19_Begin.mono _ _ _ _ _)
   | (with_reducible exact palinoderef19_Right.mono _ _ _ _ _ _ _ _ _ _)
   | (with_reducible exact saga_Begin.mono _ _ _ _ _)
   | (with_reducible exact saga_Right.mono _ _ _ _ _ _ _ _ _ _)
   | (with_reducible exact LeO.refl _)
   | (with_reducible exact LeO.none _)
   | (with_reducible refine LeO.ite ?_ ?_)
   | (with_reducible refine LeO.bind ?_ (fun _ => ?_))
   | exact palinodelaw19_examples.mono _
   | exact palinoderef19_Begin.mono _ _ _ _ _
   | exact palinoderef19_Right.mono _ _ _ _ _ _ _ _ _ _
   | exact saga_Begin.mono _ _ _ _ _
   | exact saga_Right.mono _ _ _ _ _ _ _ _ _ _
   | exact LeO.none _
   | refine LeO.ite ?_ ?_
   | refine LeO.bind ?_ (fun _ => ?_)
def palinodelaw19_SagaTells.T6 : Bool × List (List Nat × List Nat) := (true, [([], []), ([0], [0]), ([1], [1]), ([1], [1]), ([2, 3, 1, 1], [1, 2, 3]), ([1], [1]), ([1], [1]), ([5, 6, 4, 1], [1, 5, 6]), ([4, 7, 1], [1, 4, 7]), ([1, 8], [1, 8]), ([9, 7], [9]), ([10], [10]), ([11, 10, 10], [10, 11]), ([10], [10]), ([13, 12, 10], [10, 13]), ([12, 14, 10], [10, 12, 14]), ([10, 15], [10, 15]), ([16, 14], [16]), ([17], [17]), ([17], [17]), ([18, 19, 17], [17, 18, 19]), ([17, 20], [17, 20]), ([21, 17], [21]), ([22], [22]), ([23, 22, 22], [22, 23]), ([24], [24]), ([25, 24], [24, 25]), ([24, 26, 22], [22, 24, 26]), ([27, 24, 22], [22, 27]), ([28], [28]), ([29, 28], [28, 29]), ([30, 28, 28], [28, 30]), ([31], [31]), ([32, 31, 31], [31, 32]), ([31, 33, 28], [28, 31, 33]), ([28, 34, 22], [22, 28, 34]), ([22, 35], [22, 35]), ([36, 33], [36]), ([37], [37]), ([37], [37]), ([38, 39, 37], [37, 38, 39]), ([37, 40], [37, 40]), ([41, 37], [41]), ([42], [42]), ([42], [42]), ([43, 44, 42], [42, 43, 44]), ([42, 45], [42, 45]), ([46, 42, 0, 1, 2, 3, 4, 5, 6, 7, 8, 9, 10, 11, 12, 13, 14, 15, 16, 17, 18, 19, 20, 21, 22, 23, 24, 25, 26, 27, 28, 29, 30, 31, 32, 33, 34, 35, 36, 37, 38, 39, 40, 41, 42, 43, 44, 45, 46], [46])])
def palinodelaw19_SagaTells.B6 : List Nat := [0, 1, 3, 3, 15, 3, 3, 127, 255, 511, 1023, 2047, 4095, 2047, 16383, 32767, 65535, 131071, 262143, 262143, 1048575, 2097151, 4194303, 8388607, 16777215, 33554431, 67108863, 134217727, 268435455, 536870911, 1073741823, 2147483647, 4294967295, 8589934591, 17179869183, 34359738367, 68719476735, 137438953471, 274877906943, 274877906943, 1099511627775, 2199023255551, 4398046511103, 8796093022207, 8796093022207, 35184372088831, 70368744177663, 140737488355327]
theorem palinodelaw19_SagaTells.tab6 : rtab .any (opsOf Try.f3 6) = palinodelaw19_SagaTells.T6 := by kernel_rfl
theorem palinodelaw19_SagaTells.bits6 : waitsOk palinodelaw19_SagaTells.T6.2 palinodelaw19_SagaTells.B6 = true := by kernel_rfl
set_option maxHeartbeats 8000000 in
set_option maxRecDepth 100000 in
theorem palinodelaw19_SagaTells.calls (k : Nat) (a0_0 : ByteArray) (A0_1 : Option Addr) (c0_1 : Nat) (l0_1 : List (S53)) (a1_0 : ByteArray) (a1_1 : ByteArray) (a1_2 : Int) (a1_3 : Int) (a1_4 : Int) (a1_5 : Int) (a1_6 : Bool) (a2 : ByteArray) (a3 : Int) (r : Bool) (w : World) (hr0_1 : Kd.C k53 w A0_1 l0_1.length l0_1) (hc0_1 : l0_1.length ≤ c0_1) (h : palinodelaw19_SagaTells.f k a0_0 l0_1 a1_0 a1_1 a1_2 a1_3 a1_4 a1_5 a1_6 a2 a3 = some r) (HEX_ : Aside0 (∀ k_ r_, palinodelaw19_examples.f k_ = some r_ → r_ = true)) (HRT_ : Aside0 (r = true) := by first | exact ⟨rfl⟩ | assumption) :
  Calls Try.prog 3 #[.agg #[.string a0_0, .slice A0_1 l0_1.length c0_1], .agg #[.string a1_0, .string a1_1, .int .i64 a1_2, .int .i64 a1_3, .int .i64 a1_4, .int .i64 a1_5, .bool a1_6], .string a2, .int .i64 a3] w fun e w' => e = .returned (.bool r) ∧ Below w.heap.size w w' := by
 have hu24 := Try.underlying24
 have hu26 := Try.underlying26
 have hu35 := Try.underlying35
 have hu29 := Try.underlying29
 have hu62 := Try.underlying62
 have HR0_1 := Aside0.mk hr0_1
 have HC0_1 := Aside0.mk hc0_1
 clear hr0_1 hc0_1
 have HB := Aside0.mk (Below.refl w.heap.size w)
 have H : ((palinodelaw19_examples.f k).bind fun t297 => ((saga_Begin.f k a0_0 l0_1 a2 a3).bind fun bt298 => ((palinoderef19_Begin.f k a0_0 l0_1 a2 a3).bind fun bt307 => ((saga_Command.f a1_0 a1_1 a1_2 a1_3 a1_4 a1_5 a1_6).bind fun bt316 => ((palinoderef19_Command.f a1_0 a1_1 a1_2 a1_3 a1_4 a1_5 a1_6).bind fun bt322 => (if t297 = true then ((saga_Right.f k a0_0 l0_1 a1_0 a1_1 a1_2 a1_3 a1_4 a1_5 a1_6).bind fun t328 => ((palinoderef19_Right.f k a0_0 l0_1 a1_0 a1_1 a1_2 a1_3 a1_4 a1_5 a1_6).bind fun t329 => (if (t328 == t329) = true then ((saga_Live.f a1_0 a1_1 a1_2 a1_3 a1_4 a1_5 a1_6).bind fun t330 => ((palinoderef19_Live.f a1_0 a1_1 a1_2 a1_3 a1_4 a1_5 a1_6).bind fun t331 => (if (t330 == t331) = true then (if (bt298.1.toList == bt307.1.toList && (bt298.2.1.toList == bt307.2.1.toList && (bt298.2.2.1 == bt307.2.2.1 && (bt298.2.2.2.1 == bt307.2.2.2.1 && (bt298.2.2.2.2.1 == bt307.2.2.2.2.1 && (bt298.2.2.2.2.2.1 == bt307.2.2.2.2.2.1 && (bt298.2.2.2.2.2.2.1 == bt307.2.2.2.2.2.2.1))))))) = true then (if bt307.2.2.2.2.2.2.2 = true then (if bt298.2.2.2.2.2.2.2.isNone = true then (if (bt316.1.toList == bt322.1.toList && (bt316.2.1 == bt322.2.1 && (bt316.2.2.1 == bt322.2.2.1 && (bt316.2.2.2.1 == bt322.2.2.2.1)))) = true then (some (bt316.2.2.2.2 == bt322.2.2.2.2)) else (some false)) else (some false)) else ((palinodelaw19_is.f bt298.2.2.2.2.2.2.2 1).bind fun t333 => (if t333 = true then (if (bt316.1.toList == bt322.1.toList && (bt316.2.1 == bt322.2.1 && (bt316.2.2.1 == bt322.2.2.1 && (bt316.2.2.2.1 == bt322.2.2.2.1)))) = true then (some (bt316.2.2.2.2 == bt322.2.2.2.2)) else (some false)) else (some false)))) else (some false)) else (some false)))) else (some false)))) else (some false))))))) = some r := h
 clear h
 replace H := Option.bind_eq_some_iff.mp H
 obtain ⟨t297, A50, H⟩ := H
 replace H : ((saga_Begin.f k a0_0 l0_1 a2 a3).bind fun bt298 => ((palinoderef19_Begin.f k a0_0 l0_1 a2 a3).bind fun bt307 => ((saga_Command.f a1_0 a1_1 a1_2 a1_3 a1_4 a1_5 a1_6).bind fun bt316 => ((palinoderef19_Command.f a1_0 a1_1 a1_2 a1_3 a1_4 a1_5 a1_6).bind fun bt322 => (if t297 = true then ((saga_Right.f k a0_0 l0_1 a1_0 a1_1 a1_2 a1_3 a1_4 a1_5 a1_6).bind fun t328 => ((palinoderef19_Right.f k a0_0 l0_1 a1_0 a1_1 a1_2 a1_3 a1_4 a1_5 a1_6).bind fun t329 => (if (t328 == t329) = true then ((saga_Live.f a1_0 a1_1 a1_2 a1_3 a1_4 a1_5 a1_6).bind fun t330 => ((palinoderef19_Live.f a1_0 a1_1 a1_2 a1_3 a1_4 a1_5 a1_6).bind fun t331 => (if (t330 == t331) = true then (if (bt298.1.toList == bt307.1.toList && (bt298.2.1.toList == bt307.2.1.toList && (bt298.2.2.1 == bt307.2.2.1 && (bt298.2.2.2.1 == bt307.2.2.2.1 && (bt298.2.2.2.2.1 == bt307.2.2.2.2.1 && (bt298.2.2.2.2.2.1 == bt307.2.2.2.2.2.1 && (bt298.2.2.2.2.2.2.1 == bt307.2.2.2.2.2.2.1))))))) = true then (if bt307.2.2.2.2.2.2.2 = true then (if bt298.2.2.2.2.2.2.2.isNone = true then (if (bt316.1.toList == bt322.1.toList && (bt316.2.1 == bt322.2.1 && (bt316.2.2.1 == bt322.2.2.1 && (bt316.2.2.2.1 == bt322.2.2.2.1)))) = true then (some (bt316.2.2.2.2 == bt322.2.2.2.2)) else (some false)) else (some false)) else ((palinodelaw19_is.f bt298.2.2.2.2.2.2.2 1).bind fun t333 => (if t333 = true then (if (bt316.1.toList == bt322.1.toList && (bt316.2.1 == bt322.2.1 && (bt316.2.2.1 == bt322.2.2.1 && (bt316.2.2.2.1 == bt322.2.2.2.1)))) = true then (some (bt316.2.2.2.2 == bt322.2.2.2.2)) else (some false)) else (some false)))) else (some false)) else (some false)))) else (some false)))) else (some false)))))) = some r := H
 have A5 := Aside0.mk A50
 have HTA5_ : Aside0 (t297 = true) := ⟨HEX_.out _ _ A50⟩
 clear A50
 replace H := Option.bind_eq_some_iff.mp H
 obtain ⟨⟨t298, t299, t300, t301, t302, t303, t304, t305⟩, A60, H⟩ := H
 replace H : ((palinoderef19_Begin.f k a0_0 l0_1 a2 a3).bind fun bt307 => ((saga_Command.f a1_0 a1_1 a1_2 a1_3 a1_4 a1_5 a1_6).bind fun bt316 => ((palinoderef19_Command.f a1_0 a1_1 a1_2 a1_3 a1_4 a1_5 a1_6).bind fun bt322 => (if t297 = true then ((saga_Right.f k a0_0 l0_1 a1_0 a1_1 a1_2 a1_3 a1_4 a1_5 a1_6).bind fun t328 => ((palinoderef19_Right.f k a0_0 l0_1 a1_0 a1_1 a1_2 a1_3 a1_4 a1_5 a1_6).bind fun t329 => (if (t328 == t329) = true then ((saga_Live.f a1_0 a1_1 a1_2 a1_3 a1_4 a1_5 a1_6).bind fun t330 => ((palinoderef19_Live.f a1_0 a1_1 a1_2 a1_3 a1_4 a1_5 a1_6).bind fun t331 => (if (t330 == t331) = true then (if (t298.toList == bt307.1.toList && (t299.toList == bt307.2.1.toList && (t300 == bt307.2.2.1 && (t301 == bt307.2.2.2.1 && (t302 == bt307.2.2.2.2.1 && (t303 == bt307.2.2.2.2.2.1 && (t304 == bt307.2.2.2.2.2.2.1))))))) = true then (if bt307.2.2.2.2.2.2.2 = true then (if t305.isNone = true then (if (bt316.1.toList == bt322.1.toList && (bt316.2.1 == bt322.2.1 && (bt316.2.2.1 == bt322.2.2.1 && (bt316.2.2.2.1 == bt322.2.2.2.1)))) = true then (some (bt316.2.2.2.2 == bt322.2.2.2.2)) else (some false)) else (some false)) else ((palinodelaw19_is.f t305 1).bind fun t333 => (if t333 = true then (if (bt316.1.toList == bt322.1.toList && (bt316.2.1 == bt322.2.1 && (bt316.2.2.1 == bt322.2.2.1 && (bt316.2.2.2.1 == bt322.2.2.2.1)))) = true then (some (bt316.2.2.2.2 == bt322.2.2.2.2)) else (some false)) else (some false)))) else (some false)) else (some false)))) else (some false)))) else (some false))))) = some r := H
 have A6 := Aside0.mk A60
 clear A60
 replace H := Option.bind_eq_some_iff.mp H
 obtain ⟨⟨t307, t308, t309, t310, t311, t312, t313, t314⟩, A70, H⟩ := H
 replace H : ((saga_Command.f a1_0 a1_1 a1_2 a1_3 a1_4 a1_5 a1_6).bind fun bt316 => ((palinoderef19_Command.f a1_0 a1_1 a1_2 a1_3 a1_4 a1_5 a1_6).bind fun bt322 => (if t297 = true then ((saga_Right.f k a0_0 l0_1 a1_0 a1_1 a1_2 a1_3 a1_4 a1_5 a1_6).bind fun t328 => ((palinoderef19_Right.f k a0_0 l0_1 a1_0 a1_1 a1_2 a1_3 a1_4 a1_5 a1_6).bind fun t329 => (if (t328 == t329) = true then ((saga_Live.f a1_0 a1_1 a1_2 a1_3 a1_4 a1_5 a1_6).bind fun t330 => ((palinoderef19_Live.f a1_0 a1_1 a1_2 a1_3 a1_4 a1_5 a1_6).bind fun t331 => (if (t330 == t331) = true then (if (t298.toList == t307.toList && (t299.toList == t308.toList && (t300 == t309 && (t301 == t310 && (t302 == t311 && (t303 == t312 && (t304 == t313))))))) = true then (if t314 = true then (if t305.isNone = true then (if (bt316.1.toList == bt322.1.toList && (bt316.2.1 == bt322.2.1 && (bt316.2.2.1 == bt322.2.2.1 && (bt316.2.2.2.1 == bt322.2.2.2.1)))) = true then (some (bt316.2.2.2.2 == bt322.2.2.2.2)) else (some false)) else (some false)) else ((palinodelaw19_is.f t305 1).bind fun t333 => (if t333 = true then (if (bt316.1.toList == bt322.1.toList && (bt316.2.1 == bt322.2.1 && (bt316.2.2.1 == bt322.2.2.1 && (bt316.2.2.2.1 == bt322.2.2.2.1)))) = true then (some (bt316.2.2.2.2 == bt322.2.2.2.2)) else (some false)) else (some false)))) else (some false)) else (some false)))) else (some false)))) else (some false)))) = some r := H
 have A7 := Aside0.mk A70
 clear A70
 replace H := Option.bind_eq_some_iff.mp H
 obtain ⟨⟨t316, t317, t318, t319, t320⟩, A80, H⟩ := H
 replace H : ((palinoderef19_Command.f a1_0 a1_1 a1_2 a1_3 a1_4 a1_5 a1_6).bind fun bt322 => (if t297 = true then ((saga_Right.f k a0_0 l0_1 a1_0 a1_1 a1_2 a1_3 a1_4 a1_5 a1_6).bind fun t328 => ((palinoderef19_Right.f k a0_0 l0_1 a1_0 a1_1 a1_2 a1_3 a1_4 a1_5 a1_6).bind fun t329 => (if (t328 == t329) = true then ((saga_Live.f a1_0 a1_1 a1_2 a1_3 a1_4 a1_5 a1_6).bind fun t330 => ((palinoderef19_Live.f a1_0 a1_1 a1_2 a1_3 a1_4 a1_5 a1_6).bind fun t331 => (if (t330 == t331) = true then (if (t298.toList == t307.toList && (t299.toList == t308.toList && (t300 == t309 && (t301 == t310 && (t302 == t311 && (t303 == t312 && (t304 == t313))))))) = true then (if t314 = true then (if t305.isNone = true then (if (t316.toList == bt322.1.toList && (t317 == bt322.2.1 && (t318 == bt322.2.2.1 && (t319 == bt322.2.2.2.1)))) = true then (some (t320 == bt322.2.2.2.2)) else (some false)) else (some false)) else ((palinodelaw19_is.f t305 1).bind fun t333 => (if t333 = true then (if (t316.toList == bt322.1.toList && (t317 == bt322.2.1 && (t318 == bt322.2.2.1 && (t319 == bt322.2.2.2.1)))) = true then (some (t320 == bt322.2.2.2.2)) else (some false)) else (some false)))) else (some false)) else (some false)))) else (some false)))) else (some false))) = some r := H
 have A8 := Aside0.mk A80
 clear A80
 replace H := Option.bind_eq_some_iff.mp H
 obtain ⟨⟨t322, t323, t324, t325, t326⟩, A90, H⟩ := H
 replace H : (if t297 = true then ((saga_Right.f k a0_0 l0_1 a1_0 a1_1 a1_2 a1_3 a1_4 a1_5 a1_6).bind fun t328 => ((palinoderef19_Right.f k a0_0 l0_1 a1_0 a1_1 a1_2 a1_3 a1_4 a1_5 a1_6).bind fun t329 => (if (t328 == t329) = true then ((saga_Live.f a1_0 a1_1 a1_2 a1_3 a1_4 a1_5 a1_6).bind fun t330 => ((palinoderef19_Live.f a1_0 a1_1 a1_2 a1_3 a1_4 a1_5 a1_6).bind fun t331 => (if (t330 == t331) = true then (if (t298.toList == t307.toList && (t299.toList == t308.toList && (t300 == t309 && (t301 == t310 && (t302 == t311 && (t303 == t312 && (t304 == t313))))))) = true then (if t314 = true then (if t305.isNone = true then (if (t316.toList == t322.toList && (t317 == t323 && (t318 == t324 && (t319 == t325)))) = true then (some (t320 == t326)) else (some false)) else (some false)) else ((palinodelaw19_is.f t305 1).bind fun t333 => (if t333 = true then (if (t316.toList == t322.toList && (t317 == t323 && (t318 == t324 && (t319 == t325)))) = true then (some (t320 == t326)) else (some false)) else (some false)))) else (some false)) else (some false)))) else (some false)))) else (some false)) = some r := H
 have A9 := Aside0.mk A90
 clear A90
 by_cases c10 : t297 = true
 ·
  subst c10
  have H1 : ((saga_Right.f k a0_0 l0_1 a1_0 a1_1 a1_2 a1_3 a1_4 a1_5 a1_6).bind fun t328 => ((palinoderef19_Right.f k a0_0 l0_1 a1_0 a1_1 a1_2 a1_3 a1_4 a1_5 a1_6).bind fun t329 => (if (t328 == t329) = true then ((saga_Live.f a1_0 a1_1 a1_2 a1_3 a1_4 a1_5 a1_6).bind fun t330 => ((palinoderef19_Live.f a1_0 a1_1 a1_2 a1_3 a1_4 a1_5 a1_6).bind fun t331 => (if (t330 == t331) = true then (if (t298.toList == t307.toList && (t299.toList == t308.toList && (t300 == t309 && (t301 == t310 && (t302 == t311 && (t303 == t312 && (t304 == t313))))))) = true then (if t314 = true then (if t305.isNone = true then (if (t316.toList == t322.toList && (t317 == t323 && (t318 == t324 && (t319 == t325)))) = true then (some (t320 == t326)) else (some false)) else (some false)) else ((palinodelaw19_is.f t305 1).bind fun t333 => (if t333 = true then (if (t316.toList == t322.toList && (t317 == t323 && (t318 == t324 && (t319 == t325)))) = true then (some (t320 == t326)) else (some false)) else (some false)))) else (some false)) else (some false)))) else (some false)))) = some r := by rw [if_pos rfl] at H; exact H
  clear H
  have H := H1
  clear H1
  replace H := Option.bind_eq_some_iff.mp H
  obtain ⟨t328, A110, H⟩ := H
  replace H : ((palinoderef19_Right.f k a0_0 l0_1 a1_0 a1_1 a1_2 a1_3 a1_4 a1_5 a1_6).bind fun t329 => (if (t328 == t329) = true then ((saga_Live.f a1_0 a1_1 a1_2 a1_3 a1_4 a1_5 a1_6).bind fun t330 => ((palinoderef19_Live.f a1_0 a1_1 a1_2 a1_3 a1_4 a1_5 a1_6).bind fun t331 => (if (t330 == t331) = true then (if (t298.toList == t307.toList && (t299.toList == t308.toList && (t300 == t309 && (t301 == t310 && (t302 == t311 && (t303 == t312 && (t304 == t313))))))) = true then (if t314 = true then (if t305.isNone = true then (if (t316.toList == t322.toList && (t317 == t323 && (t318 == t324 && (t319 == t325)))) = true then (some (t320 == t326)) else (some false)) else (some false)) else ((palinodelaw19_is.f t305 1).bind fun t333 => (if t333 = true then (if (t316.toList == t322.toList && (t317 == t323 && (t318 == t324 && (t319 == t325)))) = true then (some (t320 == t326)) else (some false)) else (some false)))) else (some false)) else (some false)))) else (some false))) = some r := H
  have A11 := Aside0.mk A110
  clear A110
  replace H := Option.bind_eq_some_iff.mp H
  obtain ⟨t329, A120, H⟩ := H
  replace H : (if (t328 == t329) = true then ((saga_Live.f a1_0 a1_1 a1_2 a1_3 a1_4 a1_5 a1_6).bind fun t330 => ((palinoderef19_Live.f a1_0 a1_1 a1_2 a1_3 a1_4 a1_5 a1_6).bind fun t331 => (if (t330 == t331) = true then (if (t298.toList == t307.toList && (t299.toList == t308.toList && (t300 == t309 && (t301 == t310 && (t302 == t311 && (t303 == t312 && (t304 == t313))))))) = true then (if t314 = true then (if t305.isNone = true then (if (t316.toList == t322.toList && (t317 == t323 && (t318 == t324 && (t319 == t325)))) = true then (some (t320 == t326)) else (some false)) else (some false)) else ((palinodelaw19_is.f t305 1).bind fun t333 => (if t333 = true then (if (t316.toList == t322.toList && (t317 == t323 && (t318 == t324 && (t319 == t325)))) = true then (some (t320 == t326)) else (some false)) else (some false)))) else (some false)) else (some false)))) else (some false)) = some r := H
  have A12 := Aside0.mk A120
  clear A120
  by_cases c13 : (t328 == t329) = true
  ·
   rw [if_pos c13] at H
   have c13b0 : (t328 == t329) = true := c13
   (try (have c13b1 : decide (t328 = t329) = true := by simpa using c13))
   (try (have c13b2 : (t328 == t329) = true := by simpa using c13))
   clear c13
   replace H := Option.bind_eq_some_iff.mp H
   obtain ⟨t330, A140, H⟩ := H
   replace H : ((palinoderef19_Live.f a1_0 a1_1 a1_2 a1_3 a1_4 a1_5 a1_6).bind fun t331 => (if (t330 == t331) = true then (if (t298.toList == t307.toList && (t299.toList == t308.toList && (t300 == t309 && (t301 == t310 && (t302 == t311 && (t303 == t312 && (t304 == t313))))))) = true then (if t314 = true then (if t305.isNone = true then (if (t316.toList == t322.toList && (t317 == t323 && (t318 == t324 && (t319 == t325)))) = true then (some (t320 == t326)) else (some false)) else (some false)) else ((palinodelaw19_is.f t305 1).bind fun t333 => (if t333 = true then (if (t316.toList == t322.toList && (t317 == t323 && (t318 == t324 && (t319 == t325)))) = true then (some (t320 == t326)) else (some false)) else (some false)))) else (some false)) else (some false))) = some r := H
   have A14 := Aside0.mk A140
   clear A140
   replace H := Option.bind_eq_some_iff.mp H
   obtain ⟨t331, A150, H⟩ := H
   replace H : (if (t330 == t331) = true then (if (t298.toList == t307.toList && (t299.toList == t308.toList && (t300 == t309 && (t301 == t310 && (t302 == t311 && (t303 == t312 && (t304 == t313))))))) = true then (if t314 = true then (if t305.isNone = true then (if (t316.toList == t322.toList && (t317 == t323 && (t318 == t324 && (t319 == t325)))) = true then (some (t320 == t326)) else (some false)) else (some false)) else ((palinodelaw19_is.f t305 1).bind fun t333 => (if t333 = true then (if (t316.toList == t322.toList && (t317 == t323 && (t318 == t324 && (t319 == t325)))) = true then (some (t320 == t326)) else (some false)) else (some false)))) else (some false)) else (some false)) = some r := H
   have A15 := Aside0.mk A150
   clear A150
   by_cases c16 : (t330 == t331) = true
   ·
    rw [if_pos c16] at H
    have c16b0 : (t330 == t331) = true := c16
    (try (have c16b1 : decide (t330 = t331) = true := by simpa using c16))
    (try (have c16b2 : (t330 == t331) = true := by simpa using c16))
    clear c16
    by_cases c17 : (t298.toList == t307.toList && (t299.toList == t308.toList && (t300 == t309 && (t301 == t310 && (t302 == t311 && (t303 == t312 && (t304 == t313))))))) = true
    ·
     rw [if_pos c17] at H
     have c17b0 : (t298.toList == t307.toList && (t299.toList == t308.toList && (t300 == t309 && (t301 == t310 && (t302 == t311 && (t303 == t312 && (t304 == t313))))))) = true := c17
     (try (have c17b1 : decide (t298.toList = t307.toList && (t299.toList == t308.toList && (t300 == t309 && (t301 == t310 && (t302 == t311 && (t303 == t312 && (t304 == t313))))))) = true := by simpa using c17))
     (try (have c17b2 : (t298.toList == t307.toList && (t299.toList == t308.toList && (t300 == t309 && (t301 == t310 && (t302 == t311 && (t303 == t312 && (t304 == t313))))))) = true := by simpa using c17))
     clear c17
     by_cases c18 : t314 = true
     ·
      subst c18
      have H1 : (if t305.isNone = true then (if (t316.toList == t322.toList && (t317 == t323 && (t318 == t324 && (t319 == t325)))) = true then (some (t320 == t326)) else (some false)) else (some false)) = some r := by rw [if_pos rfl] at H; exact H
      clear H
      have H := H1
      clear H1
      rcases t305 with _ | q332
      ·
       have H1 : (if (t316.toList == t322.toList && (t317 == t323 && (t318 == t324 && (t319 == t325)))) = true then (some (t320 == t326)) else (some false)) = some r := by rw [if_pos (show (none : Option Int).isNone = true by rfl)] at H; exact H
       clear H
       have H := H1
       clear H1
       try simp only [errW_none, errW_some]
       by_cases c19 : (t316.toList == t322.toList && (t317 == t323 && (t318 == t324 && (t319 == t325)))) = true
       ·
        rw [if_pos c19] at H
        have c19b0 : (t316.toList == t322.toList && (t317 == t323 && (t318 == t324 && (t319 == t325)))) = true := c19
        (try (have c19b1 : decide (t316.toList = t322.toList && (t317 == t323 && (t318 == t324 && (t319 == t325)))) = true := by simpa using c19))
        (try (have c19b2 : (t316.toList == t322.toList && (t317 == t323 && (t318 == t324 && (t319 == t325)))) = true := by simpa using c19))
        clear c19
        obtain rfl := Option.some.inj H
        go_enter Try.func3, Try.ntmps3
        try go_wp2_with (first | ((with_reducible refine gate_dst (N := 4) rfl ?_); refine box_event ?hg (N := 4) ?hd (cs := #[.string a0_0, .slice A0_1 l0_1.length c0_1]) (t := 24) ?hr ?_; (case hd => rfl); (case hg => rfl); (case hr => first | (go_simp; done) | (go_simp; rfl)); intro gb295 hg w20 hbox hb; have n0_ := Aside0.mk (Yv HB hb); have n1_ := Aside0.mk (hbox); have n2_ := Aside0.mk ((by rw [hg]; exact (below_size (Yr HB)) : w.heap.size ≤ gb295)); have n3_ := Aside0.mk ((by rw [hg]; exact (below_size (Yr HB)) : w.heap.size ≤ gb295)); clear HB; have HB := n0_; have BK295 := n1_; have GW295 := n2_; have GE295 := n3_; clear n0_ n1_ n2_ n3_; clear hb hbox hg) | ((with_reducible refine gate_dst (N := 5) rfl ?_); refine box_event ?hg (N := 5) ?hd (cs := #[.string a1_0, .string a1_1, .int .i64 a1_2, .int .i64 a1_3, .int .i64 a1_4, .int .i64 a1_5, .bool a1_6]) (t := 26) ?hr ?_; (case hd => rfl); (case hg => rfl); (case hr => first | (go_simp; done) | (go_simp; rfl)); intro gb296 hg w21 hbox hb; have n0_ := Aside0.mk (Zv BK295 hb); have n1_ := Aside0.mk (Yv HB hb); have n2_ := Aside0.mk (hbox); have n3_ := Aside0.mk ((by rw [hg]; exact (below_size (Yr HB)) : w.heap.size ≤ gb296)); have n4_ := Aside0.mk ((by rw [hg]; exact (below_size (Yr HB)) : w.heap.size ≤ gb296)); have n5_ := Aside0.mk ((by rw [hg]; exact Nat.ne_of_lt (blk_lt (g := gb295) (o := .cells #[.string a0_0, .slice A0_1 l0_1.length c0_1] 24 (0, 0)) (Zr BK295)) : gb295 ≠ gb296)); have n6_ := Aside0.mk ((by rw [hg]; exact Nat.ne_of_gt (blk_lt (g := gb295) (o := .cells #[.string a0_0, .slice A0_1 l0_1.length c0_1] 24 (0, 0)) (Zr BK295)) : gb296 ≠ gb295)); clear BK295; clear HB; have BK295 := n0_; have HB := n1_; have BK296 := n2_; have GW296 := n3_; have GE296 := n4_; have NB295_296 := n5_; have NB296_295 := n6_; clear n0_ n1_ n2_ n3_ n4_ n5_ n6_; clear hb hbox hg) | ((with_reducible refine gate_callee (f := 13) rfl ?_); refine goesL_ (some 18) rfl rfl Try.func13 (by kernel_rfl) rfl #[] rfl (by (try simp only [List.map_toArray, List.map_cons, List.map_nil]); first | done | rfl | (simp only [List.length_drop, List.length_take]; rfl)) ?_; (with_reducible refine (palinodelaw19_examples.calls k  true _ A5.out).mono ?_); rintro e w22 ⟨rfl, hb⟩; refine ⟨_, rfl, ?_⟩; have n0_ := Aside0.mk (Zv BK295 hb); have n1_ := Aside0.mk (Zv BK296 hb); have n2_ := Aside0.mk (Yv HB hb); clear BK295; clear BK296; clear HB; have BK295 := n0_; have BK296 := n1_; have HB := n2_; clear n0_ n1_ n2_; (try clear hb); (try clear hb2); (try clear hk); (try clear hi); have hnb23 := NB295_296.out; have hnc23 := NB296_295.out; obtain ⟨⟨hcz24_0, hcz24_1⟩, hfz24_0, hfz24_1⟩ := Zk2 BK295) | ((with_reducible refine gate_callee (f := 14) rfl ?_); refine goesL_ (some 23) rfl rfl Try.func14 (by kernel_rfl) rfl #[.agg #[.string a0_0, .slice A0_1 l0_1.length c0_1], .string a2, .int .i64 a3] rfl (by (try simp only [List.map_toArray, List.map_cons, List.map_nil]); first | done | rfl | (simp only [List.length_drop, List.length_take]; rfl)) ?_; (with_reducible refine (saga_Begin.calls k a0_0 _ _ l0_1 a2 a3 t298 t299 t300 t301 t302 t303 t304 none _ ?side1 ?side2 A6.out).mono ?_); (case side1 => repeat (first | exact (Kd.C_below HR0_1.out HB.out) | (with_reducible refine Kd.C_alloc ?_ _) | (with_reducible refine Kd.C_drewN ?_ _) | (with_reducible refine Kd.C_drew ?_))); (case side2 => exact HC0_1.out); rintro e w25 ⟨rfl, hb⟩; refine ⟨_, rfl, ?_⟩; have n0_ := Aside0.mk (Zv BK295 hb); have n1_ := Aside0.mk (Zv BK296 hb); have n2_ := Aside0.mk (Yv HB hb); clear BK295; clear BK296; clear HB; have BK295 := n0_; have BK296 := n1_; have HB := n2_; clear n0_ n1_ n2_; (try clear hb); (try clear hb2); (try clear hk); (try clear hi); (try simp only [errW_none, errW_some])) | ((with_reducible refine gate_dst (N := 10) rfl ?_); refine box_event ?hg (N := 10) ?hd (cs := #[.string (⟨#[]⟩ : ByteArray), .string (⟨#[]⟩ : ByteArray), .int .i64 0, .int .i64 0, .int .i64 0, .int .i64 0, .bool false]) (t := 26) ?hr ?_; (case hd => rfl); (case hg => rfl); (case hr => first | (go_simp; done) | (go_simp; rfl)); intro gb306 hg w26 hbox hb; have n0_ := Aside0.mk (Zv BK295 hb); have n1_ := Aside0.mk (Zv BK296 hb); have n2_ := Aside0.mk (Yv HB hb); have n3_ := Aside0.mk (hbox); have n4_ := Aside0.mk ((by rw [hg]; exact (below_size (Yr HB)) : w.heap.size ≤ gb306)); have n5_ := Aside0.mk ((by rw [hg]; exact (below_size (Yr HB)) : w.heap.size ≤ gb306)); have n6_ := Aside0.mk ((by rw [hg]; exact Nat.ne_of_lt (blk_lt (g := gb295) (o := .cells #[.string a0_0, .slice A0_1 l0_1.length c0_1] 24 (0, 0)) (Zr BK295)) : gb295 ≠ gb306)); have n7_ := Aside0.mk ((by rw [hg]; exact Nat.ne_of_gt (blk_lt (g := gb295) (o := .cells #[.string a0_0, .slice A0_1 l0_1.length c0_1] 24 (0, 0)) (Zr BK295)) : gb306 ≠ gb295)); have n8_ := Aside0.mk ((by rw [hg]; exact Nat.ne_of_lt (blk_lt (g := gb296) (o := .cells #[.string a1_0, .string a1_1, .int .i64 a1_2, .int .i64 a1_3, .int .i64 a1_4, .int .i64 a1_5, .bool a1_6] 26 (0, 0)) (Zr BK296)) : gb296 ≠ gb306)); have n9_ := Aside0.mk ((by rw [hg]; exact Nat.ne_of_gt (blk_lt (g := gb296) (o := .cells #[.string a1_0, .string a1_1, .int .i64 a1_2, .int .i64 a1_3, .int .i64 a1_4, .int .i64 a1_5, .bool a1_6] 26 (0, 0)) (Zr BK296)) : gb306 ≠ gb296)); clear BK295; clear BK296; clear HB; have BK295 := n0_; have BK296 := n1_; have HB := n2_; have BK306 := n3_; have GW306 := n4_; have GE306 := n5_; have NB295_306 := n6_; have NB306_295 := n7_; have NB296_306 := n8_; have NB306_296 := n9_; clear n0_ n1_ n2_ n3_ n4_ n5_ n6_ n7_ n8_ n9_; clear hb hbox hg; have hnb27 := NB306_295.out; have hnc27 := NB295_306.out; have hnb28 := NB306_296.out; have hnc28 := NB296_306.out; obtain ⟨⟨hcz29_0, hcz29_1, hcz29_2, hcz29_3, hcz29_4, hcz29_5, hcz29_6⟩, hfz29_0, hfz29_1, hfz29_2, hfz29_3, hfz29_4, hfz29_5, hfz29_6⟩ := Zk7 BK306; obtain ⟨⟨hcz30_0, hcz30_1⟩, hfz30_0, hfz30_1⟩ := Zk2 BK295) | ((with_reducible refine gate_callee (f := 15) rfl ?_); refine goesL_ (some 30) rfl rfl Try.func15 (by kernel_rfl) rfl #[.agg #[.string a0_0, .slice A0_1 l0_1.length c0_1], .string a2, .int .i64 a3] rfl (by (try simp only [List.map_toArray, List.map_cons, List.map_nil]); first | done | rfl | (simp only [List.length_drop, List.length_take]; rfl)) ?_; (with_reducible refine (palinoderef19_Begin.calls k a0_0 _ _ l0_1 a2 a3 t307 t308 t309 t310 t311 t312 t313 true _ ?side1 ?side2 A7.out).mono ?_); (case side1 => exact Kd.C_below HR0_1.out (Yr HB)); (case side2 => exact HC0_1.out); rintro e w31 ⟨rfl, hb⟩; refine ⟨_, rfl, ?_⟩; have n0_ := Aside0.mk (Zv BK295 hb); have n1_ := Aside0.mk (Zv BK296 hb); have n2_ := Aside0.mk (Zb (g := gb306) (o := .cells #[.string t298, .string t299, .int .i64 t300, .int .i64 t301, .int .i64 t302, .int .i64 t303, .bool t304] 26 (0, 0)) (by (with_reducible repeat (first | refine Zn ?_ _ | refine Zd ?_ | refine Za ?_ _)); refine Zp (cs := #[.string t298, .string t299, .int .i64 t300, .int .i64 t301, .int .i64 t302, .int .i64 t303, .bool false]) ?_ 6 _ rfl; (with_reducible repeat (first | refine Zn ?_ _ | refine Zd ?_ | refine Za ?_ _)); refine Zp (cs := #[.string t298, .string t299, .int .i64 t300, .int .i64 t301, .int .i64 t302, .int .i64 0, .bool false]) ?_ 5 _ rfl; (with_reducible repeat (first | refine Zn ?_ _ | refine Zd ?_ | refine Za ?_ _)); refine Zp (cs := #[.string t298, .string t299, .int .i64 t300, .int .i64 t301, .int .i64 0, .int .i64 0, .bool false]) ?_ 4 _ rfl; (with_reducible repeat (first | refine Zn ?_ _ | refine Zd ?_ | refine Za ?_ _)); refine Zp (cs := #[.string t298, .string t299, .int .i64 t300, .int .i64 0, .int .i64 0, .int .i64 0, .bool false]) ?_ 3 _ rfl; (with_reducible repeat (first | refine Zn ?_ _ | refine Zd ?_ | refine Za ?_ _)); refine Zp (cs := #[.string t298, .string t299, .int .i64 0, .int .i64 0, .int .i64 0, .int .i64 0, .bool false]) ?_ 2 _ rfl; (with_reducible repeat (first | refine Zn ?_ _ | refine Zd ?_ | refine Za ?_ _)); refine Zp (cs := #[.string t298, .string (⟨#[]⟩ : ByteArray), .int .i64 0, .int .i64 0, .int .i64 0, .int .i64 0, .bool false]) ?_ 1 _ rfl; (with_reducible repeat (first | refine Zn ?_ _ | refine Zd ?_ | refine Za ?_ _)); refine Zp (cs := #[.string (⟨#[]⟩ : ByteArray), .string (⟨#[]⟩ : ByteArray), .int .i64 0, .int .i64 0, .int .i64 0, .int .i64 0, .bool false]) ?_ 0 _ rfl; (with_reducible repeat (first | refine Zn ?_ _ | refine Zd ?_ | refine Za ?_ _)); exact BK306.out) hb); have n3_ := Aside0.mk (Yv HB hb); clear BK295; clear BK296; clear BK306; clear HB; have BK295 := n0_; have BK296 := n1_; have BK306 := n2_; have HB := n3_; clear n0_ n1_ n2_ n3_; (try clear hb); (try clear hb2); (try clear hk); (try clear hi)) | ((with_reducible refine gate_dst (N := 12) rfl ?_); refine box_event ?hg (N := 12) ?hd (cs := #[.string (⟨#[]⟩ : ByteArray), .string (⟨#[]⟩ : ByteArray), .int .i64 0, .int .i64 0, .int .i64 0, .int .i64 0, .bool false]) (t := 26) ?hr ?_; (case hd => rfl); (case hg => rfl); (case hr => first | (go_simp; done) | (go_simp; rfl)); intro gb315 hg w32 hbox hb; have n0_ := Aside0.mk (Zv BK295 hb); have n1_ := Aside0.mk (Zv BK296 hb); have n2_ := Aside0.mk (Zv BK306 hb); have n3_ := Aside0.mk (Yv HB hb); have n4_ := Aside0.mk (hbox); have n5_ := Aside0.mk ((by rw [hg]; exact (below_size (Yr HB)) : w.heap.size ≤ gb315)); have n6_ := Aside0.mk ((by rw [hg]; exact (below_size (Yr HB)) : w.heap.size ≤ gb315)); have n7_ := Aside0.mk ((by rw [hg]; exact Nat.ne_of_lt (blk_lt (g := gb295) (o := .cells #[.string a0_0, .slice A0_1 l0_1.length c0_1] 24 (0, 0)) (Zr BK295)) : gb295 ≠ gb315)); have n8_ := Aside0.mk ((by rw [hg]; exact Nat.ne_of_gt (blk_lt (g := gb295) (o := .cells #[.string a0_0, .slice A0_1 l0_1.length c0_1] 24 (0, 0)) (Zr BK295)) : gb315 ≠ gb295)); have n9_ := Aside0.mk ((by rw [hg]; exact Nat.ne_of_lt (blk_lt (g := gb296) (o := .cells #[.string a1_0, .string a1_1, .int .i64 a1_2, .int .i64 a1_3, .int .i64 a1_4, .int .i64 a1_5, .bool a1_6] 26 (0, 0)) (Zr BK296)) : gb296 ≠ gb315)); have n10_ := Aside0.mk ((by rw [hg]; exact Nat.ne_of_gt (blk_lt (g := gb296) (o := .cells #[.string a1_0, .string a1_1, .int .i64 a1_2, .int .i64 a1_3, .int .i64 a1_4, .int .i64 a1_5, .bool a1_6] 26 (0, 0)) (Zr BK296)) : gb315 ≠ gb296)); have n11_ := Aside0.mk ((by rw [hg]; exact Nat.ne_of_lt (blk_lt (g := gb306) (o := .cells #[.string t298, .string t299, .int .i64 t300, .int .i64 t301, .int .i64 t302, .int .i64 t303, .bool t304] 26 (0, 0)) (Zr BK306)) : gb306 ≠ gb315)); have n12_ := Aside0.mk ((by rw [hg]; exact Nat.ne_of_gt (blk_lt (g := gb306) (o := .cells #[.string t298, .string t299, .int .i64 t300, .int .i64 t301, .int .i64 t302, .int .i64 t303, .bool t304] 26 (0, 0)) (Zr BK306)) : gb315 ≠ gb306)); clear BK295; clear BK296; clear BK306; clear HB; have BK295 := n0_; have BK296 := n1_; have BK306 := n2_; have HB := n3_; have BK315 := n4_; have GW315 := n5_; have GE315 := n6_; have NB295_315 := n7_; have NB315_295 := n8_; have NB296_315 := n9_; have NB315_296 := n10_; have NB306_315 := n11_; have NB315_306 := n12_; clear n0_ n1_ n2_ n3_ n4_ n5_ n6_ n7_ n8_ n9_ n10_ n11_ n12_; clear hb hbox hg; have hnb33 := NB315_295.out; have hnc33 := NB295_315.out; have hnb34 := NB315_296.out; have hnc34 := NB296_315.out; have hnb35 := NB315_306.out; have hnc35 := NB306_315.out; obtain ⟨⟨hcz36_0, hcz36_1, hcz36_2, hcz36_3, hcz36_4, hcz36_5, hcz36_6⟩, hfz36_0, hfz36_1, hfz36_2, hfz36_3, hfz36_4, hfz36_5, hfz36_6⟩ := Zk7 BK315; obtain ⟨⟨hcz37_0, hcz37_1, hcz37_2, hcz37_3, hcz37_4, hcz37_5, hcz37_6⟩, hfz37_0, hfz37_1, hfz37_2, hfz37_3, hfz37_4, hfz37_5, hfz37_6⟩ := Zk7 BK296) | ((with_reducible refine gate_callee (f := 16) rfl ?_); refine goesL_ (some 35) rfl rfl Try.func16 (by kernel_rfl) rfl #[.agg #[.string a1_0, .string a1_1, .int .i64 a1_2, .int .i64 a1_3, .int .i64 a1_4, .int .i64 a1_5, .bool a1_6]] rfl (by (try simp only [List.map_toArray, List.map_cons, List.map_nil]); first | done | rfl | (simp only [List.length_drop, List.length_take]; rfl)) ?_; (with_reducible refine (saga_Command.calls a1_0 a1_1 a1_2 a1_3 a1_4 a1_5 a1_6 t316 t317 t318 t319 t320 _ A8.out).mono ?_); rintro e w38 ⟨rfl, hb⟩; refine ⟨_, rfl, ?_⟩; have n0_ := Aside0.mk (Zv BK295 hb); have n1_ := Aside0.mk (Zv BK296 hb); have n2_ := Aside0.mk (Zv BK306 hb); have n3_ := Aside0.mk (Zb (g := gb315) (o := .cells #[.string t307, .string t308, .int .i64 t309, .int .i64 t310, .int .i64 t311, .int .i64 t312, .bool t313] 26 (0, 0)) (by (with_reducible repeat (first | refine Zn ?_ _ | refine Zd ?_ | refine Za ?_ _)); refine Zp (cs := #[.string t307, .string t308, .int .i64 t309, .int .i64 t310, .int .i64 t311, .int .i64 t312, .bool false]) ?_ 6 _ rfl; (with_reducible repeat (first | refine Zn ?_ _ | refine Zd ?_ | refine Za ?_ _)); refine Zp (cs := #[.string t307, .string t308, .int .i64 t309, .int .i64 t310, .int .i64 t311, .int .i64 0, .bool false]) ?_ 5 _ rfl; (with_reducible repeat (first | refine Zn ?_ _ | refine Zd ?_ | refine Za ?_ _)); refine Zp (cs := #[.string t307, .string t308, .int .i64 t309, .int .i64 t310, .int .i64 0, .int .i64 0, .bool false]) ?_ 4 _ rfl; (with_reducible repeat (first | refine Zn ?_ _ | refine Zd ?_ | refine Za ?_ _)); refine Zp (cs := #[.string t307, .string t308, .int .i64 t309, .int .i64 0, .int .i64 0, .int .i64 0, .bool false]) ?_ 3 _ rfl; (with_reducible repeat (first | refine Zn ?_ _ | refine Zd ?_ | refine Za ?_ _)); refine Zp (cs := #[.string t307, .string t308, .int .i64 0, .int .i64 0, .int .i64 0, .int .i64 0, .bool false]) ?_ 2 _ rfl; (with_reducible repeat (first | refine Zn ?_ _ | refine Zd ?_ | refine Za ?_ _)); refine Zp (cs := #[.string t307, .string (⟨#[]⟩ : ByteArray), .int .i64 0, .int .i64 0, .int .i64 0, .int .i64 0, .bool false]) ?_ 1 _ rfl; (with_reducible repeat (first | refine Zn ?_ _ | refine Zd ?_ | refine Za ?_ _)); refine Zp (cs := #[.string (⟨#[]⟩ : ByteArray), .string (⟨#[]⟩ : ByteArray), .int .i64 0, .int .i64 0, .int .i64 0, .int .i64 0, .bool false]) ?_ 0 _ rfl; (with_reducible repeat (first | refine Zn ?_ _ | refine Zd ?_ | refine Za ?_ _)); exact BK315.out) hb); have n4_ := Aside0.mk (Yv HB hb); clear BK295; clear BK296; clear BK306; clear BK315; clear HB; have BK295 := n0_; have BK296 := n1_; have BK306 := n2_; have BK315 := n3_; have HB := n4_; clear n0_ n1_ n2_ n3_ n4_; (try clear hb); (try clear hb2); (try clear hk); (try clear hi)) | ((with_reducible refine gate_dst (N := 14) rfl ?_); refine box_event ?hg (N := 14) ?hd (cs := #[.string (⟨#[]⟩ : ByteArray), .int .i64 0, .int .i64 0, .int .i64 0]) (t := 35) ?hr ?_; (case hd => rfl); (case hg => rfl); (case hr => first | (go_simp; done) | (go_simp; rfl)); intro gb321 hg w39 hbox hb; have n0_ := Aside0.mk (Zv BK295 hb); have n1_ := Aside0.mk (Zv BK296 hb); have n2_ := Aside0.mk (Zv BK306 hb); have n3_ := Aside0.mk (Zv BK315 hb); have n4_ := Aside0.mk (Yv HB hb); have n5_ := Aside0.mk (hbox); have n6_ := Aside0.mk ((by rw [hg]; exact (below_size (Yr HB)) : w.heap.size ≤ gb321)); have n7_ := Aside0.mk ((by rw [hg]; exact (below_size (Yr HB)) : w.heap.size ≤ gb321)); have n8_ := Aside0.mk ((by rw [hg]; exact Nat.ne_of_lt (blk_lt (g := gb295) (o := .cells #[.string a0_0, .slice A0_1 l0_1.length c0_1] 24 (0, 0)) (Zr BK295)) : gb295 ≠ gb321)); have n9_ := Aside0.mk ((by rw [hg]; exact Nat.ne_of_gt (blk_lt (g := gb295) (o := .cells #[.string a0_0, .slice A0_1 l0_1.length c0_1] 24 (0, 0)) (Zr BK295)) : gb321 ≠ gb295)); have n10_ := Aside0.mk ((by rw [hg]; exact Nat.ne_of_lt (blk_lt (g := gb296) (o := .cells #[.string a1_0, .string a1_1, .int .i64 a1_2, .int .i64 a1_3, .int .i64 a1_4, .int .i64 a1_5, .bool a1_6] 26 (0, 0)) (Zr BK296)) : gb296 ≠ gb321)); have n11_ := Aside0.mk ((by rw [hg]; exact Nat.ne_of_gt (blk_lt (g := gb296) (o := .cells #[.string a1_0, .string a1_1, .int .i64 a1_2, .int .i64 a1_3, .int .i64 a1_4, .int .i64 a1_5, .bool a1_6] 26 (0, 0)) (Zr BK296)) : gb321 ≠ gb296)); have n12_ := Aside0.mk ((by rw [hg]; exact Nat.ne_of_lt (blk_lt (g := gb306) (o := .cells #[.string t298, .string t299, .int .i64 t300, .int .i64 t301, .int .i64 t302, .int .i64 t303, .bool t304] 26 (0, 0)) (Zr BK306)) : gb306 ≠ gb321)); have n13_ := Aside0.mk ((by rw [hg]; exact Nat.ne_of_gt (blk_lt (g := gb306) (o := .cells #[.string t298, .string t299, .int .i64 t300, .int .i64 t301, .int .i64 t302, .int .i64 t303, .bool t304] 26 (0, 0)) (Zr BK306)) : gb321 ≠ gb306)); have n14_ := Aside0.mk ((by rw [hg]; exact Nat.ne_of_lt (blk_lt (g := gb315) (o := .cells #[.string t307, .string t308, .int .i64 t309, .int .i64 t310, .int .i64 t311, .int .i64 t312, .bool t313] 26 (0, 0)) (Zr BK315)) : gb315 ≠ gb321)); have n15_ := Aside0.mk ((by rw [hg]; exact Nat.ne_of_gt (blk_lt (g := gb315) (o := .cells #[.string t307, .string t308, .int .i64 t309, .int .i64 t310, .int .i64 t311, .int .i64 t312, .bool t313] 26 (0, 0)) (Zr BK315)) : gb321 ≠ gb315)); clear BK295; clear BK296; clear BK306; clear BK315; clear HB; have BK295 := n0_; have BK296 := n1_; have BK306 := n2_; have BK315 := n3_; have HB := n4_; have BK321 := n5_; have GW321 := n6_; have GE321 := n7_; have NB295_321 := n8_; have NB321_295 := n9_; have NB296_321 := n10_; have NB321_296 := n11_; have NB306_321 := n12_; have NB321_306 := n13_; have NB315_321 := n14_; have NB321_315 := n15_; clear n0_ n1_ n2_ n3_ n4_ n5_ n6_ n7_ n8_ n9_ n10_ n11_ n12_ n13_ n14_ n15_; clear hb hbox hg; have hnb40 := NB321_295.out; have hnc40 := NB295_321.out; have hnb41 := NB321_296.out; have hnc41 := NB296_321.out; have hnb42 := NB321_306.out; have hnc42 := NB306_321.out; have hnb43 := NB321_315.out; have hnc43 := NB315_321.out; obtain ⟨⟨hcz44_0, hcz44_1, hcz44_2, hcz44_3⟩, hfz44_0, hfz44_1, hfz44_2, hfz44_3⟩ := Zk4 BK321; obtain ⟨⟨hcz45_0, hcz45_1, hcz45_2, hcz45_3, hcz45_4, hcz45_5, hcz45_6⟩, hfz45_0, hfz45_1, hfz45_2, hfz45_3, hfz45_4, hfz45_5, hfz45_6⟩ := Zk7 BK296) | ((with_reducible refine gate_callee (f := 17) rfl ?_); refine goesL_ (some 40) rfl rfl Try.func17 (by kernel_rfl) rfl #[.agg #[.string a1_0, .string a1_1, .int .i64 a1_2, .int .i64 a1_3, .int .i64 a1_4, .int .i64 a1_5, .bool a1_6]] rfl (by (try simp only [List.map_toArray, List.map_cons, List.map_nil]); first | done | rfl | (simp only [List.length_drop, List.length_take]; rfl)) ?_; (with_reducible refine (palinoderef19_Command.calls a1_0 a1_1 a1_2 a1_3 a1_4 a1_5 a1_6 t322 t323 t324 t325 t326 _ A9.out).mono ?_); rintro e w46 ⟨rfl, hb⟩; refine ⟨_, rfl, ?_⟩; have n0_ := Aside0.mk (Zv BK295 hb); have n1_ := Aside0.mk (Zv BK296 hb); have n2_ := Aside0.mk (Zv BK306 hb); have n3_ := Aside0.mk (Zv BK315 hb); have n4_ := Aside0.mk (Zb (g := gb321) (o := .cells #[.string t316, .int .i64 t317, .int .i64 t318, .int .i64 t319] 35 (0, 0)) (by (with_reducible repeat (first | refine Zn ?_ _ | refine Zd ?_ | refine Za ?_ _)); refine Zp (cs := #[.string t316, .int .i64 t317, .int .i64 t318, .int .i64 0]) ?_ 3 _ rfl; (with_reducible repeat (first | refine Zn ?_ _ | refine Zd ?_ | refine Za ?_ _)); refine Zp (cs := #[.string t316, .int .i64 t317, .int .i64 0, .int .i64 0]) ?_ 2 _ rfl; (with_reducible repeat (first | refine Zn ?_ _ | refine Zd ?_ | refine Za ?_ _)); refine Zp (cs := #[.string t316, .int .i64 0, .int .i64 0, .int .i64 0]) ?_ 1 _ rfl; (with_reducible repeat (first | refine Zn ?_ _ | refine Zd ?_ | refine Za ?_ _)); refine Zp (cs := #[.string (⟨#[]⟩ : ByteArray), .int .i64 0, .int .i64 0, .int .i64 0]) ?_ 0 _ rfl; (with_reducible repeat (first | refine Zn ?_ _ | refine Zd ?_ | refine Za ?_ _)); exact BK321.out) hb); have n5_ := Aside0.mk (Yv HB hb); clear BK295; clear BK296; clear BK306; clear BK315; clear BK321; clear HB; have BK295 := n0_; have BK296 := n1_; have BK306 := n2_; have BK315 := n3_; have BK321 := n4_; have HB := n5_; clear n0_ n1_ n2_ n3_ n4_ n5_; (try clear hb); (try clear hb2); (try clear hk); (try clear hi)) | ((with_reducible refine gate_dst (N := 16) rfl ?_); refine box_event ?hg (N := 16) ?hd (cs := #[.string (⟨#[]⟩ : ByteArray), .int .i64 0, .int .i64 0, .int .i64 0]) (t := 35) ?hr ?_; (case hd => rfl); (case hg => rfl); (case hr => first | (go_simp; done) | (go_simp; rfl)); intro gb327 hg w47 hbox hb; have n0_ := Aside0.mk (Zv BK295 hb); have n1_ := Aside0.mk (Zv BK296 hb); have n2_ := Aside0.mk (Zv BK306 hb); have n3_ := Aside0.mk (Zv BK315 hb); have n4_ := Aside0.mk (Zv BK321 hb); have n5_ := Aside0.mk (Yv HB hb); have n6_ := Aside0.mk (hbox); have n7_ := Aside0.mk ((by rw [hg]; exact (below_size (Yr HB)) : w.heap.size ≤ gb327)); have n8_ := Aside0.mk ((by rw [hg]; exact (below_size (Yr HB)) : w.heap.size ≤ gb327)); have n9_ := Aside0.mk ((by rw [hg]; exact Nat.ne_of_lt (blk_lt (g := gb295) (o := .cells #[.string a0_0, .slice A0_1 l0_1.length c0_1] 24 (0, 0)) (Zr BK295)) : gb295 ≠ gb327)); have n10_ := Aside0.mk ((by rw [hg]; exact Nat.ne_of_gt (blk_lt (g := gb295) (o := .cells #[.string a0_0, .slice A0_1 l0_1.length c0_1] 24 (0, 0)) (Zr BK295)) : gb327 ≠ gb295)); have n11_ := Aside0.mk ((by rw [hg]; exact Nat.ne_of_lt (blk_lt (g := gb296) (o := .cells #[.string a1_0, .string a1_1, .int .i64 a1_2, .int .i64 a1_3, .int .i64 a1_4, .int .i64 a1_5, .bool a1_6] 26 (0, 0)) (Zr BK296)) : gb296 ≠ gb327)); have n12_ := Aside0.mk ((by rw [hg]; exact Nat.ne_of_gt (blk_lt (g := gb296) (o := .cells #[.string a1_0, .string a1_1, .int .i64 a1_2, .int .i64 a1_3, .int .i64 a1_4, .int .i64 a1_5, .bool a1_6] 26 (0, 0)) (Zr BK296)) : gb327 ≠ gb296)); have n13_ := Aside0.mk ((by rw [hg]; exact Nat.ne_of_lt (blk_lt (g := gb306) (o := .cells #[.string t298, .string t299, .int .i64 t300, .int .i64 t301, .int .i64 t302, .int .i64 t303, .bool t304] 26 (0, 0)) (Zr BK306)) : gb306 ≠ gb327)); have n14_ := Aside0.mk ((by rw [hg]; exact Nat.ne_of_gt (blk_lt (g := gb306) (o := .cells #[.string t298, .string t299, .int .i64 t300, .int .i64 t301, .int .i64 t302, .int .i64 t303, .bool t304] 26 (0, 0)) (Zr BK306)) : gb327 ≠ gb306)); have n15_ := Aside0.mk ((by rw [hg]; exact Nat.ne_of_lt (blk_lt (g := gb315) (o := .cells #[.string t307, .string t308, .int .i64 t309, .int .i64 t310, .int .i64 t311, .int .i64 t312, .bool t313] 26 (0, 0)) (Zr BK315)) : gb315 ≠ gb327)); have n16_ := Aside0.mk ((by rw [hg]; exact Nat.ne_of_gt (blk_lt (g := gb315) (o := .cells #[.string t307, .string t308, .int .i64 t309, .int .i64 t310, .int .i64 t311, .int .i64 t312, .bool t313] 26 (0, 0)) (Zr BK315)) : gb327 ≠ gb315)); have n17_ := Aside0.mk ((by rw [hg]; exact Nat.ne_of_lt (blk_lt (g := gb321) (o := .cells #[.string t316, .int .i64 t317, .int .i64 t318, .int .i64 t319] 35 (0, 0)) (Zr BK321)) : gb321 ≠ gb327)); have n18_ := Aside0.mk ((by rw [hg]; exact Nat.ne_of_gt (blk_lt (g := gb321) (o := .cells #[.string t316, .int .i64 t317, .int .i64 t318, .int .i64 t319] 35 (0, 0)) (Zr BK321)) : gb327 ≠ gb321)); clear BK295; clear BK296; clear BK306; clear BK315; clear BK321; clear HB; have BK295 := n0_; have BK296 := n1_; have BK306 := n2_; have BK315 := n3_; have BK321 := n4_; have HB := n5_; have BK327 := n6_; have GW327 := n7_; have GE327 := n8_; have NB295_327 := n9_; have NB327_295 := n10_; have NB296_327 := n11_; have NB327_296 := n12_; have NB306_327 := n13_; have NB327_306 := n14_; have NB315_327 := n15_; have NB327_315 := n16_; have NB321_327 := n17_; have NB327_321 := n18_; clear n0_ n1_ n2_ n3_ n4_ n5_ n6_ n7_ n8_ n9_ n10_ n11_ n12_ n13_ n14_ n15_ n16_ n17_ n18_; clear hb hbox hg; have hnb48 := NB327_295.out; have hnc48 := NB295_327.out; have hnb49 := NB327_296.out; have hnc49 := NB296_327.out; have hnb50 := NB327_306.out; have hnc50 := NB306_327.out; have hnb51 := NB327_315.out; have hnc51 := NB315_327.out; have hnb52 := NB327_321.out; have hnc52 := NB321_327.out; obtain ⟨⟨hcz53_0, hcz53_1, hcz53_2, hcz53_3⟩, hfz53_0, hfz53_1, hfz53_2, hfz53_3⟩ := Zk4 BK327))
        have n0_ : Aside0 (((((w47.setCell ⟨gb327, 0, none⟩ (.string t322)).setCell ⟨gb327, 1, none⟩ (.int .i64 t323)).setCell ⟨gb327, 2, none⟩ (.int .i64 t324)).setCell ⟨gb327, 3, none⟩ (.int .i64 t325)).heap[gb295]? = some (.cells #[.string a0_0, .slice A0_1 l0_1.length c0_1] 24 (0, 0))) := ⟨by (with_reducible repeat (first | refine Zn ?_ _ | refine Zd ?_ | refine Za ?_ _)); refine Zq ?_ NB295_327.out _; (with_reducible repeat (first | refine Zn ?_ _ | refine Zd ?_ | refine Za ?_ _)); refine Zq ?_ NB295_327.out _; (with_reducible repeat (first | refine Zn ?_ _ | refine Zd ?_ | refine Za ?_ _)); refine Zq ?_ NB295_327.out _; (with_reducible repeat (first | refine Zn ?_ _ | refine Zd ?_ | refine Za ?_ _)); refine Zq ?_ NB295_327.out _; (with_reducible repeat (first | refine Zn ?_ _ | refine Zd ?_ | refine Za ?_ _)); exact BK295.out⟩
        have n1_ : Aside0 (((((w47.setCell ⟨gb327, 0, none⟩ (.string t322)).setCell ⟨gb327, 1, none⟩ (.int .i64 t323)).setCell ⟨gb327, 2, none⟩ (.int .i64 t324)).setCell ⟨gb327, 3, none⟩ (.int .i64 t325)).heap[gb296]? = some (.cells #[.string a1_0, .string a1_1, .int .i64 a1_2, .int .i64 a1_3, .int .i64 a1_4, .int .i64 a1_5, .bool a1_6] 26 (0, 0))) := ⟨by (with_reducible repeat (first | refine Zn ?_ _ | refine Zd ?_ | refine Za ?_ _)); refine Zq ?_ NB296_327.out _; (with_reducible repeat (first | refine Zn ?_ _ | refine Zd ?_ | refine Za ?_ _)); refine Zq ?_ NB296_327.out _; (with_reducible repeat (first | refine Zn ?_ _ | refine Zd ?_ | refine Za ?_ _)); refine Zq ?_ NB296_327.out _; (with_reducible repeat (first | refine Zn ?_ _ | refine Zd ?_ | refine Za ?_ _)); refine Zq ?_ NB296_327.out _; (with_reducible repeat (first | refine Zn ?_ _ | refine Zd ?_ | refine Za ?_ _)); exact BK296.out⟩
        have n2_ : Aside0 (((((w47.setCell ⟨gb327, 0, none⟩ (.string t322)).setCell ⟨gb327, 1, none⟩ (.int .i64 t323)).setCell ⟨gb327, 2, none⟩ (.int .i64 t324)).setCell ⟨gb327, 3, none⟩ (.int .i64 t325)).heap[gb306]? = some (.cells #[.string t298, .string t299, .int .i64 t300, .int .i64 t301, .int .i64 t302, .int .i64 t303, .bool t304] 26 (0, 0))) := ⟨by (with_reducible repeat (first | refine Zn ?_ _ | refine Zd ?_ | refine Za ?_ _)); refine Zq ?_ NB306_327.out _; (with_reducible repeat (first | refine Zn ?_ _ | refine Zd ?_ | refine Za ?_ _)); refine Zq ?_ NB306_327.out _; (with_reducible repeat (first | refine Zn ?_ _ | refine Zd ?_ | refine Za ?_ _)); refine Zq ?_ NB306_327.out _; (with_reducible repeat (first | refine Zn ?_ _ | refine Zd ?_ | refine Za ?_ _)); refine Zq ?_ NB306_327.out _; (with_reducible repeat (first | refine Zn ?_ _ | refine Zd ?_ | refine Za ?_ _)); exact BK306.out⟩
        have n3_ : Aside0 (((((w47.setCell ⟨gb327, 0, none⟩ (.string t322)).setCell ⟨gb327, 1, none⟩ (.int .i64 t323)).setCell ⟨gb327, 2, none⟩ (.int .i64 t324)).setCell ⟨gb327, 3, none⟩ (.int .i64 t325)).heap[gb315]? = some (.cells #[.string t307, .string t308, .int .i64 t309, .int .i64 t310, .int .i64 t311, .int .i64 t312, .bool t313] 26 (0, 0))) := ⟨by (with_reducible repeat (first | refine Zn ?_ _ | refine Zd ?_ | refine Za ?_ _)); refine Zq ?_ NB315_327.out _; (with_reducible repeat (first | refine Zn ?_ _ | refine Zd ?_ | refine Za ?_ _)); refine Zq ?_ NB315_327.out _; (with_reducible repeat (first | refine Zn ?_ _ | refine Zd ?_ | refine Za ?_ _)); refine Zq ?_ NB315_327.out _; (with_reducible repeat (first | refine Zn ?_ _ | refine Zd ?_ | refine Za ?_ _)); refine Zq ?_ NB315_327.out _; (with_reducible repeat (first | refine Zn ?_ _ | refine Zd ?_ | refine Za ?_ _)); exact BK315.out⟩
        have n4_ : Aside0 (((((w47.setCell ⟨gb327, 0, none⟩ (.string t322)).setCell ⟨gb327, 1, none⟩ (.int .i64 t323)).setCell ⟨gb327, 2, none⟩ (.int .i64 t324)).setCell ⟨gb327, 3, none⟩ (.int .i64 t325)).heap[gb321]? = some (.cells #[.string t316, .int .i64 t317, .int .i64 t318, .int .i64 t319] 35 (0, 0))) := ⟨by (with_reducible repeat (first | refine Zn ?_ _ | refine Zd ?_ | refine Za ?_ _)); refine Zq ?_ NB321_327.out _; (with_reducible repeat (first | refine Zn ?_ _ | refine Zd ?_ | refine Za ?_ _)); refine Zq ?_ NB321_327.out _; (with_reducible repeat (first | refine Zn ?_ _ | refine Zd ?_ | refine Za ?_ _)); refine Zq ?_ NB321_327.out _; (with_reducible repeat (first | refine Zn ?_ _ | refine Zd ?_ | refine Za ?_ _)); refine Zq ?_ NB321_327.out _; (with_reducible repeat (first | refine Zn ?_ _ | refine Zd ?_ | refine Za ?_ _)); exact BK321.out⟩
        have n5_ : Aside0 (((((w47.setCell ⟨gb327, 0, none⟩ (.string t322)).setCell ⟨gb327, 1, none⟩ (.int .i64 t323)).setCell ⟨gb327, 2, none⟩ (.int .i64 t324)).setCell ⟨gb327, 3, none⟩ (.int .i64 t325)).heap[gb327]? = some (.cells #[.string t322, .int .i64 t323, .int .i64 t324, .int .i64 t325] 35 (0, 0))) := ⟨by (with_reducible repeat (first | refine Zn ?_ _ | refine Zd ?_ | refine Za ?_ _)); refine Zp (cs := #[.string t322, .int .i64 t323, .int .i64 t324, .int .i64 0]) ?_ 3 _ rfl; (with_reducible repeat (first | refine Zn ?_ _ | refine Zd ?_ | refine Za ?_ _)); refine Zp (cs := #[.string t322, .int .i64 t323, .int .i64 0, .int .i64 0]) ?_ 2 _ rfl; (with_reducible repeat (first | refine Zn ?_ _ | refine Zd ?_ | refine Za ?_ _)); refine Zp (cs := #[.string t322, .int .i64 0, .int .i64 0, .int .i64 0]) ?_ 1 _ rfl; (with_reducible repeat (first | refine Zn ?_ _ | refine Zd ?_ | refine Za ?_ _)); refine Zp (cs := #[.string (⟨#[]⟩ : ByteArray), .int .i64 0, .int .i64 0, .int .i64 0]) ?_ 0 _ rfl; (with_reducible repeat (first | refine Zn ?_ _ | refine Zd ?_ | refine Za ?_ _)); exact BK327.out⟩
        have n6_ : Aside0 (Below w.heap.size w ((((w47.setCell ⟨gb327, 0, none⟩ (.string t322)).setCell ⟨gb327, 1, none⟩ (.int .i64 t323)).setCell ⟨gb327, 2, none⟩ (.int .i64 t324)).setCell ⟨gb327, 3, none⟩ (.int .i64 t325))) := ⟨Yr HB⟩
        (try clear BK295)
        (try clear BK296)
        (try clear BK306)
        (try clear BK315)
        (try clear BK321)
        (try clear BK327)
        (try clear HB)
        generalize ((((w47.setCell ⟨gb327, 0, none⟩ (.string t322)).setCell ⟨gb327, 1, none⟩ (.int .i64 t323)).setCell ⟨gb327, 2, none⟩ (.int .i64 t324)).setCell ⟨gb327, 3, none⟩ (.int .i64 t325)) = w54 at n0_ n1_ n2_ n3_ n4_ n5_ n6_ ⊢
        have BK295 := n0_
        have BK296 := n1_
        have BK306 := n2_
        have BK315 := n3_
        have BK321 := n4_
        have BK327 := n5_
        have HB := n6_
        clear n0_ n1_ n2_ n3_ n4_ n5_ n6_
        have n0_ := Aside0.mk (Zd BK295.out)
        have n1_ := Aside0.mk (Zd BK296.out)
        have n2_ := Aside0.mk (Zd BK306.out)
        have n3_ := Aside0.mk (Zd BK315.out)
        have n4_ := Aside0.mk (Zd BK321.out)
        have n5_ := Aside0.mk (Zd BK327.out)
        have n6_ := Aside0.mk (Yd HB.out)
        clear BK295
        clear BK296
        clear BK306
        clear BK315
        clear BK321
        clear BK327
        clear HB
        have BK295 := n0_
        have BK296 := n1_
        have BK306 := n2_
        have BK315 := n3_
        have BK321 := n4_
        have BK327 := n5_
        have HB := n6_
        clear n0_ n1_ n2_ n3_ n4_ n5_ n6_
        refine start_ (n := 48) (S := fun w' => w'.cell? ⟨gb295, 0, none⟩ = some (.string a0_0) ∧ w'.cell? ⟨gb295, 1, none⟩ = some (.slice A0_1 l0_1.length c0_1) ∧ w'.cell? ⟨gb296, 0, none⟩ = some (.string a1_0) ∧ w'.cell? ⟨gb296, 1, none⟩ = some (.string a1_1) ∧ w'.cell? ⟨gb296, 2, none⟩ = some (.int .i64 a1_2) ∧ w'.cell? ⟨gb296, 3, none⟩ = some (.int .i64 a1_3) ∧ w'.cell? ⟨gb296, 4, none⟩ = some (.int .i64 a1_4) ∧ w'.cell? ⟨gb296, 5, none⟩ = some (.int .i64 a1_5) ∧ w'.cell? ⟨gb296, 6, none⟩ = some (.bool a1_6) ∧ w'.cell? ⟨gb306, 0, none⟩ = some (.string t298) ∧ w'.cell? ⟨gb306, 1, none⟩ = some (.string t299) ∧ w'.cell? ⟨gb306, 2, none⟩ = some (.int .i64 t300) ∧ w'.cell? ⟨gb306, 3, none⟩ = some (.int .i64 t301) ∧ w'.cell? ⟨gb306, 4, none⟩ = some (.int .i64 t302) ∧ w'.cell? ⟨gb306, 5, none⟩ = some (.int .i64 t303) ∧ w'.cell? ⟨gb306, 6, none⟩ = some (.bool t304) ∧ w'.cell? ⟨gb315, 0, none⟩ = some (.string t307) ∧ w'.cell? ⟨gb315, 1, none⟩ = some (.string t308) ∧ w'.cell? ⟨gb315, 2, none⟩ = some (.int .i64 t309) ∧ w'.cell? ⟨gb315, 3, none⟩ = some (.int .i64 t310) ∧ w'.cell? ⟨gb315, 4, none⟩ = some (.int .i64 t311) ∧ w'.cell? ⟨gb315, 5, none⟩ = some (.int .i64 t312) ∧ w'.cell? ⟨gb315, 6, none⟩ = some (.bool t313) ∧ w'.cell? ⟨gb321, 0, none⟩ = some (.string t316) ∧ w'.cell? ⟨gb321, 1, none⟩ = some (.int .i64 t317) ∧ w'.cell? ⟨gb321, 2, none⟩ = some (.int .i64 t318) ∧ w'.cell? ⟨gb321, 3, none⟩ = some (.int .i64 t319) ∧ w'.cell? ⟨gb327, 0, none⟩ = some (.string t322) ∧ w'.cell? ⟨gb327, 1, none⟩ = some (.int .i64 t323) ∧ w'.cell? ⟨gb327, 2, none⟩ = some (.int .i64 t324) ∧ w'.cell? ⟨gb327, 3, none⟩ = some (.int .i64 t325)) (ds := []) #[false, false, false, false, false, false, false, false, false, false, false, false, false, false, false, false, false, false, false, false, false, false, false, false, false, false, false, false, false, false, false, false, false, false, false, false, false, false, false, false, false, false, false, false, false, false, false, false] (by kernel_rfl) rfl rfl ⟨(Zc BK295.out 0).trans rfl, (Zc BK295.out 1).trans rfl, (Zc BK296.out 0).trans rfl, (Zc BK296.out 1).trans rfl, (Zc BK296.out 2).trans rfl, (Zc BK296.out 3).trans rfl, (Zc BK296.out 4).trans rfl, (Zc BK296.out 5).trans rfl, (Zc BK296.out 6).trans rfl, (Zc BK306.out 0).trans rfl, (Zc BK306.out 1).trans rfl, (Zc BK306.out 2).trans rfl, (Zc BK306.out 3).trans rfl, (Zc BK306.out 4).trans rfl, (Zc BK306.out 5).trans rfl, (Zc BK306.out 6).trans rfl, (Zc BK315.out 0).trans rfl, (Zc BK315.out 1).trans rfl, (Zc BK315.out 2).trans rfl, (Zc BK315.out 3).trans rfl, (Zc BK315.out 4).trans rfl, (Zc BK315.out 5).trans rfl, (Zc BK315.out 6).trans rfl, (Zc BK321.out 0).trans rfl, (Zc BK321.out 1).trans rfl, (Zc BK321.out 2).trans rfl, (Zc BK321.out 3).trans rfl, (Zc BK327.out 0).trans rfl, (Zc BK327.out 1).trans rfl, (Zc BK327.out 2).trans rfl, (Zc BK327.out 3).trans rfl⟩ (fun hHeld => ?_); refine with_tabW palinodelaw19_SagaTells.tab6 palinodelaw19_SagaTells.bits6 (fun HT_ HW_ => ?_)
        generalize w54.drew = w55 at BK295 BK296 BK306 BK315 BK321 BK327 HB hHeld ⊢
        refine pure_ (i := 0) (N := some 43) (v := ?_) (a' := ?_) #[true, false, false, false, false, false, false, false, false, false, false, false, false, false, false, false, false, false, false, false, false, false, false, false, false, false, false, false, false, false, false, false, false, false, false, false, false, false, false, false, false, false, false, false, false, false, false, false] rfl rfl (any_of HT_.out (by kernel_rfl)) (fun _ _ _ h => h) (Or.inl ⟨by rfl, ?_⟩) ?_ ?_
        rotate_left
        ·
         intro w'
         go_simp
         with_reducible rfl
        rotate_left
        ·
         simp only [Act.put, List.setIfInBounds_toArray, List.set_cons_zero, List.set_cons_succ, i64_w, i32_w]
         rfl
        refine pure_ (i := 1) (N := some 44) (v := ?_) (a' := ?_) #[true, true, false, false, false, false, false, false, false, false, false, false, false, false, false, false, false, false, false, false, false, false, false, false, false, false, false, false, false, false, false, false, false, false, false, false, false, false, false, false, false, false, false, false, false, false, false, false] rfl rfl (any_of HT_.out (by kernel_rfl)) (fun _ _ _ h => h) (Or.inl ⟨by rfl, ?_⟩) ?_ ?_
        rotate_left
        ·
         intro w'
         go_simp
         with_reducible rfl
        rotate_left
        ·
         simp only [Act.put, List.setIfInBounds_toArray, List.set_cons_zero, List.set_cons_succ, i64_w, i32_w]
         rfl
        refine take_ (i := 2) (N := some 45) (v := ?_) (a' := ?_) #[true, true, true, false, false, false, false, false, false, false, false, false, false, false, false, false, false, false, false, false, false, false, false, false, false, false, false, false, false, false, false, false, false, false, false, false, false, false, false, false, false, false, false, false, false, false, false, false] rfl rfl (take_ofW HT_.out HW_.out (by kernel_rfl)) (fun _ _ _ h => h) (Or.inl ⟨by rfl, ?_⟩) hHeld ?_ ?_
        rotate_left
        ·
         rintro w' ⟨s0, s1, s2, s3, s4, s5, s6, s7, s8, s9, s10, s11, s12, s13, s14, s15, s16, s17, s18, s19, s20, s21, s22, s23, s24, s25, s26, s27, s28, s29, s30⟩
         go_simp
         with_reducible rfl
        rotate_left
        ·
         simp only [Act.put, List.setIfInBounds_toArray, List.set_cons_zero, List.set_cons_succ, i64_w, i32_w]
         rfl
        refine take_ (i := 3) (N := some 46) (v := ?_) (a' := ?_) #[true, true, true, true, false, false, false, false, false, false, false, false, false, false, false, false, false, false, false, false, false, false, false, false, false, false, false, false, false, false, false, false, false, false, false, false, false, false, false, false, false, false, false, false, false, false, false, false] rfl rfl (take_ofW HT_.out HW_.out (by kernel_rfl)) (fun _ _ _ h => h) (Or.inl ⟨by rfl, ?_⟩) hHeld ?_ ?_
        rotate_left
        ·
         rintro w' ⟨s0, s1, s2, s3, s4, s5, s6, s7, s8, s9, s10, s11, s12, s13, s14, s15, s16, s17, s18, s19, s20, s21, s22, s23, s24, s25, s26, s27, s28, s29, s30⟩
         go_simp
         with_reducible rfl
        rotate_left
        ·
         simp only [Act.put, List.setIfInBounds_toArray, List.set_cons_zero, List.set_cons_succ, i64_w, i32_w]
         rfl
        refine take_ (i := 5) (N := some 48) (v := ?_) (a' := ?_) #[true, true, true, true, false, true, false, false, false, false, false, false, false, false, false, false, false, false, false, false, false, false, false, false, false, false, false, false, false, false, false, false, false, false, false, false, false, false, false, false, false, false, false, false, false, false, false, false] rfl rfl (take_ofW HT_.out HW_.out (by kernel_rfl)) (fun _ _ _ h => h) (Or.inl ⟨by rfl, ?_⟩) hHeld ?_ ?_
        rotate_left
        ·
         rintro w' ⟨s0, s1, s2, s3, s4, s5, s6, s7, s8, s9, s10, s11, s12, s13, s14, s15, s16, s17, s18, s19, s20, s21, s22, s23, s24, s25, s26, s27, s28, s29, s30⟩
         go_simp
         with_reducible rfl
        rotate_left
        ·
         simp only [Act.put, List.setIfInBounds_toArray, List.set_cons_zero, List.set_cons_succ, i64_w, i32_w]
         rfl
        refine take_ (i := 6) (N := some 49) (v := ?_) (a' := ?_) #[true, true, true, true, false, true, true, false, false, false, false, false, false, false, false, false, false, false, false, false, false, false, false, false, false, false, false, false, false, false, false, false, false, false, false, false, false, false, false, false, false, false, false, false, false, false, false, false] rfl rfl (take_ofW HT_.out HW_.out (by kernel_rfl)) (fun _ _ _ h => h) (Or.inl ⟨by rfl, ?_⟩) hHeld ?_ ?_
        rotate_left
        ·
         rintro w' ⟨s0, s1, s2, s3, s4, s5, s6, s7, s8, s9, s10, s11, s12, s13, s14, s15, s16, s17, s18, s19, s20, s21, s22, s23, s24, s25, s26, s27, s28, s29, s30⟩
         go_simp
         with_reducible rfl
        rotate_left
        ·
         simp only [Act.put, List.setIfInBounds_toArray, List.set_cons_zero, List.set_cons_succ, i64_w, i32_w]
         rfl
        refine one_ (i := 4) (N := some 47) #[true, true, true, true, true, true, true, false, false, false, false, false, false, false, false, false, false, false, false, false, false, false, false, false, false, false, false, false, false, false, false, false, false, false, false, false, false, false, false, false, false, false, false, false, false, false, false, false] rfl rfl (one_of HT_.out (by kernel_rfl)) (by decide) (fun K hK => ?_)
        refine goes_ Try.func18 (by kernel_rfl) rfl #[.agg #[.string a0_0, .slice A0_1 l0_1.length c0_1], .agg #[.string a1_0, .string a1_1, .int .i64 a1_2, .int .i64 a1_3, .int .i64 a1_4, .int .i64 a1_5, .bool a1_6]] (by rfl) rfl rfl (by (try simp only [List.map_toArray, List.map_cons, List.map_nil]); first | done | rfl | (simp only [List.length_drop, List.length_take]; rfl)) ?_
        with_reducible refine (saga_Right.calls k a0_0 _ _ l0_1 a1_0 a1_1 a1_2 a1_3 a1_4 a1_5 a1_6 t328 _ ?side1 ?side2 A11.out).mono ?_
        (case side1 => repeat (first | exact (Kd.C_below HR0_1.out HB.out) | (with_reducible refine Kd.C_alloc ?_ _) | (with_reducible refine Kd.C_drewN ?_ _) | (with_reducible refine Kd.C_drew ?_)))
        (case side2 => exact HC0_1.out)
        rintro e w56 ⟨rfl, hb⟩
        refine ⟨_, rfl, ?_⟩
        have n0_ := Aside0.mk (Zv BK295 hb)
        have n1_ := Aside0.mk (Zv BK296 hb)
        have n2_ := Aside0.mk (Zv BK306 hb)
        have n3_ := Aside0.mk (Zv BK315 hb)
        have n4_ := Aside0.mk (Zv BK321 hb)
        have n5_ := Aside0.mk (Zv BK327 hb)
        have n6_ := Aside0.mk (Yv HB hb)
        clear BK295
        clear BK296
        clear BK306
        clear BK315
        clear BK321
        clear BK327
        clear HB
        have BK295 := n0_
        have BK296 := n1_
        have BK306 := n2_
        have BK315 := n3_
        have BK321 := n4_
        have BK327 := n5_
        have HB := n6_
        clear n0_ n1_ n2_ n3_ n4_ n5_ n6_
        (try clear hb)
        (try clear hb2)
        (try clear hk)
        (try clear hi)
        refine hK.out _ _ ⟨(Zc BK295.out 0).trans rfl, (Zc BK295.out 1).trans rfl, (Zc BK296.out 0).trans rfl, (Zc BK296.out 1).trans rfl, (Zc BK296.out 2).trans rfl, (Zc BK296.out 3).trans rfl, (Zc BK296.out 4).trans rfl, (Zc BK296.out 5).trans rfl, (Zc BK296.out 6).trans rfl, (Zc BK306.out 0).trans rfl, (Zc BK306.out 1).trans rfl, (Zc BK306.out 2).trans rfl, (Zc BK306.out 3).trans rfl, (Zc BK306.out 4).trans rfl, (Zc BK306.out 5).trans rfl, (Zc BK306.out 6).trans rfl, (Zc BK315.out 0).trans rfl, (Zc BK315.out 1).trans rfl, (Zc BK315.out 2).trans rfl, (Zc BK315.out 3).trans rfl, (Zc BK315.out 4).trans rfl, (Zc BK315.out 5).trans rfl, (Zc BK315.out 6).trans rfl, (Zc BK321.out 0).trans rfl, (Zc BK321.out 1).trans rfl, (Zc BK321.out 2).trans rfl, (Zc BK321.out 3).trans rfl, (Zc BK327.out 0).trans rfl, (Zc BK327.out 1).trans rfl, (Zc BK327.out 2).trans rfl, (Zc BK327.out 3).trans rfl⟩ (fun hHeld => ?_)
        clear hK K
        refine norm_ (a' := ?_) ?_ ?_
        rotate_left
        ·
         show Act.put _ (some 47) _ = _
         simp only [Act.put, List.setIfInBounds_toArray, List.set_cons_zero, List.set_cons_succ, i64_w, i32_w]
         rfl
        refine one_ (i := 7) (N := some 50) #[true, true, true, true, true, true, true, true, false, false, false, false, false, false, false, false, false, false, false, false, false, false, false, false, false, false, false, false, false, false, false, false, false, false, false, false, false, false, false, false, false, false, false, false, false, false, false, false] rfl rfl (one_of HT_.out (by kernel_rfl)) (by decide) (fun K hK => ?_)
        refine goes_ Try.func19 (by kernel_rfl) rfl #[.agg #[.string a0_0, .slice A0_1 l0_1.length c0_1], .agg #[.string a1_0, .string a1_1, .int .i64 a1_2, .int .i64 a1_3, .int .i64 a1_4, .int .i64 a1_5, .bool a1_6]] (by rfl) rfl rfl (by (try simp only [List.map_toArray, List.map_cons, List.map_nil]); first | done | rfl | (simp only [List.length_drop, List.length_take]; rfl)) ?_
        with_reducible refine (palinoderef19_Right.calls k a0_0 _ _ l0_1 a1_0 a1_1 a1_2 a1_3 a1_4 a1_5 a1_6 t329 _ ?side1 ?side2 A12.out).mono ?_
        (case side1 => repeat (first | exact (Kd.C_below HR0_1.out HB.out) | (with_reducible refine Kd.C_alloc ?_ _) | (with_reducible refine Kd.C_drewN ?_ _) | (with_reducible refine Kd.C_drew ?_)))
        (case side2 => exact HC0_1.out)
        rintro e w57 ⟨rfl, hb⟩
        refine ⟨_, rfl, ?_⟩
        have n0_ := Aside0.mk (Zv BK295 hb)
        have n1_ := Aside0.mk (Zv BK296 hb)
        have n2_ := Aside0.mk (Zv BK306 hb)
        have n3_ := Aside0.mk (Zv BK315 hb)
        have n4_ := Aside0.mk (Zv BK321 hb)
        have n5_ := Aside0.mk (Zv BK327 hb)
        have n6_ := Aside0.mk (Yv HB hb)
        clear BK295
        clear BK296
        clear BK306
        clear BK315
        clear BK321
        clear BK327
        clear HB
        have BK295 := n0_
        have BK296 := n1_
        have BK306 := n2_
        have BK315 := n3_
        have BK321 := n4_
        have BK327 := n5_
        have HB := n6_
        clear n0_ n1_ n2_ n3_ n4_ n5_ n6_
        (try clear hb)
        (try clear hb2)
        (try clear hk)
        (try clear hi)
        refine hK.out _ _ ⟨(Zc BK295.out 0).trans rfl, (Zc BK295.out 1).trans rfl, (Zc BK296.out 0).trans rfl, (Zc BK296.out 1).trans rfl, (Zc BK296.out 2).trans rfl, (Zc BK296.out 3).trans rfl, (Zc BK296.out 4).trans rfl, (Zc BK296.out 5).trans rfl, (Zc BK296.out 6).trans rfl, (Zc BK306.out 0).trans rfl, (Zc BK306.out 1).trans rfl, (Zc BK306.out 2).trans rfl, (Zc BK306.out 3).trans rfl, (Zc BK306.out 4).trans rfl, (Zc BK306.out 5).trans rfl, (Zc BK306.out 6).trans rfl, (Zc BK315.out 0).trans rfl, (Zc BK315.out 1).trans rfl, (Zc BK315.out 2).trans rfl, (Zc BK315.out 3).trans rfl, (Zc BK315.out 4).trans rfl, (Zc BK315.out 5).trans rfl, (Zc BK315.out 6).trans rfl, (Zc BK321.out 0).trans rfl, (Zc BK321.out 1).trans rfl, (Zc BK321.out 2).trans rfl, (Zc BK321.out 3).trans rfl, (Zc BK327.out 0).trans rfl, (Zc BK327.out 1).trans rfl, (Zc BK327.out 2).trans rfl, (Zc BK327.out 3).trans rfl⟩ (fun hHeld => ?_)
        clear hK K
        refine norm_ (a' := ?_) ?_ ?_
        rotate_left
        ·
         show Act.put _ (some 50) _ = _
         simp only [Act.put, List.setIfInBounds_toArray, List.set_cons_zero, List.set_cons_succ, i64_w, i32_w]
         rfl
        refine pure_ (i := 8) (N := some 51) (v := ?_) (a' := ?_) #[true, true, true, true, true, true, true, true, true, false, false, false, false, false, false, false, false, false, false, false, false, false, false, false, false, false, false, false, false, false, false, false, false, false, false, false, false, false, false, false, false, false, false, false, false, false, false, false] rfl rfl (any_of HT_.out (by kernel_rfl)) (fun _ _ _ h => h) (Or.inl ⟨by rfl, ?_⟩) ?_ ?_
        rotate_left
        ·
         intro w'
         go_simp
         with_reducible rfl
        rotate_left
        ·
         simp only [Act.put, List.setIfInBounds_toArray, List.set_cons_zero, List.set_cons_succ, i64_w, i32_w]
         rfl
        refine pure_ (i := 9) (N := some 52) (v := ?_) (a' := ?_) #[true, true, true, true, true, true, true, true, true, true, false, false, false, false, false, false, false, false, false, false, false, false, false, false, false, false, false, false, false, false, false, false, false, false, false, false, false, false, false, false, false, false, false, false, false, false, false, false] rfl rfl (any_of HT_.out (by kernel_rfl)) (fun _ _ _ h => h) (Or.inl ⟨by rfl, ?_⟩) ?_ ?_
        rotate_left
        ·
         intro w'
         go_simp
         with_reducible rfl
        rotate_left
        ·
         simp only [Act.put, List.setIfInBounds_toArray, List.set_cons_zero, List.set_cons_succ, i64_w, i32_w]
         rfl
        refine pure_ (i := 10) (N := some 53) (v := ?_) (a' := ?_) #[true, true, true, true, true, true, true, true, true, true, true, false, false, false, false, false, false, false, false, false, false, false, false, false, false, false, false, false, false, false, false, false, false, false, false, false, false, false, false, false, false, false, false, false, false, false, false, false] rfl rfl (any_of HT_.out (by kernel_rfl)) (fun _ _ _ h => h) (Or.inl ⟨by rfl, ?_⟩) ?_ ?_
        rotate_left
        ·
         intro w'
         go_simp
         with_reducible rfl
        rotate_left
        ·
         simp only [Act.put, List.setIfInBounds_toArray, List.set_cons_zero, List.set_cons_succ, i64_w, i32_w]
         rfl
        refine take_ (i := 11) (N := some 54) (v := ?_) (a' := ?_) #[true, true, true, true, true, true, true, true, true, true, true, true, false, false, false, false, false, false, false, false, false, false, false, false, false, false, false, false, false, false, false, false, false, false, false, false, false, false, false, false, false, false, false, false, false, false, false, false] rfl rfl (take_ofW HT_.out HW_.out (by kernel_rfl)) (fun _ _ _ h => h) (Or.inl ⟨by rfl, ?_⟩) hHeld ?_ ?_
        rotate_left
        ·
         rintro w' ⟨s0, s1, s2, s3, s4, s5, s6, s7, s8, s9, s10, s11, s12, s13, s14, s15, s16, s17, s18, s19, s20, s21, s22, s23, s24, s25, s26, s27, s28, s29, s30⟩
         go_simp
         with_reducible rfl
        rotate_left
        ·
         simp only [Act.put, List.setIfInBounds_toArray, List.set_cons_zero, List.set_cons_succ, i64_w, i32_w]
         rfl
        refine take_ (i := 13) (N := some 56) (v := ?_) (a' := ?_) #[true, true, true, true, true, true, true, true, true, true, true, true, false, true, false, false, false, false, false, false, false, false, false, false, false, false, false, false, false, false, false, false, false, false, false, false, false, false, false, false, false, false, false, false, false, false, false, false] rfl rfl (take_ofW HT_.out HW_.out (by kernel_rfl)) (fun _ _ _ h => h) (Or.inl ⟨by rfl, ?_⟩) hHeld ?_ ?_
        rotate_left
        ·
         rintro w' ⟨s0, s1, s2, s3, s4, s5, s6, s7, s8, s9, s10, s11, s12, s13, s14, s15, s16, s17, s18, s19, s20, s21, s22, s23, s24, s25, s26, s27, s28, s29, s30⟩
         go_simp
         with_reducible rfl
        rotate_left
        ·
         simp only [Act.put, List.setIfInBounds_toArray, List.set_cons_zero, List.set_cons_succ, i64_w, i32_w]
         rfl
        refine one_ (i := 12) (N := some 55) #[true, true, true, true, true, true, true, true, true, true, true, true, true, true, false, false, false, false, false, false, false, false, false, false, false, false, false, false, false, false, false, false, false, false, false, false, false, false, false, false, false, false, false, false, false, false, false, false] rfl rfl (one_of HT_.out (by kernel_rfl)) (by decide) (fun K hK => ?_)
        refine goes_ Try.func20 (by kernel_rfl) rfl #[.agg #[.string a1_0, .string a1_1, .int .i64 a1_2, .int .i64 a1_3, .int .i64 a1_4, .int .i64 a1_5, .bool a1_6]] (by rfl) rfl rfl (by (try simp only [List.map_toArray, List.map_cons, List.map_nil]); first | done | rfl | (simp only [List.length_drop, List.length_take]; rfl)) ?_
        with_reducible refine (saga_Live.calls a1_0 a1_1 a1_2 a1_3 a1_4 a1_5 a1_6 t330 _ A14.out).mono ?_
        rintro e w58 ⟨rfl, hb⟩
        refine ⟨_, rfl, ?_⟩
        have n0_ := Aside0.mk (Zv BK295 hb)
        have n1_ := Aside0.mk (Zv BK296 hb)
        have n2_ := Aside0.mk (Zv BK306 hb)
        have n3_ := Aside0.mk (Zv BK315 hb)
        have n4_ := Aside0.mk (Zv BK321 hb)
        have n5_ := Aside0.mk (Zv BK327 hb)
        have n6_ := Aside0.mk (Yv HB hb)
        clear BK295
        clear BK296
        clear BK306
        clear BK315
        clear BK321
        clear BK327
        clear HB
        have BK295 := n0_
        have BK296 := n1_
        have BK306 := n2_
        have BK315 := n3_
        have BK321 := n4_
        have BK327 := n5_
        have HB := n6_
        clear n0_ n1_ n2_ n3_ n4_ n5_ n6_
        (try clear hb)
        (try clear hb2)
        (try clear hk)
        (try clear hi)
        refine hK.out _ _ ⟨(Zc BK295.out 0).trans rfl, (Zc BK295.out 1).trans rfl, (Zc BK296.out 0).trans rfl, (Zc BK296.out 1).trans rfl, (Zc BK296.out 2).trans rfl, (Zc BK296.out 3).trans rfl, (Zc BK296.out 4).trans rfl, (Zc BK296.out 5).trans rfl, (Zc BK296.out 6).trans rfl, (Zc BK306.out 0).trans rfl, (Zc BK306.out 1).trans rfl, (Zc BK306.out 2).trans rfl, (Zc BK306.out 3).trans rfl, (Zc BK306.out 4).trans rfl, (Zc BK306.out 5).trans rfl, (Zc BK306.out 6).trans rfl, (Zc BK315.out 0).trans rfl, (Zc BK315.out 1).trans rfl, (Zc BK315.out 2).trans rfl, (Zc BK315.out 3).trans rfl, (Zc BK315.out 4).trans rfl, (Zc BK315.out 5).trans rfl, (Zc BK315.out 6).trans rfl, (Zc BK321.out 0).trans rfl, (Zc BK321.out 1).trans rfl, (Zc BK321.out 2).trans rfl, (Zc BK321.out 3).trans rfl, (Zc BK327.out 0).trans rfl, (Zc BK327.out 1).trans rfl, (Zc BK327.out 2).trans rfl, (Zc BK327.out 3).trans rfl⟩ (fun hHeld => ?_)
        clear hK K
        refine norm_ (a' := ?_) ?_ ?_
        rotate_left
        ·
         show Act.put _ (some 55) _ = _
         simp only [Act.put, List.setIfInBounds_toArray, List.set_cons_zero, List.set_cons_succ, i64_w, i32_w]
         rfl
        refine one_ (i := 14) (N := some 57) #[true, true, true, true, true, true, true, true, true, true, true, true, true, true, true, false, false, false, false, false, false, false, false, false, false, false, false, false, false, false, false, false, false, false, false, false, false, false, false, false, false, false, false, false, false, false, false, false] rfl rfl (one_of HT_.out (by kernel_rfl)) (by decide) (fun K hK => ?_)
        refine goes_ Try.func21 (by kernel_rfl) rfl #[.agg #[.string a1_0, .string a1_1, .int .i64 a1_2, .int .i64 a1_3, .int .i64 a1_4, .int .i64 a1_5, .bool a1_6]] (by rfl) rfl rfl (by (try simp only [List.map_toArray, List.map_cons, List.map_nil]); first | done | rfl | (simp only [List.length_drop, List.length_take]; rfl)) ?_
        with_reducible refine (palinoderef19_Live.calls a1_0 a1_1 a1_2 a1_3 a1_4 a1_5 a1_6 t331 _ A15.out).mono ?_
        rintro e w59 ⟨rfl, hb⟩
        refine ⟨_, rfl, ?_⟩
        have n0_ := Aside0.mk (Zv BK295 hb)
        have n1_ := Aside0.mk (Zv BK296 hb)
        have n2_ := Aside0.mk (Zv BK306 hb)
        have n3_ := Aside0.mk (Zv BK315 hb)
        have n4_ := Aside0.mk (Zv BK321 hb)
        have n5_ := Aside0.mk (Zv BK327 hb)
        have n6_ := Aside0.mk (Yv HB hb)
        clear BK295
        clear BK296
        clear BK306
        clear BK315
        clear BK321
        clear BK327
        clear HB
        have BK295 := n0_
        have BK296 := n1_
        have BK306 := n2_
        have BK315 := n3_
        have BK321 := n4_
        have BK327 := n5_
        have HB := n6_
        clear n0_ n1_ n2_ n3_ n4_ n5_ n6_
        (try clear hb)
        (try clear hb2)
        (try clear hk)
        (try clear hi)
        refine hK.out _ _ ⟨(Zc BK295.out 0).trans rfl, (Zc BK295.out 1).trans rfl, (Zc BK296.out 0).trans rfl, (Zc BK296.out 1).trans rfl, (Zc BK296.out 2).trans rfl, (Zc BK296.out 3).trans rfl, (Zc BK296.out 4).trans rfl, (Zc BK296.out 5).trans rfl, (Zc BK296.out 6).trans rfl, (Zc BK306.out 0).trans rfl, (Zc BK306.out 1).trans rfl, (Zc BK306.out 2).trans rfl, (Zc BK306.out 3).trans rfl, (Zc BK306.out 4).trans rfl, (Zc BK306.out 5).trans rfl, (Zc BK306.out 6).trans rfl, (Zc BK315.out 0).trans rfl, (Zc BK315.out 1).trans rfl, (Zc BK315.out 2).trans rfl, (Zc BK315.out 3).trans rfl, (Zc BK315.out 4).trans rfl, (Zc BK315.out 5).trans rfl, (Zc BK315.out 6).trans rfl, (Zc BK321.out 0).trans rfl, (Zc BK321.out 1).trans rfl, (Zc BK321.out 2).trans rfl, (Zc BK321.out 3).trans rfl, (Zc BK327.out 0).trans rfl, (Zc BK327.out 1).trans rfl, (Zc BK327.out 2).trans rfl, (Zc BK327.out 3).trans rfl⟩ (fun hHeld => ?_)
        clear hK K
        refine norm_ (a' := ?_) ?_ ?_
        rotate_left
        ·
         show Act.put _ (some 57) _ = _
         simp only [Act.put, List.setIfInBounds_toArray, List.set_cons_zero, List.set_cons_succ, i64_w, i32_w]
         rfl
        refine pure_ (i := 15) (N := some 58) (v := ?_) (a' := ?_) #[true, true, true, true, true, true, true, true, true, true, true, true, true, true, true, true, false, false, false, false, false, false, false, false, false, false, false, false, false, false, false, false, false, false, false, false, false, false, false, false, false, false, false, false, false, false, false, false] rfl rfl (any_of HT_.out (by kernel_rfl)) (fun _ _ _ h => h) (Or.inl ⟨by rfl, ?_⟩) ?_ ?_
        rotate_left
        ·
         intro w'
         go_simp
         with_reducible rfl
        rotate_left
        ·
         simp only [Act.put, List.setIfInBounds_toArray, List.set_cons_zero, List.set_cons_succ, i64_w, i32_w]
         rfl
        refine pure_ (i := 16) (N := some 59) (v := ?_) (a' := ?_) #[true, true, true, true, true, true, true, true, true, true, true, true, true, true, true, true, true, false, false, false, false, false, false, false, false, false, false, false, false, false, false, false, false, false, false, false, false, false, false, false, false, false, false, false, false, false, false, false] rfl rfl (any_of HT_.out (by kernel_rfl)) (fun _ _ _ h => h) (Or.inl ⟨by rfl, ?_⟩) ?_ ?_
        rotate_left
        ·
         intro w'
         go_simp
         with_reducible rfl
        rotate_left
        ·
         simp only [Act.put, List.setIfInBounds_toArray, List.set_cons_zero, List.set_cons_succ, i64_w, i32_w]
         rfl
        refine pure_ (i := 17) (N := some 60) (v := ?_) (a' := ?_) #[true, true, true, true, true, true, true, true, true, true, true, true, true, true, true, true, true, true, false, false, false, false, false, false, false, false, false, false, false, false, false, false, false, false, false, false, false, false, false, false, false, false, false, false, false, false, false, false] rfl rfl (any_of HT_.out (by kernel_rfl)) (fun _ _ _ h => h) (Or.inl ⟨by rfl, ?_⟩) ?_ ?_
        rotate_left
        ·
         intro w'
         go_simp
         with_reducible rfl
        rotate_left
        ·
         simp only [Act.put, List.setIfInBounds_toArray, List.set_cons_zero, List.set_cons_succ, i64_w, i32_w]
         rfl
        refine take_ (i := 18) (N := some 61) (v := ?_) (a' := ?_) #[true, true, true, true, true, true, true, true, true, true, true, true, true, true, true, true, true, true, true, false, false, false, false, false, false, false, false, false, false, false, false, false, false, false, false, false, false, false, false, false, false, false, false, false, false, false, false, false] rfl rfl (take_ofW HT_.out HW_.out (by kernel_rfl)) (fun _ _ _ h => h) (Or.inl ⟨by rfl, ?_⟩) hHeld ?_ ?_
        rotate_left
        ·
         rintro w' ⟨s0, s1, s2, s3, s4, s5, s6, s7, s8, s9, s10, s11, s12, s13, s14, s15, s16, s17, s18, s19, s20, s21, s22, s23, s24, s25, s26, s27, s28, s29, s30⟩
         go_simp
         with_reducible rfl
        rotate_left
        ·
         simp only [Act.put, List.setIfInBounds_toArray, List.set_cons_zero, List.set_cons_succ, i64_w, i32_w]
         rfl
        refine take_ (i := 19) (N := some 62) (v := ?_) (a' := ?_) #[true, true, true, true, true, true, true, true, true, true, true, true, true, true, true, true, true, true, true, true, false, false, false, false, false, false, false, false, false, false, false, false, false, false, false, false, false, false, false, false, false, false, false, false, false, false, false, false] rfl rfl (take_ofW HT_.out HW_.out (by kernel_rfl)) (fun _ _ _ h => h) (Or.inl ⟨by rfl, ?_⟩) hHeld ?_ ?_
        rotate_left
        ·
         rintro w' ⟨s0, s1, s2, s3, s4, s5, s6, s7, s8, s9, s10, s11, s12, s13, s14, s15, s16, s17, s18, s19, s20, s21, s22, s23, s24, s25, s26, s27, s28, s29, s30⟩
         go_simp
         with_reducible rfl
        rotate_left
        ·
         simp only [Act.put, List.setIfInBounds_toArray, List.set_cons_zero, List.set_cons_succ, i64_w, i32_w]
         rfl
        refine pure_ (i := 20) (N := some 63) (v := ?_) (a' := ?_) #[true, true, true, true, true, true, true, true, true, true, true, true, true, true, true, true, true, true, true, true, true, false, false, false, false, false, false, false, false, false, false, false, false, false, false, false, false, false, false, false, false, false, false, false, false, false, false, false] rfl rfl (any_of HT_.out (by kernel_rfl)) (fun _ _ _ h => h) (Or.inl ⟨by rfl, ?_⟩) ?_ ?_
        rotate_left
        ·
         intro w'
         go_simp
         with_reducible rfl
        rotate_left
        ·
         simp only [Act.put, List.setIfInBounds_toArray, List.set_cons_zero, List.set_cons_succ, i64_w, i32_w]
         rfl
        refine pure_ (i := 21) (N := some 64) (v := ?_) (a' := ?_) #[true, true, true, true, true, true, true, true, true, true, true, true, true, true, true, true, true, true, true, true, true, true, false, false, false, false, false, false, false, false, false, false, false, false, false, false, false, false, false, false, false, false, false, false, false, false, false, false] rfl rfl (any_of HT_.out (by kernel_rfl)) (fun _ _ _ h => h) (Or.inl ⟨by rfl, ?_⟩) ?_ ?_
        rotate_left
        ·
         intro w'
         go_simp
         with_reducible rfl
        rotate_left
        ·
         simp only [Act.put, List.setIfInBounds_toArray, List.set_cons_zero, List.set_cons_succ, i64_w, i32_w]
         rfl
        refine pure_ (i := 22) (N := some 65) (v := ?_) (a' := ?_) #[true, true, true, true, true, true, true, true, true, true, true, true, true, true, true, true, true, true, true, true, true, true, true, false, false, false, false, false, false, false, false, false, false, false, false, false, false, false, false, false, false, false, false, false, false, false, false, false] rfl rfl (any_of HT_.out (by kernel_rfl)) (fun _ _ _ h => h) (Or.inl ⟨by rfl, ?_⟩) ?_ ?_
        rotate_left
        ·
         intro w'
         go_simp
         with_reducible rfl
        rotate_left
        ·
         simp only [Act.put, List.setIfInBounds_toArray, List.set_cons_zero, List.set_cons_succ, i64_w, i32_w]
         rfl
        refine pure_ (i := 23) (N := some 66) (v := ?_) (a' := ?_) #[true, true, true, true, true, true, true, true, true, true, true, true, true, true, true, true, true, true, true, true, true, true, true, true, false, false, false, false, false, false, false, false, false, false, false, false, false, false, false, false, false, false, false, false, false, false, false, false] rfl rfl (any_of HT_.out (by kernel_rfl)) (fun _ _ _ h => h) (Or.inl ⟨by rfl, ?_⟩) ?_ ?_
        rotate_left
        ·
         intro w'
         go_simp
         with_reducible rfl
        rotate_left
        ·
         simp only [Act.put, List.setIfInBounds_toArray, List.set_cons_zero, List.set_cons_succ, i64_w, i32_w]
         rfl
        refine pure_ (i := 24) (N := some 67) (v := ?_) (a' := ?_) #[true, true, true, true, true, true, true, true, true, true, true, true, true, true, true, true, true, true, true, true, true, true, true, true, true, false, false, false, false, false, false, false, false, false, false, false, false, false, false, false, false, false, false, false, false, false, false, false] rfl rfl (any_of HT_.out (by kernel_rfl)) (fun _ _ _ h => h) (Or.inl ⟨by rfl, ?_⟩) ?_ ?_
        rotate_left
        ·
         intro w'
         go_simp
         with_reducible rfl
        rotate_left
        ·
         simp only [Act.put, List.setIfInBounds_toArray, List.set_cons_zero, List.set_cons_succ, i64_w, i32_w]
         rfl
        refine pure_ (i := 25) (N := some 68) (v := ?_) (a' := ?_) #[true, true, true, true, true, true, true, true, true, true, true, true, true, true, true, true, true, true, true, true, true, true, true, true, true, true, false, false, false, false, false, false, false, false, false, false, false, false, false, false, false, false, false, false, false, false, false, false] rfl rfl (any_of HT_.out (by kernel_rfl)) (fun _ _ _ h => h) (Or.inl ⟨by rfl, ?_⟩) ?_ ?_
        rotate_left
        ·
         intro w'
         go_simp
         with_reducible rfl
        rotate_left
        ·
         simp only [Act.put, List.setIfInBounds_toArray, List.set_cons_zero, List.set_cons_succ, i64_w, i32_w]
         rfl
        refine pure_ (i := 26) (N := some 69) (v := ?_) (a' := ?_) #[true, true, true, true, true, true, true, true, true, true, true, true, true, true, true, true, true, true, true, true, true, true, true, true, true, true, true, false, false, false, false, false, false, false, false, false, false, false, false, false, false, false, false, false, false, false, false, false] rfl rfl (any_of HT_.out (by kernel_rfl)) (fun _ _ _ h => h) (Or.inl ⟨by rfl, ?_⟩) ?_ ?_
        rotate_left
        ·
         intro w'
         go_simp
         with_reducible rfl
        rotate_left
        ·
         simp only [Act.put, List.setIfInBounds_toArray, List.set_cons_zero, List.set_cons_succ, i64_w, i32_w]
         rfl
        refine pure_ (i := 27) (N := some 70) (v := ?_) (a' := ?_) #[true, true, true, true, true, true, true, true, true, true, true, true, true, true, true, true, true, true, true, true, true, true, true, true, true, true, true, true, false, false, false, false, false, false, false, false, false, false, false, false, false, false, false, false, false, false, false, false] rfl rfl (any_of HT_.out (by kernel_rfl)) (fun _ _ _ h => h) (Or.inl ⟨by rfl, ?_⟩) ?_ ?_
        rotate_left
        ·
         intro w'
         go_simp
         with_reducible rfl
        rotate_left
        ·
         simp only [Act.put, List.setIfInBounds_toArray, List.set_cons_zero, List.set_cons_succ, i64_w, i32_w]
         rfl
        refine pure_ (i := 28) (N := some 71) (v := ?_) (a' := ?_) #[true, true, true, true, true, true, true, true, true, true, true, true, true, true, true, true, true, true, true, true, true, true, true, true, true, true, true, true, true, false, false, false, false, false, false, false, false, false, false, false, false, false, false, false, false, false, false, false] rfl rfl (any_of HT_.out (by kernel_rfl)) (fun _ _ _ h => h) (Or.inl ⟨by rfl, ?_⟩) ?_ ?_
        rotate_left
        ·
         intro w'
         go_simp
         with_reducible rfl
        rotate_left
        ·
         simp only [Act.put, List.setIfInBounds_toArray, List.set_cons_zero, List.set_cons_succ, i64_w, i32_w]
         rfl
        refine pure_ (i := 29) (N := some 72) (v := undef) (a' := ?_) #[true, true, true, true, true, true, true, true, true, true, true, true, true, true, true, true, true, true, true, true, true, true, true, true, true, true, true, true, true, true, false, false, false, false, false, false, false, false, false, false, false, false, false, false, false, false, false, false] rfl rfl (any_of HT_.out (by kernel_rfl)) (fun _ _ _ h => h) (Or.inr ⟨by rfl, rfl⟩) ?_ ?_
        rotate_left
        ·
         simp only [Act.put, List.setIfInBounds_toArray, List.set_cons_zero, List.set_cons_succ, i64_w, i32_w]
         rfl
        refine pure_ (i := 30) (N := some 73) (v := undef) (a' := ?_) #[true, true, true, true, true, true, true, true, true, true, true, true, true, true, true, true, true, true, true, true, true, true, true, true, true, true, true, true, true, true, true, false, false, false, false, false, false, false, false, false, false, false, false, false, false, false, false, false] rfl rfl (any_of HT_.out (by kernel_rfl)) (fun _ _ _ h => h) (Or.inr ⟨by rfl, rfl⟩) ?_ ?_
        rotate_left
        ·
         simp only [Act.put, List.setIfInBounds_toArray, List.set_cons_zero, List.set_cons_succ, i64_w, i32_w]
         rfl
        refine pure_ (i := 31) (N := some 74) (v := undef) (a' := ?_) #[true, true, true, true, true, true, true, true, true, true, true, true, true, true, true, true, true, true, true, true, true, true, true, true, true, true, true, true, true, true, true, true, false, false, false, false, false, false, false, false, false, false, false, false, false, false, false, false] rfl rfl (any_of HT_.out (by kernel_rfl)) (fun _ _ _ h => h) (Or.inr ⟨by rfl, rfl⟩) ?_ ?_
        rotate_left
        ·
         simp only [Act.put, List.setIfInBounds_toArray, List.set_cons_zero, List.set_cons_succ, i64_w, i32_w]
         rfl
        refine pure_ (i := 32) (N := some 75) (v := undef) (a' := ?_) #[true, true, true, true, true, true, true, true, true, true, true, true, true, true, true, true, true, true, true, true, true, true, true, true, true, true, true, true, true, true, true, true, true, false, false, false, false, false, false, false, false, false, false, false, false, false, false, false] rfl rfl (any_of HT_.out (by kernel_rfl)) (fun _ _ _ h => h) (Or.inr ⟨by rfl, rfl⟩) ?_ ?_
        rotate_left
        ·
         simp only [Act.put, List.setIfInBounds_toArray, List.set_cons_zero, List.set_cons_succ, i64_w, i32_w]
         rfl
        refine pure_ (i := 33) (N := some 76) (v := undef) (a' := ?_) #[true, true, true, true, true, true, true, true, true, true, true, true, true, true, true, true, true, true, true, true, true, true, true, true, true, true, true, true, true, true, true, true, true, true, false, false, false, false, false, false, false, false, false, false, false, false, false, false] rfl rfl (any_of HT_.out (by kernel_rfl)) (fun _ _ _ h => h) (Or.inr ⟨by rfl, rfl⟩) ?_ ?_
        rotate_left
        ·
         simp only [Act.put, List.setIfInBounds_toArray, List.set_cons_zero, List.set_cons_succ, i64_w, i32_w]
         rfl
        refine pure_ (i := 34) (N := some 77) (v := undef) (a' := ?_) #[true, true, true, true, true, true, true, true, true, true, true, true, true, true, true, true, true, true, true, true, true, true, true, true, true, true, true, true, true, true, true, true, true, true, true, false, false, false, false, false, false, false, false, false, false, false, false, false] rfl rfl (any_of HT_.out (by kernel_rfl)) (fun _ _ _ h => h) (Or.inr ⟨by rfl, rfl⟩) ?_ ?_
        rotate_left
        ·
         simp only [Act.put, List.setIfInBounds_toArray, List.set_cons_zero, List.set_cons_succ, i64_w, i32_w]
         rfl
        refine pure_ (i := 35) (N := some 78) (v := ?_) (a' := ?_) #[true, true, true, true, true, true, true, true, true, true, true, true, true, true, true, true, true, true, true, true, true, true, true, true, true, true, true, true, true, true, true, true, true, true, true, true, false, false, false, false, false, false, false, false, false, false, false, false] rfl rfl (any_of HT_.out (by kernel_rfl)) (fun _ _ _ h => h) (Or.inl ⟨by rfl, ?_⟩) ?_ ?_
        rotate_left
        ·
         intro w'
         go_simp
         with_reducible rfl
        rotate_left
        ·
         simp only [Act.put, List.setIfInBounds_toArray, List.set_cons_zero, List.set_cons_succ, i64_w, i32_w]
         rfl
        refine pure_ (i := 36) (N := some 79) (v := ?_) (a' := ?_) #[true, true, true, true, true, true, true, true, true, true, true, true, true, true, true, true, true, true, true, true, true, true, true, true, true, true, true, true, true, true, true, true, true, true, true, true, true, false, false, false, false, false, false, false, false, false, false, false] rfl rfl (any_of HT_.out (by kernel_rfl)) (fun _ _ _ h => h) (Or.inl ⟨by rfl, ?_⟩) ?_ ?_
        rotate_left
        ·
         intro w'
         go_simp
         with_reducible rfl
        rotate_left
        ·
         simp only [Act.put, List.setIfInBounds_toArray, List.set_cons_zero, List.set_cons_succ, i64_w, i32_w]
         rfl
        refine pure_ (i := 37) (N := some 80) (v := ?_) (a' := ?_) #[true, true, true, true, true, true, true, true, true, true, true, true, true, true, true, true, true, true, true, true, true, true, true, true, true, true, true, true, true, true, true, true, true, true, true, true, true, true, false, false, false, false, false, false, false, false, false, false] rfl rfl (any_of HT_.out (by kernel_rfl)) (fun _ _ _ h => h) (Or.inl ⟨by rfl, ?_⟩) ?_ ?_
        rotate_left
        ·
         intro w'
         go_simp
         with_reducible rfl
        rotate_left
        ·
         simp only [Act.put, List.setIfInBounds_toArray, List.set_cons_zero, List.set_cons_succ, i64_w, i32_w]
         rfl
        refine take_ (i := 38) (N := some 81) (v := ?_) (a' := ?_) #[true, true, true, true, true, true, true, true, true, true, true, true, true, true, true, true, true, true, true, true, true, true, true, true, true, true, true, true, true, true, true, true, true, true, true, true, true, true, true, false, false, false, false, false, false, false, false, false] rfl rfl (take_ofW HT_.out HW_.out (by kernel_rfl)) (fun _ _ _ h => h) (Or.inl ⟨by rfl, ?_⟩) hHeld ?_ ?_
        rotate_left
        ·
         rintro w' ⟨s0, s1, s2, s3, s4, s5, s6, s7, s8, s9, s10, s11, s12, s13, s14, s15, s16, s17, s18, s19, s20, s21, s22, s23, s24, s25, s26, s27, s28, s29, s30⟩
         go_simp
         with_reducible rfl
        rotate_left
        ·
         simp only [Act.put, List.setIfInBounds_toArray, List.set_cons_zero, List.set_cons_succ, i64_w, i32_w]
         rfl
        refine take_ (i := 39) (N := some 82) (v := ?_) (a' := ?_) #[true, true, true, true, true, true, true, true, true, true, true, true, true, true, true, true, true, true, true, true, true, true, true, true, true, true, true, true, true, true, true, true, true, true, true, true, true, true, true, true, false, false, false, false, false, false, false, false] rfl rfl (take_ofW HT_.out HW_.out (by kernel_rfl)) (fun _ _ _ h => h) (Or.inl ⟨by rfl, ?_⟩) hHeld ?_ ?_
        rotate_left
        ·
         rintro w' ⟨s0, s1, s2, s3, s4, s5, s6, s7, s8, s9, s10, s11, s12, s13, s14, s15, s16, s17, s18, s19, s20, s21, s22, s23, s24, s25, s26, s27, s28, s29, s30⟩
         go_simp
         with_reducible rfl
        rotate_left
        ·
         simp only [Act.put, List.setIfInBounds_toArray, List.set_cons_zero, List.set_cons_succ, i64_w, i32_w]
         rfl
        refine pure_ (i := 40) (N := some 83) (v := ?_) (a' := ?_) #[true, true, true, true, true, true, true, true, true, true, true, true, true, true, true, true, true, true, true, true, true, true, true, true, true, true, true, true, true, true, true, true, true, true, true, true, true, true, true, true, true, false, false, false, false, false, false, false] rfl rfl (any_of HT_.out (by kernel_rfl)) (fun _ _ _ h => h) (Or.inl ⟨by rfl, ?_⟩) ?_ ?_
        rotate_left
        ·
         intro w'
         go_simp
         with_reducible rfl
        rotate_left
        ·
         simp only [Act.put, List.setIfInBounds_toArray, List.set_cons_zero, List.set_cons_succ, i64_w, i32_w]
         rfl
        refine pure_ (i := 41) (N := some 84) (v := ?_) (a' := ?_) #[true, true, true, true, true, true, true, true, true, true, true, true, true, true, true, true, true, true, true, true, true, true, true, true, true, true, true, true, true, true, true, true, true, true, true, true, true, true, true, true, true, true, false, false, false, false, false, false] rfl rfl (any_of HT_.out (by kernel_rfl)) (fun _ _ _ h => h) (Or.inl ⟨by rfl, ?_⟩) ?_ ?_
        rotate_left
        ·
         intro w'
         go_simp
         with_reducible rfl
        rotate_left
        ·
         simp only [Act.put, List.setIfInBounds_toArray, List.set_cons_zero, List.set_cons_succ, i64_w, i32_w]
         rfl
        refine pure_ (i := 42) (N := some 85) (v := ?_) (a' := ?_) #[true, true, true, true, true, true, true, true, true, true, true, true, true, true, true, true, true, true, true, true, true, true, true, true, true, true, true, true, true, true, true, true, true, true, true, true, true, true, true, true, true, true, true, false, false, false, false, false] rfl rfl (any_of HT_.out (by kernel_rfl)) (fun _ _ _ h => h) (Or.inl ⟨by rfl, ?_⟩) ?_ ?_
        rotate_left
        ·
         intro w'
         go_simp
         with_reducible rfl
        rotate_left
        ·
         simp only [Act.put, List.setIfInBounds_toArray, List.set_cons_zero, List.set_cons_succ, i64_w, i32_w]
         rfl
        refine pure_ (i := 43) (N := some 86) (v := ?_) (a' := ?_) #[true, true, true, true, true, true, true, true, true, true, true, true, true, true, true, true, true, true, true, true, true, true, true, true, true, true, true, true, true, true, true, true, true, true, true, true, true, true, true, true, true, true, true, true, false, false, false, false] rfl rfl (any_of HT_.out (by kernel_rfl)) (fun _ _ _ h => h) (Or.inl ⟨by rfl, ?_⟩) ?_ ?_
        rotate_left
        ·
         intro w'
         go_simp
         with_reducible rfl
        rotate_left
        ·
         simp only [Act.put, List.setIfInBounds_toArray, List.set_cons_zero, List.set_cons_succ, i64_w, i32_w]
         rfl
        refine pure_ (i := 44) (N := some 87) (v := ?_) (a' := ?_) #[true, true, true, true, true, true, true, true, true, true, true, true, true, true, true, true, true, true, true, true, true, true, true, true, true, true, true, true, true, true, true, true, true, true, true, true, true, true, true, true, true, true, true, true, true, false, false, false] rfl rfl (any_of HT_.out (by kernel_rfl)) (fun _ _ _ h => h) (Or.inl ⟨by rfl, ?_⟩) ?_ ?_
        rotate_left
        ·
         intro w'
         go_simp
         with_reducible rfl
        rotate_left
        ·
         simp only [Act.put, List.setIfInBounds_toArray, List.set_cons_zero, List.set_cons_succ, i64_w, i32_w]
         rfl
        refine pure_ (i := 45) (N := some 88) (v := ?_) (a' := ?_) #[true, true, true, true, true, true, true, true, true, true, true, true, true, true, true, true, true, true, true, true, true, true, true, true, true, true, true, true, true, true, true, true, true, true, true, true, true, true, true, true, true, true, true, true, true, true, false, false] rfl rfl (any_of HT_.out (by kernel_rfl)) (fun _ _ _ h => h) (Or.inl ⟨by rfl, ?_⟩) ?_ ?_
        rotate_left
        ·
         intro w'
         go_simp
         with_reducible rfl
        rotate_left
        ·
         simp only [Act.put, List.setIfInBounds_toArray, List.set_cons_zero, List.set_cons_succ, i64_w, i32_w]
         rfl
        refine pure_ (i := 46) (N := some 89) (v := ?_) (a' := ?_) #[true, true, true, true, true, true, true, true, true, true, true, true, true, true, true, true, true, true, true, true, true, true, true, true, true, true, true, true, true, true, true, true, true, true, true, true, true, true, true, true, true, true, true, true, true, true, true, false] rfl rfl (any_of HT_.out (by kernel_rfl)) (fun _ _ _ h => h) (Or.inl ⟨by rfl, ?_⟩) ?_ ?_
        rotate_left
        ·
         intro w'
         go_simp
         with_reducible rfl
        rotate_left
        ·
         simp only [Act.put, List.setIfInBounds_toArray, List.set_cons_zero, List.set_cons_succ, i64_w, i32_w]
         rfl
        refine pure_ (i := 47) (N := some 8) (v := ?_) (a' := ?_) #[true, true, true, true, true, true, true, true, true, true, true, true, true, true, true, true, true, true, true, true, true, true, true, true, true, true, true, true, true, true, true, true, true, true, true, true, true, true, true, true, true, true, true, true, true, true, true, true] rfl rfl (any_of HT_.out (by kernel_rfl)) (fun _ _ _ h => h) (Or.inl ⟨by rfl, ?_⟩) ?_ ?_
        rotate_left
        ·
         intro w'
         go_simp
         with_reducible rfl
        rotate_left
        ·
         simp only [Act.put, List.setIfInBounds_toArray, List.set_cons_zero, List.set_cons_succ, i64_w, i32_w]
         rfl
        refine done_ (done_of HT_.out (by kernel_rfl)) ?_
        try go_wp2
        go_ret
        exact ⟨by first | rfl | (simp [errW_none, errW_some] <;> rfl) | (simp [*, errW_none, errW_some] <;> rfl), Yr HB⟩
       ·
        rw [if_neg c19] at H
        have c19b0 : (t316.toList == t322.toList && (t317 == t323 && (t318 == t324 && (t319 == t325)))) = false := by simpa using c19
        (try (have c19b1 : decide (t316.toList = t322.toList && (t317 == t323 && (t318 == t324 && (t319 == t325)))) = false := by simpa using c19))
        (try (have c19b2 : (t316.toList == t322.toList && (t317 == t323 && (t318 == t324 && (t319 == t325)))) = false := by simpa using c19))
        (try (have c19b3 : ¬ (t316.toList = t322.toList && (t317 == t323 && (t318 == t324 && (t319 == t325)))) := by simpa using c19))
        clear c19
        exact absurd ((Option.some.inj H).trans HRT_.out) (by decide)
      ·
       have H1 : (some false) = some r := by rw [if_neg (show ¬ (some q332).isNone = true by simp)] at H; exact H
       clear H
       have H := H1
       clear H1
       try simp only [errW_none, errW_some]
       exact absurd ((Option.some.inj H).trans HRT_.out) (by decide)
     ·
      replace c18 := Bool.eq_false_iff.mpr c18
      subst c18
      have H1 : ((palinodelaw19_is.f t305 1).bind fun t333 => (if t333 = true then (if (t316.toList == t322.toList && (t317 == t323 && (t318 == t324 && (t319 == t325)))) = true then (some (t320 == t326)) else (some false)) else (some false))) = some r := by rw [if_neg (show ¬ (false = true) by decide)] at H; exact H
      clear H
      have H := H1
      clear H1
      replace H := Option.bind_eq_some_iff.mp H
      obtain ⟨t333, A600, H⟩ := H
      replace H : (if t333 = true then (if (t316.toList == t322.toList && (t317 == t323 && (t318 == t324 && (t319 == t325)))) = true then (some (t320 == t326)) else (some false)) else (some false)) = some r := H
      have A60 := Aside0.mk A600
      clear A600
      by_cases c61 : t333 = true
      ·
       subst c61
       have H1 : (if (t316.toList == t322.toList && (t317 == t323 && (t318 == t324 && (t319 == t325)))) = true then (some (t320 == t326)) else (some false)) = some r := by rw [if_pos rfl] at H; exact H
       clear H
       have H := H1
       clear H1
       by_cases c62 : (t316.toList == t322.toList && (t317 == t323 && (t318 == t324 && (t319 == t325)))) = true
       ·
        rw [if_pos c62] at H
        have c62b0 : (t316.toList == t322.toList && (t317 == t323 && (t318 == t324 && (t319 == t325)))) = true := c62
        (try (have c62b1 : decide (t316.toList = t322.toList && (t317 == t323 && (t318 == t324 && (t319 == t325)))) = true := by simpa using c62))
        (try (have c62b2 : (t316.toList == t322.toList && (t317 == t323 && (t318 == t324 && (t319 == t325)))) = true := by simpa using c62))
        clear c62
        obtain rfl := Option.some.inj H
        go_enter Try.func3, Try.ntmps3
        try go_wp2_with (first | ((with_reducible refine gate_dst (N := 4) rfl ?_); refine box_event ?hg (N := 4) ?hd (cs := #[.string a0_0, .slice A0_1 l0_1.length c0_1]) (t := 24) ?hr ?_; (case hd => rfl); (case hg => rfl); (case hr => first | (go_simp; done) | (go_simp; rfl)); intro gb295 hg w63 hbox hb; have n0_ := Aside0.mk (Yv HB hb); have n1_ := Aside0.mk (hbox); have n2_ := Aside0.mk ((by rw [hg]; exact (below_size (Yr HB)) : w.heap.size ≤ gb295)); have n3_ := Aside0.mk ((by rw [hg]; exact (below_size (Yr HB)) : w.heap.size ≤ gb295)); clear HB; have HB := n0_; have BK295 := n1_; have GW295 := n2_; have GE295 := n3_; clear n0_ n1_ n2_ n3_; clear hb hbox hg) | ((with_reducible refine gate_dst (N := 5) rfl ?_); refine box_event ?hg (N := 5) ?hd (cs := #[.string a1_0, .string a1_1, .int .i64 a1_2, .int .i64 a1_3, .int .i64 a1_4, .int .i64 a1_5, .bool a1_6]) (t := 26) ?hr ?_; (case hd => rfl); (case hg => rfl); (case hr => first | (go_simp; done) | (go_simp; rfl)); intro gb296 hg w64 hbox hb; have n0_ := Aside0.mk (Zv BK295 hb); have n1_ := Aside0.mk (Yv HB hb); have n2_ := Aside0.mk (hbox); have n3_ := Aside0.mk ((by rw [hg]; exact (below_size (Yr HB)) : w.heap.size ≤ gb296)); have n4_ := Aside0.mk ((by rw [hg]; exact (below_size (Yr HB)) : w.heap.size ≤ gb296)); have n5_ := Aside0.mk ((by rw [hg]; exact Nat.ne_of_lt (blk_lt (g := gb295) (o := .cells #[.string a0_0, .slice A0_1 l0_1.length c0_1] 24 (0, 0)) (Zr BK295)) : gb295 ≠ gb296)); have n6_ := Aside0.mk ((by rw [hg]; exact Nat.ne_of_gt (blk_lt (g := gb295) (o := .cells #[.string a0_0, .slice A0_1 l0_1.length c0_1] 24 (0, 0)) (Zr BK295)) : gb296 ≠ gb295)); clear BK295; clear HB; have BK295 := n0_; have HB := n1_; have BK296 := n2_; have GW296 := n3_; have GE296 := n4_; have NB295_296 := n5_; have NB296_295 := n6_; clear n0_ n1_ n2_ n3_ n4_ n5_ n6_; clear hb hbox hg) | ((with_reducible refine gate_callee (f := 13) rfl ?_); refine goesL_ (some 18) rfl rfl Try.func13 (by kernel_rfl) rfl #[] rfl (by (try simp only [List.map_toArray, List.map_cons, List.map_nil]); first | done | rfl | (simp only [List.length_drop, List.length_take]; rfl)) ?_; (with_reducible refine (palinodelaw19_examples.calls k  true _ A5.out).mono ?_); rintro e w65 ⟨rfl, hb⟩; refine ⟨_, rfl, ?_⟩; have n0_ := Aside0.mk (Zv BK295 hb); have n1_ := Aside0.mk (Zv BK296 hb); have n2_ := Aside0.mk (Yv HB hb); clear BK295; clear BK296; clear HB; have BK295 := n0_; have BK296 := n1_; have HB := n2_; clear n0_ n1_ n2_; (try clear hb); (try clear hb2); (try clear hk); (try clear hi); have hnb66 := NB295_296.out; have hnc66 := NB296_295.out; obtain ⟨⟨hcz67_0, hcz67_1⟩, hfz67_0, hfz67_1⟩ := Zk2 BK295) | ((with_reducible refine gate_callee (f := 14) rfl ?_); refine goesL_ (some 23) rfl rfl Try.func14 (by kernel_rfl) rfl #[.agg #[.string a0_0, .slice A0_1 l0_1.length c0_1], .string a2, .int .i64 a3] rfl (by (try simp only [List.map_toArray, List.map_cons, List.map_nil]); first | done | rfl | (simp only [List.length_drop, List.length_take]; rfl)) ?_; (with_reducible refine (saga_Begin.calls k a0_0 _ _ l0_1 a2 a3 t298 t299 t300 t301 t302 t303 t304 t305 _ ?side1 ?side2 A6.out).mono ?_); (case side1 => repeat (first | exact (Kd.C_below HR0_1.out HB.out) | (with_reducible refine Kd.C_alloc ?_ _) | (with_reducible refine Kd.C_drewN ?_ _) | (with_reducible refine Kd.C_drew ?_))); (case side2 => exact HC0_1.out); rintro e w68 ⟨rfl, hb⟩; refine ⟨_, rfl, ?_⟩; have n0_ := Aside0.mk (Zv BK295 hb); have n1_ := Aside0.mk (Zv BK296 hb); have n2_ := Aside0.mk (Yv HB hb); clear BK295; clear BK296; clear HB; have BK295 := n0_; have BK296 := n1_; have HB := n2_; clear n0_ n1_ n2_; (try clear hb); (try clear hb2); (try clear hk); (try clear hi); (try simp only [errW_none, errW_some])) | ((with_reducible refine gate_dst (N := 10) rfl ?_); refine box_event ?hg (N := 10) ?hd (cs := #[.string (⟨#[]⟩ : ByteArray), .string (⟨#[]⟩ : ByteArray), .int .i64 0, .int .i64 0, .int .i64 0, .int .i64 0, .bool false]) (t := 26) ?hr ?_; (case hd => rfl); (case hg => rfl); (case hr => first | (go_simp; done) | (go_simp; rfl)); intro gb306 hg w69 hbox hb; have n0_ := Aside0.mk (Zv BK295 hb); have n1_ := Aside0.mk (Zv BK296 hb); have n2_ := Aside0.mk (Yv HB hb); have n3_ := Aside0.mk (hbox); have n4_ := Aside0.mk ((by rw [hg]; exact (below_size (Yr HB)) : w.heap.size ≤ gb306)); have n5_ := Aside0.mk ((by rw [hg]; exact (below_size (Yr HB)) : w.heap.size ≤ gb306)); have n6_ := Aside0.mk ((by rw [hg]; exact Nat.ne_of_lt (blk_lt (g := gb295) (o := .cells #[.string a0_0, .slice A0_1 l0_1.length c0_1] 24 (0, 0)) (Zr BK295)) : gb295 ≠ gb306)); have n7_ := Aside0.mk ((by rw [hg]; exact Nat.ne_of_gt (blk_lt (g := gb295) (o := .cells #[.string a0_0, .slice A0_1 l0_1.length c0_1] 24 (0, 0)) (Zr BK295)) : gb306 ≠ gb295)); have n8_ := Aside0.mk ((by rw [hg]; exact Nat.ne_of_lt (blk_lt (g := gb296) (o := .cells #[.string a1_0, .string a1_1, .int .i64 a1_2, .int .i64 a1_3, .int .i64 a1_4, .int .i64 a1_5, .bool a1_6] 26 (0, 0)) (Zr BK296)) : gb296 ≠ gb306)); have n9_ := Aside0.mk ((by rw [hg]; exact Nat.ne_of_gt (blk_lt (g := gb296) (o := .cells #[.string a1_0, .string a1_1, .int .i64 a1_2, .int .i64 a1_3, .int .i64 a1_4, .int .i64 a1_5, .bool a1_6] 26 (0, 0)) (Zr BK296)) : gb306 ≠ gb296)); clear BK295; clear BK296; clear HB; have BK295 := n0_; have BK296 := n1_; have HB := n2_; have BK306 := n3_; have GW306 := n4_; have GE306 := n5_; have NB295_306 := n6_; have NB306_295 := n7_; have NB296_306 := n8_; have NB306_296 := n9_; clear n0_ n1_ n2_ n3_ n4_ n5_ n6_ n7_ n8_ n9_; clear hb hbox hg; have hnb70 := NB306_295.out; have hnc70 := NB295_306.out; have hnb71 := NB306_296.out; have hnc71 := NB296_306.out; obtain ⟨⟨hcz72_0, hcz72_1, hcz72_2, hcz72_3, hcz72_4, hcz72_5, hcz72_6⟩, hfz72_0, hfz72_1, hfz72_2, hfz72_3, hfz72_4, hfz72_5, hfz72_6⟩ := Zk7 BK306; obtain ⟨⟨hcz73_0, hcz73_1⟩, hfz73_0, hfz73_1⟩ := Zk2 BK295) | ((with_reducible refine gate_callee (f := 15) rfl ?_); refine goesL_ (some 30) rfl rfl Try.func15 (by kernel_rfl) rfl #[.agg #[.string a0_0, .slice A0_1 l0_1.length c0_1], .string a2, .int .i64 a3] rfl (by (try simp only [List.map_toArray, List.map_cons, List.map_nil]); first | done | rfl | (simp only [List.length_drop, List.length_take]; rfl)) ?_; (with_reducible refine (palinoderef19_Begin.calls k a0_0 _ _ l0_1 a2 a3 t307 t308 t309 t310 t311 t312 t313 false _ ?side1 ?side2 A7.out).mono ?_); (case side1 => exact Kd.C_below HR0_1.out (Yr HB)); (case side2 => exact HC0_1.out); rintro e w74 ⟨rfl, hb⟩; refine ⟨_, rfl, ?_⟩; have n0_ := Aside0.mk (Zv BK295 hb); have n1_ := Aside0.mk (Zv BK296 hb); have n2_ := Aside0.mk (Zb (g := gb306) (o := .cells #[.string t298, .string t299, .int .i64 t300, .int .i64 t301, .int .i64 t302, .int .i64 t303, .bool t304] 26 (0, 0)) (by (with_reducible repeat (first | refine Zn ?_ _ | refine Zd ?_ | refine Za ?_ _)); refine Zp (cs := #[.string t298, .string t299, .int .i64 t300, .int .i64 t301, .int .i64 t302, .int .i64 t303, .bool false]) ?_ 6 _ rfl; (with_reducible repeat (first | refine Zn ?_ _ | refine Zd ?_ | refine Za ?_ _)); refine Zp (cs := #[.string t298, .string t299, .int .i64 t300, .int .i64 t301, .int .i64 t302, .int .i64 0, .bool false]) ?_ 5 _ rfl; (with_reducible repeat (first | refine Zn ?_ _ | refine Zd ?_ | refine Za ?_ _)); refine Zp (cs := #[.string t298, .string t299, .int .i64 t300, .int .i64 t301, .int .i64 0, .int .i64 0, .bool false]) ?_ 4 _ rfl; (with_reducible repeat (first | refine Zn ?_ _ | refine Zd ?_ | refine Za ?_ _)); refine Zp (cs := #[.string t298, .string t299, .int .i64 t300, .int .i64 0, .int .i64 0, .int .i64 0, .bool false]) ?_ 3 _ rfl; (with_reducible repeat (first | refine Zn ?_ _ | refine Zd ?_ | refine Za ?_ _)); refine Zp (cs := #[.string t298, .string t299, .int .i64 0, .int .i64 0, .int .i64 0, .int .i64 0, .bool false]) ?_ 2 _ rfl; (with_reducible repeat (first | refine Zn ?_ _ | refine Zd ?_ | refine Za ?_ _)); refine Zp (cs := #[.string t298, .string (⟨#[]⟩ : ByteArray), .int .i64 0, .int .i64 0, .int .i64 0, .int .i64 0, .bool false]) ?_ 1 _ rfl; (with_reducible repeat (first | refine Zn ?_ _ | refine Zd ?_ | refine Za ?_ _)); refine Zp (cs := #[.string (⟨#[]⟩ : ByteArray), .string (⟨#[]⟩ : ByteArray), .int .i64 0, .int .i64 0, .int .i64 0, .int .i64 0, .bool false]) ?_ 0 _ rfl; (with_reducible repeat (first | refine Zn ?_ _ | refine Zd ?_ | refine Za ?_ _)); exact BK306.out) hb); have n3_ := Aside0.mk (Yv HB hb); clear BK295; clear BK296; clear BK306; clear HB; have BK295 := n0_; have BK296 := n1_; have BK306 := n2_; have HB := n3_; clear n0_ n1_ n2_ n3_; (try clear hb); (try clear hb2); (try clear hk); (try clear hi)) | ((with_reducible refine gate_dst (N := 12) rfl ?_); refine box_event ?hg (N := 12) ?hd (cs := #[.string (⟨#[]⟩ : ByteArray), .string (⟨#[]⟩ : ByteArray), .int .i64 0, .int .i64 0, .int .i64 0, .int .i64 0, .bool false]) (t := 26) ?hr ?_; (case hd => rfl); (case hg => rfl); (case hr => first | (go_simp; done) | (go_simp; rfl)); intro gb315 hg w75 hbox hb; have n0_ := Aside0.mk (Zv BK295 hb); have n1_ := Aside0.mk (Zv BK296 hb); have n2_ := Aside0.mk (Zv BK306 hb); have n3_ := Aside0.mk (Yv HB hb); have n4_ := Aside0.mk (hbox); have n5_ := Aside0.mk ((by rw [hg]; exact (below_size (Yr HB)) : w.heap.size ≤ gb315)); have n6_ := Aside0.mk ((by rw [hg]; exact (below_size (Yr HB)) : w.heap.size ≤ gb315)); have n7_ := Aside0.mk ((by rw [hg]; exact Nat.ne_of_lt (blk_lt (g := gb295) (o := .cells #[.string a0_0, .slice A0_1 l0_1.length c0_1] 24 (0, 0)) (Zr BK295)) : gb295 ≠ gb315)); have n8_ := Aside0.mk ((by rw [hg]; exact Nat.ne_of_gt (blk_lt (g := gb295) (o := .cells #[.string a0_0, .slice A0_1 l0_1.length c0_1] 24 (0, 0)) (Zr BK295)) : gb315 ≠ gb295)); have n9_ := Aside0.mk ((by rw [hg]; exact Nat.ne_of_lt (blk_lt (g := gb296) (o := .cells #[.string a1_0, .string a1_1, .int .i64 a1_2, .int .i64 a1_3, .int .i64 a1_4, .int .i64 a1_5, .bool a1_6] 26 (0, 0)) (Zr BK296)) : gb296 ≠ gb315)); have n10_ := Aside0.mk ((by rw [hg]; exact Nat.ne_of_gt (blk_lt (g := gb296) (o := .cells #[.string a1_0, .string a1_1, .int .i64 a1_2, .int .i64 a1_3, .int .i64 a1_4, .int .i64 a1_5, .bool a1_6] 26 (0, 0)) (Zr BK296)) : gb315 ≠ gb296)); have n11_ := Aside0.mk ((by rw [hg]; exact Nat.ne_of_lt (blk_lt (g := gb306) (o := .cells #[.string t298, .string t299, .int .i64 t300, .int .i64 t301, .int .i64 t302, .int .i64 t303, .bool t304] 26 (0, 0)) (Zr BK306)) : gb306 ≠ gb315)); have n12_ := Aside0.mk ((by rw [hg]; exact Nat.ne_of_gt (blk_lt (g := gb306) (o := .cells #[.string t298, .string t299, .int .i64 t300, .int .i64 t301, .int .i64 t302, .int .i64 t303, .bool t304] 26 (0, 0)) (Zr BK306)) : gb315 ≠ gb306)); clear BK295; clear BK296; clear BK306; clear HB; have BK295 := n0_; have BK296 := n1_; have BK306 := n2_; have HB := n3_; have BK315 := n4_; have GW315 := n5_; have GE315 := n6_; have NB295_315 := n7_; have NB315_295 := n8_; have NB296_315 := n9_; have NB315_296 := n10_; have NB306_315 := n11_; have NB315_306 := n12_; clear n0_ n1_ n2_ n3_ n4_ n5_ n6_ n7_ n8_ n9_ n10_ n11_ n12_; clear hb hbox hg; have hnb76 := NB315_295.out; have hnc76 := NB295_315.out; have hnb77 := NB315_296.out; have hnc77 := NB296_315.out; have hnb78 := NB315_306.out; have hnc78 := NB306_315.out; obtain ⟨⟨hcz79_0, hcz79_1, hcz79_2, hcz79_3, hcz79_4, hcz79_5, hcz79_6⟩, hfz79_0, hfz79_1, hfz79_2, hfz79_3, hfz79_4, hfz79_5, hfz79_6⟩ := Zk7 BK315; obtain ⟨⟨hcz80_0, hcz80_1, hcz80_2, hcz80_3, hcz80_4, hcz80_5, hcz80_6⟩, hfz80_0, hfz80_1, hfz80_2, hfz80_3, hfz80_4, hfz80_5, hfz80_6⟩ := Zk7 BK296) | ((with_reducible refine gate_callee (f := 16) rfl ?_); refine goesL_ (some 35) rfl rfl Try.func16 (by kernel_rfl) rfl #[.agg #[.string a1_0, .string a1_1, .int .i64 a1_2, .int .i64 a1_3, .int .i64 a1_4, .int .i64 a1_5, .bool a1_6]] rfl (by (try simp only [List.map_toArray, List.map_cons, List.map_nil]); first | done | rfl | (simp only [List.length_drop, List.length_take]; rfl)) ?_; (with_reducible refine (saga_Command.calls a1_0 a1_1 a1_2 a1_3 a1_4 a1_5 a1_6 t316 t317 t318 t319 t320 _ A8.out).mono ?_); rintro e w81 ⟨rfl, hb⟩; refine ⟨_, rfl, ?_⟩; have n0_ := Aside0.mk (Zv BK295 hb); have n1_ := Aside0.mk (Zv BK296 hb); have n2_ := Aside0.mk (Zv BK306 hb); have n3_ := Aside0.mk (Zb (g := gb315) (o := .cells #[.string t307, .string t308, .int .i64 t309, .int .i64 t310, .int .i64 t311, .int .i64 t312, .bool t313] 26 (0, 0)) (by (with_reducible repeat (first | refine Zn ?_ _ | refine Zd ?_ | refine Za ?_ _)); refine Zp (cs := #[.string t307, .string t308, .int .i64 t309, .int .i64 t310, .int .i64 t311, .int .i64 t312, .bool false]) ?_ 6 _ rfl; (with_reducible repeat (first | refine Zn ?_ _ | refine Zd ?_ | refine Za ?_ _)); refine Zp (cs := #[.string t307, .string t308, .int .i64 t309, .int .i64 t310, .int .i64 t311, .int .i64 0, .bool false]) ?_ 5 _ rfl; (with_reducible repeat (first | refine Zn ?_ _ | refine Zd ?_ | refine Za ?_ _)); refine Zp (cs := #[.string t307, .string t308, .int .i64 t309, .int .i64 t310, .int .i64 0, .int .i64 0, .bool false]) ?_ 4 _ rfl; (with_reducible repeat (first | refine Zn ?_ _ | refine Zd ?_ | refine Za ?_ _)); refine Zp (cs := #[.string t307, .string t308, .int .i64 t309, .int .i64 0, .int .i64 0, .int .i64 0, .bool false]) ?_ 3 _ rfl; (with_reducible repeat (first | refine Zn ?_ _ | refine Zd ?_ | refine Za ?_ _)); refine Zp (cs := #[.string t307, .string t308, .int .i64 0, .int .i64 0, .int .i64 0, .int .i64 0, .bool false]) ?_ 2 _ rfl; (with_reducible repeat (first | refine Zn ?_ _ | refine Zd ?_ | refine Za ?_ _)); refine Zp (cs := #[.string t307, .string (⟨#[]⟩ : ByteArray), .int .i64 0, .int .i64 0, .int .i64 0, .int .i64 0, .bool false]) ?_ 1 _ rfl; (with_reducible repeat (first | refine Zn ?_ _ | refine Zd ?_ | refine Za ?_ _)); refine Zp (cs := #[.string (⟨#[]⟩ : ByteArray), .string (⟨#[]⟩ : ByteArray), .int .i64 0, .int .i64 0, .int .i64 0, .int .i64 0, .bool false]) ?_ 0 _ rfl; (with_reducible repeat (first | refine Zn ?_ _ | refine Zd ?_ | refine Za ?_ _)); exact BK315.out) hb); have n4_ := Aside0.mk (Yv HB hb); clear BK295; clear BK296; clear BK306; clear BK315; clear HB; have BK295 := n0_; have BK296 := n1_; have BK306 := n2_; have BK315 := n3_; have HB := n4_; clear n0_ n1_ n2_ n3_ n4_; (try clear hb); (try clear hb2); (try clear hk); (try clear hi)) | ((with_reducible refine gate_dst (N := 14) rfl ?_); refine box_event ?hg (N := 14) ?hd (cs := #[.string (⟨#[]⟩ : ByteArray), .int .i64 0, .int .i64 0, .int .i64 0]) (t := 35) ?hr ?_; (case hd => rfl); (case hg => rfl); (case hr => first | (go_simp; done) | (go_simp; rfl)); intro gb321 hg w82 hbox hb; have n0_ := Aside0.mk (Zv BK295 hb); have n1_ := Aside0.mk (Zv BK296 hb); have n2_ := Aside0.mk (Zv BK306 hb); have n3_ := Aside0.mk (Zv BK315 hb); have n4_ := Aside0.mk (Yv HB hb); have n5_ := Aside0.mk (hbox); have n6_ := Aside0.mk ((by rw [hg]; exact (below_size (Yr HB)) : w.heap.size ≤ gb321)); have n7_ := Aside0.mk ((by rw [hg]; exact (below_size (Yr HB)) : w.heap.size ≤ gb321)); have n8_ := Aside0.mk ((by rw [hg]; exact Nat.ne_of_lt (blk_lt (g := gb295) (o := .cells #[.string a0_0, .slice A0_1 l0_1.length c0_1] 24 (0, 0)) (Zr BK295)) : gb295 ≠ gb321)); have n9_ := Aside0.mk ((by rw [hg]; exact Nat.ne_of_gt (blk_lt (g := gb295) (o := .cells #[.string a0_0, .slice A0_1 l0_1.length c0_1] 24 (0, 0)) (Zr BK295)) : gb321 ≠ gb295)); have n10_ := Aside0.mk ((by rw [hg]; exact Nat.ne_of_lt (blk_lt (g := gb296) (o := .cells #[.string a1_0, .string a1_1, .int .i64 a1_2, .int .i64 a1_3, .int .i64 a1_4, .int .i64 a1_5, .bool a1_6] 26 (0, 0)) (Zr BK296)) : gb296 ≠ gb321)); have n11_ := Aside0.mk ((by rw [hg]; exact Nat.ne_of_gt (blk_lt (g := gb296) (o := .cells #[.string a1_0, .string a1_1, .int .i64 a1_2, .int .i64 a1_3, .int .i64 a1_4, .int .i64 a1_5, .bool a1_6] 26 (0, 0)) (Zr BK296)) : gb321 ≠ gb296)); have n12_ := Aside0.mk ((by rw [hg]; exact Nat.ne_of_lt (blk_lt (g := gb306) (o := .cells #[.string t298, .string t299, .int .i64 t300, .int .i64 t301, .int .i64 t302, .int .i64 t303, .bool t304] 26 (0, 0)) (Zr BK306)) : gb306 ≠ gb321)); have n13_ := Aside0.mk ((by rw [hg]; exact Nat.ne_of_gt (blk_lt (g := gb306) (o := .cells #[.string t298, .string t299, .int .i64 t300, .int .i64 t301, .int .i64 t302, .int .i64 t303, .bool t304] 26 (0, 0)) (Zr BK306)) : gb321 ≠ gb306)); have n14_ := Aside0.mk ((by rw [hg]; exact Nat.ne_of_lt (blk_lt (g := gb315) (o := .cells #[.string t307, .string t308, .int .i64 t309, .int .i64 t310, .int .i64 t311, .int .i64 t312, .bool t313] 26 (0, 0)) (Zr BK315)) : gb315 ≠ gb321)); have n15_ := Aside0.mk ((by rw [hg]; exact Nat.ne_of_gt (blk_lt (g := gb315) (o := .cells #[.string t307, .string t308, .int .i64 t309, .int .i64 t310, .int .i64 t311, .int .i64 t312, .bool t313] 26 (0, 0)) (Zr BK315)) : gb321 ≠ gb315)); clear BK295; clear BK296; clear BK306; clear BK315; clear HB; have BK295 := n0_; have BK296 := n1_; have BK306 := n2_; have BK315 := n3_; have HB := n4_; have BK321 := n5_; have GW321 := n6_; have GE321 := n7_; have NB295_321 := n8_; have NB321_295 := n9_; have NB296_321 := n10_; have NB321_296 := n11_; have NB306_321 := n12_; have NB321_306 := n13_; have NB315_321 := n14_; have NB321_315 := n15_; clear n0_ n1_ n2_ n3_ n4_ n5_ n6_ n7_ n8_ n9_ n10_ n11_ n12_ n13_ n14_ n15_; clear hb hbox hg; have hnb83 := NB321_295.out; have hnc83 := NB295_321.out; have hnb84 := NB321_296.out; have hnc84 := NB296_321.out; have hnb85 := NB321_306.out; have hnc85 := NB306_321.out; have hnb86 := NB321_315.out; have hnc86 := NB315_321.out; obtain ⟨⟨hcz87_0, hcz87_1, hcz87_2, hcz87_3⟩, hfz87_0, hfz87_1, hfz87_2, hfz87_3⟩ := Zk4 BK321; obtain ⟨⟨hcz88_0, hcz88_1, hcz88_2, hcz88_3, hcz88_4, hcz88_5, hcz88_6⟩, hfz88_0, hfz88_1, hfz88_2, hfz88_3, hfz88_4, hfz88_5, hfz88_6⟩ := Zk7 BK296) | ((with_reducible refine gate_callee (f := 17) rfl ?_); refine goesL_ (some 40) rfl rfl Try.func17 (by kernel_rfl) rfl #[.agg #[.string a1_0, .string a1_1, .int .i64 a1_2, .int .i64 a1_3, .int .i64 a1_4, .int .i64 a1_5, .bool a1_6]] rfl (by (try simp only [List.map_toArray, List.map_cons, List.map_nil]); first | done | rfl | (simp only [List.length_drop, List.length_take]; rfl)) ?_; (with_reducible refine (palinoderef19_Command.calls a1_0 a1_1 a1_2 a1_3 a1_4 a1_5 a1_6 t322 t323 t324 t325 t326 _ A9.out).mono ?_); rintro e w89 ⟨rfl, hb⟩; refine ⟨_, rfl, ?_⟩; have n0_ := Aside0.mk (Zv BK295 hb); have n1_ := Aside0.mk (Zv BK296 hb); have n2_ := Aside0.mk (Zv BK306 hb); have n3_ := Aside0.mk (Zv BK315 hb); have n4_ := Aside0.mk (Zb (g := gb321) (o := .cells #[.string t316, .int .i64 t317, .int .i64 t318, .int .i64 t319] 35 (0, 0)) (by (with_reducible repeat (first | refine Zn ?_ _ | refine Zd ?_ | refine Za ?_ _)); refine Zp (cs := #[.string t316, .int .i64 t317, .int .i64 t318, .int .i64 0]) ?_ 3 _ rfl; (with_reducible repeat (first | refine Zn ?_ _ | refine Zd ?_ | refine Za ?_ _)); refine Zp (cs := #[.string t316, .int .i64 t317, .int .i64 0, .int .i64 0]) ?_ 2 _ rfl; (with_reducible repeat (first | refine Zn ?_ _ | refine Zd ?_ | refine Za ?_ _)); refine Zp (cs := #[.string t316, .int .i64 0, .int .i64 0, .int .i64 0]) ?_ 1 _ rfl; (with_reducible repeat (first | refine Zn ?_ _ | refine Zd ?_ | refine Za ?_ _)); refine Zp (cs := #[.string (⟨#[]⟩ : ByteArray), .int .i64 0, .int .i64 0, .int .i64 0]) ?_ 0 _ rfl; (with_reducible repeat (first | refine Zn ?_ _ | refine Zd ?_ | refine Za ?_ _)); exact BK321.out) hb); have n5_ := Aside0.mk (Yv HB hb); clear BK295; clear BK296; clear BK306; clear BK315; clear BK321; clear HB; have BK295 := n0_; have BK296 := n1_; have BK306 := n2_; have BK315 := n3_; have BK321 := n4_; have HB := n5_; clear n0_ n1_ n2_ n3_ n4_ n5_; (try clear hb); (try clear hb2); (try clear hk); (try clear hi)) | ((with_reducible refine gate_dst (N := 16) rfl ?_); refine box_event ?hg (N := 16) ?hd (cs := #[.string (⟨#[]⟩ : ByteArray), .int .i64 0, .int .i64 0, .int .i64 0]) (t := 35) ?hr ?_; (case hd => rfl); (case hg => rfl); (case hr => first | (go_simp; done) | (go_simp; rfl)); intro gb327 hg w90 hbox hb; have n0_ := Aside0.mk (Zv BK295 hb); have n1_ := Aside0.mk (Zv BK296 hb); have n2_ := Aside0.mk (Zv BK306 hb); have n3_ := Aside0.mk (Zv BK315 hb); have n4_ := Aside0.mk (Zv BK321 hb); have n5_ := Aside0.mk (Yv HB hb); have n6_ := Aside0.mk (hbox); have n7_ := Aside0.mk ((by rw [hg]; exact (below_size (Yr HB)) : w.heap.size ≤ gb327)); have n8_ := Aside0.mk ((by rw [hg]; exact (below_size (Yr HB)) : w.heap.size ≤ gb327)); have n9_ := Aside0.mk ((by rw [hg]; exact Nat.ne_of_lt (blk_lt (g := gb295) (o := .cells #[.string a0_0, .slice A0_1 l0_1.length c0_1] 24 (0, 0)) (Zr BK295)) : gb295 ≠ gb327)); have n10_ := Aside0.mk ((by rw [hg]; exact Nat.ne_of_gt (blk_lt (g := gb295) (o := .cells #[.string a0_0, .slice A0_1 l0_1.length c0_1] 24 (0, 0)) (Zr BK295)) : gb327 ≠ gb295)); have n11_ := Aside0.mk ((by rw [hg]; exact Nat.ne_of_lt (blk_lt (g := gb296) (o := .cells #[.string a1_0, .string a1_1, .int .i64 a1_2, .int .i64 a1_3, .int .i64 a1_4, .int .i64 a1_5, .bool a1_6] 26 (0, 0)) (Zr BK296)) : gb296 ≠ gb327)); have n12_ := Aside0.mk ((by rw [hg]; exact Nat.ne_of_gt (blk_lt (g := gb296) (o := .cells #[.string a1_0, .string a1_1, .int .i64 a1_2, .int .i64 a1_3, .int .i64 a1_4, .int .i64 a1_5, .bool a1_6] 26 (0, 0)) (Zr BK296)) : gb327 ≠ gb296)); have n13_ := Aside0.mk ((by rw [hg]; exact Nat.ne_of_lt (blk_lt (g := gb306) (o := .cells #[.string t298, .string t299, .int .i64 t300, .int .i64 t301, .int .i64 t302, .int .i64 t303, .bool t304] 26 (0, 0)) (Zr BK306)) : gb306 ≠ gb327)); have n14_ := Aside0.mk ((by rw [hg]; exact Nat.ne_of_gt (blk_lt (g := gb306) (o := .cells #[.string t298, .string t299, .int .i64 t300, .int .i64 t301, .int .i64 t302, .int .i64 t303, .bool t304] 26 (0, 0)) (Zr BK306)) : gb327 ≠ gb306)); have n15_ := Aside0.mk ((by rw [hg]; exact Nat.ne_of_lt (blk_lt (g := gb315) (o := .cells #[.string t307, .string t308, .int .i64 t309, .int .i64 t310, .int .i64 t311, .int .i64 t312, .bool t313] 26 (0, 0)) (Zr BK315)) : gb315 ≠ gb327)); have n16_ := Aside0.mk ((by rw [hg]; exact Nat.ne_of_gt (blk_lt (g := gb315) (o := .cells #[.string t307, .string t308, .int .i64 t309, .int .i64 t310, .int .i64 t311, .int .i64 t312, .bool t313] 26 (0, 0)) (Zr BK315)) : gb327 ≠ gb315)); have n17_ := Aside0.mk ((by rw [hg]; exact Nat.ne_of_lt (blk_lt (g := gb321) (o := .cells #[.string t316, .int .i64 t317, .int .i64 t318, .int .i64 t319] 35 (0, 0)) (Zr BK321)) : gb321 ≠ gb327)); have n18_ := Aside0.mk ((by rw [hg]; exact Nat.ne_of_gt (blk_lt (g := gb321) (o := .cells #[.string t316, .int .i64 t317, .int .i64 t318, .int .i64 t319] 35 (0, 0)) (Zr BK321)) : gb327 ≠ gb321)); clear BK295; clear BK296; clear BK306; clear BK315; clear BK321; clear HB; have BK295 := n0_; have BK296 := n1_; have BK306 := n2_; have BK315 := n3_; have BK321 := n4_; have HB := n5_; have BK327 := n6_; have GW327 := n7_; have GE327 := n8_; have NB295_327 := n9_; have NB327_295 := n10_; have NB296_327 := n11_; have NB327_296 := n12_; have NB306_327 := n13_; have NB327_306 := n14_; have NB315_327 := n15_; have NB327_315 := n16_; have NB321_327 := n17_; have NB327_321 := n18_; clear n0_ n1_ n2_ n3_ n4_ n5_ n6_ n7_ n8_ n9_ n10_ n11_ n12_ n13_ n14_ n15_ n16_ n17_ n18_; clear hb hbox hg; have hnb91 := NB327_295.out; have hnc91 := NB295_327.out; have hnb92 := NB327_296.out; have hnc92 := NB296_327.out; have hnb93 := NB327_306.out; have hnc93 := NB306_327.out; have hnb94 := NB327_315.out; have hnc94 := NB315_327.out; have hnb95 := NB327_321.out; have hnc95 := NB321_327.out; obtain ⟨⟨hcz96_0, hcz96_1, hcz96_2, hcz96_3⟩, hfz96_0, hfz96_1, hfz96_2, hfz96_3⟩ := Zk4 BK327))
        have n0_ : Aside0 (((((w90.setCell ⟨gb327, 0, none⟩ (.string t322)).setCell ⟨gb327, 1, none⟩ (.int .i64 t323)).setCell ⟨gb327, 2, none⟩ (.int .i64 t324)).setCell ⟨gb327, 3, none⟩ (.int .i64 t325)).heap[gb295]? = some (.cells #[.string a0_0, .slice A0_1 l0_1.length c0_1] 24 (0, 0))) := ⟨by (with_reducible repeat (first | refine Zn ?_ _ | refine Zd ?_ | refine Za ?_ _)); refine Zq ?_ NB295_327.out _; (with_reducible repeat (first | refine Zn ?_ _ | refine Zd ?_ | refine Za ?_ _)); refine Zq ?_ NB295_327.out _; (with_reducible repeat (first | refine Zn ?_ _ | refine Zd ?_ | refine Za ?_ _)); refine Zq ?_ NB295_327.out _; (with_reducible repeat (first | refine Zn ?_ _ | refine Zd ?_ | refine Za ?_ _)); refine Zq ?_ NB295_327.out _; (with_reducible repeat (first | refine Zn ?_ _ | refine Zd ?_ | refine Za ?_ _)); exact BK295.out⟩
        have n1_ : Aside0 (((((w90.setCell ⟨gb327, 0, none⟩ (.string t322)).setCell ⟨gb327, 1, none⟩ (.int .i64 t323)).setCell ⟨gb327, 2, none⟩ (.int .i64 t324)).setCell ⟨gb327, 3, none⟩ (.int .i64 t325)).heap[gb296]? = some (.cells #[.string a1_0, .string a1_1, .int .i64 a1_2, .int .i64 a1_3, .int .i64 a1_4, .int .i64 a1_5, .bool a1_6] 26 (0, 0))) := ⟨by (with_reducible repeat (first | refine Zn ?_ _ | refine Zd ?_ | refine Za ?_ _)); refine Zq ?_ NB296_327.out _; (with_reducible repeat (first | refine Zn ?_ _ | refine Zd ?_ | refine Za ?_ _)); refine Zq ?_ NB296_327.out _; (with_reducible repeat (first | refine Zn ?_ _ | refine Zd ?_ | refine Za ?_ _)); refine Zq ?_ NB296_327.out _; (with_reducible repeat (first | refine Zn ?_ _ | refine Zd ?_ | refine Za ?_ _)); refine Zq ?_ NB296_327.out _; (with_reducible repeat (first | refine Zn ?_ _ | refine Zd ?_ | refine Za ?_ _)); exact BK296.out⟩
        have n2_ : Aside0 (((((w90.setCell ⟨gb327, 0, none⟩ (.string t322)).setCell ⟨gb327, 1, none⟩ (.int .i64 t323)).setCell ⟨gb327, 2, none⟩ (.int .i64 t324)).setCell ⟨gb327, 3, none⟩ (.int .i64 t325)).heap[gb306]? = some (.cells #[.string t298, .string t299, .int .i64 t300, .int .i64 t301, .int .i64 t302, .int .i64 t303, .bool t304] 26 (0, 0))) := ⟨by (with_reducible repeat (first | refine Zn ?_ _ | refine Zd ?_ | refine Za ?_ _)); refine Zq ?_ NB306_327.out _; (with_reducible repeat (first | refine Zn ?_ _ | refine Zd ?_ | refine Za ?_ _)); refine Zq ?_ NB306_327.out _; (with_reducible repeat (first | refine Zn ?_ _ | refine Zd ?_ | refine Za ?_ _)); refine Zq ?_ NB306_327.out _; (with_reducible repeat (first | refine Zn ?_ _ | refine Zd ?_ | refine Za ?_ _)); refine Zq ?_ NB306_327.out _; (with_reducible repeat (first | refine Zn ?_ _ | refine Zd ?_ | refine Za ?_ _)); exact BK306.out⟩
        have n3_ : Aside0 (((((w90.setCell ⟨gb327, 0, none⟩ (.string t322)).setCell ⟨gb327, 1, none⟩ (.int .i64 t323)).setCell ⟨gb327, 2, none⟩ (.int .i64 t324)).setCell ⟨gb327, 3, none⟩ (.int .i64 t325)).heap[gb315]? = some (.cells #[.string t307, .string t308, .int .i64 t309, .int .i64 t310, .int .i64 t311, .int .i64 t312, .bool t313] 26 (0, 0))) := ⟨by (with_reducible repeat (first | refine Zn ?_ _ | refine Zd ?_ | refine Za ?_ _)); refine Zq ?_ NB315_327.out _; (with_reducible repeat (first | refine Zn ?_ _ | refine Zd ?_ | refine Za ?_ _)); refine Zq ?_ NB315_327.out _; (with_reducible repeat (first | refine Zn ?_ _ | refine Zd ?_ | refine Za ?_ _)); refine Zq ?_ NB315_327.out _; (with_reducible repeat (first | refine Zn ?_ _ | refine Zd ?_ | refine Za ?_ _)); refine Zq ?_ NB315_327.out _; (with_reducible repeat (first | refine Zn ?_ _ | refine Zd ?_ | refine Za ?_ _)); exact BK315.out⟩
        have n4_ : Aside0 (((((w90.setCell ⟨gb327, 0, none⟩ (.string t322)).setCell ⟨gb327, 1, none⟩ (.int .i64 t323)).setCell ⟨gb327, 2, none⟩ (.int .i64 t324)).setCell ⟨gb327, 3, none⟩ (.int .i64 t325)).heap[gb321]? = some (.cells #[.string t316, .int .i64 t317, .int .i64 t318, .int .i64 t319] 35 (0, 0))) := ⟨by (with_reducible repeat (first | refine Zn ?_ _ | refine Zd ?_ | refine Za ?_ _)); refine Zq ?_ NB321_327.out _; (with_reducible repeat (first | refine Zn ?_ _ | refine Zd ?_ | refine Za ?_ _)); refine Zq ?_ NB321_327.out _; (with_reducible repeat (first | refine Zn ?_ _ | refine Zd ?_ | refine Za ?_ _)); refine Zq ?_ NB321_327.out _; (with_reducible repeat (first | refine Zn ?_ _ | refine Zd ?_ | refine Za ?_ _)); refine Zq ?_ NB321_327.out _; (with_reducible repeat (first | refine Zn ?_ _ | refine Zd ?_ | refine Za ?_ _)); exact BK321.out⟩
        have n5_ : Aside0 (((((w90.setCell ⟨gb327, 0, none⟩ (.string t322)).setCell ⟨gb327, 1, none⟩ (.int .i64 t323)).setCell ⟨gb327, 2, none⟩ (.int .i64 t324)).setCell ⟨gb327, 3, none⟩ (.int .i64 t325)).heap[gb327]? = some (.cells #[.string t322, .int .i64 t323, .int .i64 t324, .int .i64 t325] 35 (0, 0))) := ⟨by (with_reducible repeat (first | refine Zn ?_ _ | refine Zd ?_ | refine Za ?_ _)); refine Zp (cs := #[.string t322, .int .i64 t323, .int .i64 t324, .int .i64 0]) ?_ 3 _ rfl; (with_reducible repeat (first | refine Zn ?_ _ | refine Zd ?_ | refine Za ?_ _)); refine Zp (cs := #[.string t322, .int .i64 t323, .int .i64 0, .int .i64 0]) ?_ 2 _ rfl; (with_reducible repeat (first | refine Zn ?_ _ | refine Zd ?_ | refine Za ?_ _)); refine Zp (cs := #[.string t322, .int .i64 0, .int .i64 0, .int .i64 0]) ?_ 1 _ rfl; (with_reducible repeat (first | refine Zn ?_ _ | refine Zd ?_ | refine Za ?_ _)); refine Zp (cs := #[.string (⟨#[]⟩ : ByteArray), .int .i64 0, .int .i64 0, .int .i64 0]) ?_ 0 _ rfl; (with_reducible repeat (first | refine Zn ?_ _ | refine Zd ?_ | refine Za ?_ _)); exact BK327.out⟩
        have n6_ : Aside0 (Below w.heap.size w ((((w90.setCell ⟨gb327, 0, none⟩ (.string t322)).setCell ⟨gb327, 1, none⟩ (.int .i64 t323)).setCell ⟨gb327, 2, none⟩ (.int .i64 t324)).setCell ⟨gb327, 3, none⟩ (.int .i64 t325))) := ⟨Yr HB⟩
        (try clear BK295)
        (try clear BK296)
        (try clear BK306)
        (try clear BK315)
        (try clear BK321)
        (try clear BK327)
        (try clear HB)
        generalize ((((w90.setCell ⟨gb327, 0, none⟩ (.string t322)).setCell ⟨gb327, 1, none⟩ (.int .i64 t323)).setCell ⟨gb327, 2, none⟩ (.int .i64 t324)).setCell ⟨gb327, 3, none⟩ (.int .i64 t325)) = w97 at n0_ n1_ n2_ n3_ n4_ n5_ n6_ ⊢
        have BK295 := n0_
        have BK296 := n1_
        have BK306 := n2_
        have BK315 := n3_
        have BK321 := n4_
        have BK327 := n5_
        have HB := n6_
        clear n0_ n1_ n2_ n3_ n4_ n5_ n6_
        have n0_ := Aside0.mk (Zd BK295.out)
        have n1_ := Aside0.mk (Zd BK296.out)
        have n2_ := Aside0.mk (Zd BK306.out)
        have n3_ := Aside0.mk (Zd BK315.out)
        have n4_ := Aside0.mk (Zd BK321.out)
        have n5_ := Aside0.mk (Zd BK327.out)
        have n6_ := Aside0.mk (Yd HB.out)
        clear BK295
        clear BK296
        clear BK306
        clear BK315
        clear BK321
        clear BK327
        clear HB
        have BK295 := n0_
        have BK296 := n1_
        have BK306 := n2_
        have BK315 := n3_
        have BK321 := n4_
        have BK327 := n5_
        have HB := n6_
        clear n0_ n1_ n2_ n3_ n4_ n5_ n6_
        refine start_ (n := 48) (S := fun w' => w'.cell? ⟨gb295, 0, none⟩ = some (.string a0_0) ∧ w'.cell? ⟨gb295, 1, none⟩ = some (.slice A0_1 l0_1.length c0_1) ∧ w'.cell? ⟨gb296, 0, none⟩ = some (.string a1_0) ∧ w'.cell? ⟨gb296, 1, none⟩ = some (.string a1_1) ∧ w'.cell? ⟨gb296, 2, none⟩ = some (.int .i64 a1_2) ∧ w'.cell? ⟨gb296, 3, none⟩ = some (.int .i64 a1_3) ∧ w'.cell? ⟨gb296, 4, none⟩ = some (.int .i64 a1_4) ∧ w'.cell? ⟨gb296, 5, none⟩ = some (.int .i64 a1_5) ∧ w'.cell? ⟨gb296, 6, none⟩ = some (.bool a1_6) ∧ w'.cell? ⟨gb306, 0, none⟩ = some (.string t298) ∧ w'.cell? ⟨gb306, 1, none⟩ = some (.string t299) ∧ w'.cell? ⟨gb306, 2, none⟩ = some (.int .i64 t300) ∧ w'.cell? ⟨gb306, 3, none⟩ = some (.int .i64 t301) ∧ w'.cell? ⟨gb306, 4, none⟩ = some (.int .i64 t302) ∧ w'.cell? ⟨gb306, 5, none⟩ = some (.int .i64 t303) ∧ w'.cell? ⟨gb306, 6, none⟩ = some (.bool t304) ∧ w'.cell? ⟨gb315, 0, none⟩ = some (.string t307) ∧ w'.cell? ⟨gb315, 1, none⟩ = some (.string t308) ∧ w'.cell? ⟨gb315, 2, none⟩ = some (.int .i64 t309) ∧ w'.cell? ⟨gb315, 3, none⟩ = some (.int .i64 t310) ∧ w'.cell? ⟨gb315, 4, none⟩ = some (.int .i64 t311) ∧ w'.cell? ⟨gb315, 5, none⟩ = some (.int .i64 t312) ∧ w'.cell? ⟨gb315, 6, none⟩ = some (.bool t313) ∧ w'.cell? ⟨gb321, 0, none⟩ = some (.string t316) ∧ w'.cell? ⟨gb321, 1, none⟩ = some (.int .i64 t317) ∧ w'.cell? ⟨gb321, 2, none⟩ = some (.int .i64 t318) ∧ w'.cell? ⟨gb321, 3, none⟩ = some (.int .i64 t319) ∧ w'.cell? ⟨gb327, 0, none⟩ = some (.string t322) ∧ w'.cell? ⟨gb327, 1, none⟩ = some (.int .i64 t323) ∧ w'.cell? ⟨gb327, 2, none⟩ = some (.int .i64 t324) ∧ w'.cell? ⟨gb327, 3, none⟩ = some (.int .i64 t325)) (ds := []) #[false, false, false, false, false, false, false, false, false, false, false, false, false, false, false, false, false, false, false, false, false, false, false, false, false, false, false, false, false, false, false, false, false, false, false, false, false, false, false, false, false, false, false, false, false, false, false, false] (by kernel_rfl) rfl rfl ⟨(Zc BK295.out 0).trans rfl, (Zc BK295.out 1).trans rfl, (Zc BK296.out 0).trans rfl, (Zc BK296.out 1).trans rfl, (Zc BK296.out 2).trans rfl, (Zc BK296.out 3).trans rfl, (Zc BK296.out 4).trans rfl, (Zc BK296.out 5).trans rfl, (Zc BK296.out 6).trans rfl, (Zc BK306.out 0).trans rfl, (Zc BK306.out 1).trans rfl, (Zc BK306.out 2).trans rfl, (Zc BK306.out 3).trans rfl, (Zc BK306.out 4).trans rfl, (Zc BK306.out 5).trans rfl, (Zc BK306.out 6).trans rfl, (Zc BK315.out 0).trans rfl, (Zc BK315.out 1).trans rfl, (Zc BK315.out 2).trans rfl, (Zc BK315.out 3).trans rfl, (Zc BK315.out 4).trans rfl, (Zc BK315.out 5).trans rfl, (Zc BK315.out 6).trans rfl, (Zc BK321.out 0).trans rfl, (Zc BK321.out 1).trans rfl, (Zc BK321.out 2).trans rfl, (Zc BK321.out 3).trans rfl, (Zc BK327.out 0).trans rfl, (Zc BK327.out 1).trans rfl, (Zc BK327.out 2).trans rfl, (Zc BK327.out 3).trans rfl⟩ (fun hHeld => ?_); refine with_tabW palinodelaw19_SagaTells.tab6 palinodelaw19_SagaTells.bits6 (fun HT_ HW_ => ?_)
        generalize w97.drew = w98 at BK295 BK296 BK306 BK315 BK321 BK327 HB hHeld ⊢
        refine pure_ (i := 0) (N := some 43) (v := ?_) (a' := ?_) #[true, false, false, false, false, false, false, false, false, false, false, false, false, false, false, false, false, false, false, false, false, false, false, false, false, false, false, false, false, false, false, false, false, false, false, false, false, false, false, false, false, false, false, false, false, false, false, false] rfl rfl (any_of HT_.out (by kernel_rfl)) (fun _ _ _ h => h) (Or.inl ⟨by rfl, ?_⟩) ?_ ?_
        rotate_left
        ·
         intro w'
         go_simp
         with_reducible rfl
        rotate_left
        ·
         simp only [Act.put, List.setIfInBounds_toArray, List.set_cons_zero, List.set_cons_succ, i64_w, i32_w]
         rfl
        refine pure_ (i := 1) (N := some 44) (v := ?_) (a' := ?_) #[true, true, false, false, false, false, false, false, false, false, false, false, false, false, false, false, false, false, false, false, false, false, false, false, false, false, false, false, false, false, false, false, false, false, false, false, false, false, false, false, false, false, false, false, false, false, false, false] rfl rfl (any_of HT_.out (by kernel_rfl)) (fun _ _ _ h => h) (Or.inl ⟨by rfl, ?_⟩) ?_ ?_
        rotate_left
        ·
         intro w'
         go_simp
         with_reducible rfl
        rotate_left
        ·
         simp only [Act.put, List.setIfInBounds_toArray, List.set_cons_zero, List.set_cons_succ, i64_w, i32_w]
         rfl
        refine take_ (i := 2) (N := some 45) (v := ?_) (a' := ?_) #[true, true, true, false, false, false, false, false, false, false, false, false, false, false, false, false, false, false, false, false, false, false, false, false, false, false, false, false, false, false, false, false, false, false, false, false, false, false, false, false, false, false, false, false, false, false, false, false] rfl rfl (take_ofW HT_.out HW_.out (by kernel_rfl)) (fun _ _ _ h => h) (Or.inl ⟨by rfl, ?_⟩) hHeld ?_ ?_
        rotate_left
        ·
         rintro w' ⟨s0, s1, s2, s3, s4, s5, s6, s7, s8, s9, s10, s11, s12, s13, s14, s15, s16, s17, s18, s19, s20, s21, s22, s23, s24, s25, s26, s27, s28, s29, s30⟩
         go_simp
         with_reducible rfl
        rotate_left
        ·
         simp only [Act.put, List.setIfInBounds_toArray, List.set_cons_zero, List.set_cons_succ, i64_w, i32_w]
         rfl
        refine take_ (i := 3) (N := some 46) (v := ?_) (a' := ?_) #[true, true, true, true, false, false, false, false, false, false, false, false, false, false, false, false, false, false, false, false, false, false, false, false, false, false, false, false, false, false, false, false, false, false, false, false, false, false, false, false, false, false, false, false, false, false, false, false] rfl rfl (take_ofW HT_.out HW_.out (by kernel_rfl)) (fun _ _ _ h => h) (Or.inl ⟨by rfl, ?_⟩) hHeld ?_ ?_
        rotate_left
        ·
         rintro w' ⟨s0, s1, s2, s3, s4, s5, s6, s7, s8, s9, s10, s11, s12, s13, s14, s15, s16, s17, s18, s19, s20, s21, s22, s23, s24, s25, s26, s27, s28, s29, s30⟩
         go_simp
         with_reducible rfl
        rotate_left
        ·
         simp only [Act.put, List.setIfInBounds_toArray, List.set_cons_zero, List.set_cons_succ, i64_w, i32_w]
         rfl
        refine take_ (i := 5) (N := some 48) (v := ?_) (a' := ?_) #[true, true, true, true, false, true, false, false, false, false, false, false, false, false, false, false, false, false, false, false, false, false, false, false, false, false, false, false, false, false, false, false, false, false, false, false, false, false, false, false, false, false, false, false, false, false, false, false] rfl rfl (take_ofW HT_.out HW_.out (by kernel_rfl)) (fun _ _ _ h => h) (Or.inl ⟨by rfl, ?_⟩) hHeld ?_ ?_
        rotate_left
        ·
         rintro w' ⟨s0, s1, s2, s3, s4, s5, s6, s7, s8, s9, s10, s11, s12, s13, s14, s15, s16, s17, s18, s19, s20, s21, s22, s23, s24, s25, s26, s27, s28, s29, s30⟩
         go_simp
         with_reducible rfl
        rotate_left
        ·
         simp only [Act.put, List.setIfInBounds_toArray, List.set_cons_zero, List.set_cons_succ, i64_w, i32_w]
         rfl
        refine take_ (i := 6) (N := some 49) (v := ?_) (a' := ?_) #[true, true, true, true, false, true, true, false, false, false, false, false, false, false, false, false, false, false, false, false, false, false, false, false, false, false, false, false, false, false, false, false, false, false, false, false, false, false, false, false, false, false, false, false, false, false, false, false] rfl rfl (take_ofW HT_.out HW_.out (by kernel_rfl)) (fun _ _ _ h => h) (Or.inl ⟨by rfl, ?_⟩) hHeld ?_ ?_
        rotate_left
        ·
         rintro w' ⟨s0, s1, s2, s3, s4, s5, s6, s7, s8, s9, s10, s11, s12, s13, s14, s15, s16, s17, s18, s19, s20, s21, s22, s23, s24, s25, s26, s27, s28, s29, s30⟩
         go_simp
         with_reducible rfl
        rotate_left
        ·
         simp only [Act.put, List.setIfInBounds_toArray, List.set_cons_zero, List.set_cons_succ, i64_w, i32_w]
         rfl
        refine one_ (i := 4) (N := some 47) #[true, true, true, true, true, true, true, false, false, false, false, false, false, false, false, false, false, false, false, false, false, false, false, false, false, false, false, false, false, false, false, false, false, false, false, false, false, false, false, false, false, false, false, false, false, false, false, false] rfl rfl (one_of HT_.out (by kernel_rfl)) (by decide) (fun K hK => ?_)
        refine goes_ Try.func18 (by kernel_rfl) rfl #[.agg #[.string a0_0, .slice A0_1 l0_1.length c0_1], .agg #[.string a1_0, .string a1_1, .int .i64 a1_2, .int .i64 a1_3, .int .i64 a1_4, .int .i64 a1_5, .bool a1_6]] (by rfl) rfl rfl (by (try simp only [List.map_toArray, List.map_cons, List.map_nil]); first | done | rfl | (simp only [List.length_drop, List.length_take]; rfl)) ?_
        with_reducible refine (saga_Right.calls k a0_0 _ _ l0_1 a1_0 a1_1 a1_2 a1_3 a1_4 a1_5 a1_6 t328 _ ?side1 ?side2 A11.out).mono ?_
        (case side1 => repeat (first | exact (Kd.C_below HR0_1.out HB.out) | (with_reducible refine Kd.C_alloc ?_ _) | (with_reducible refine Kd.C_drewN ?_ _) | (with_reducible refine Kd.C_drew ?_)))
        (case side2 => exact HC0_1.out)
        rintro e w99 ⟨rfl, hb⟩
        refine ⟨_, rfl, ?_⟩
        have n0_ := Aside0.mk (Zv BK295 hb)
        have n1_ := Aside0.mk (Zv BK296 hb)
        have n2_ := Aside0.mk (Zv BK306 hb)
        have n3_ := Aside0.mk (Zv BK315 hb)
        have n4_ := Aside0.mk (Zv BK321 hb)
        have n5_ := Aside0.mk (Zv BK327 hb)
        have n6_ := Aside0.mk (Yv HB hb)
        clear BK295
        clear BK296
        clear BK306
        clear BK315
        clear BK321
        clear BK327
        clear HB
        have BK295 := n0_
        have BK296 := n1_
        have BK306 := n2_
        have BK315 := n3_
        have BK321 := n4_
        have BK327 := n5_
        have HB := n6_
        clear n0_ n1_ n2_ n3_ n4_ n5_ n6_
        (try clear hb)
        (try clear hb2)
        (try clear hk)
        (try clear hi)
        refine hK.out _ _ ⟨(Zc BK295.out 0).trans rfl, (Zc BK295.out 1).trans rfl, (Zc BK296.out 0).trans rfl, (Zc BK296.out 1).trans rfl, (Zc BK296.out 2).trans rfl, (Zc BK296.out 3).trans rfl, (Zc BK296.out 4).trans rfl, (Zc BK296.out 5).trans rfl, (Zc BK296.out 6).trans rfl, (Zc BK306.out 0).trans rfl, (Zc BK306.out 1).trans rfl, (Zc BK306.out 2).trans rfl, (Zc BK306.out 3).trans rfl, (Zc BK306.out 4).trans rfl, (Zc BK306.out 5).trans rfl, (Zc BK306.out 6).trans rfl, (Zc BK315.out 0).trans rfl, (Zc BK315.out 1).trans rfl, (Zc BK315.out 2).trans rfl, (Zc BK315.out 3).trans rfl, (Zc BK315.out 4).trans rfl, (Zc BK315.out 5).trans rfl, (Zc BK315.out 6).trans rfl, (Zc BK321.out 0).trans rfl, (Zc BK321.out 1).trans rfl, (Zc BK321.out 2).trans rfl, (Zc BK321.out 3).trans rfl, (Zc BK327.out 0).trans rfl, (Zc BK327.out 1).trans rfl, (Zc BK327.out 2).trans rfl, (Zc BK327.out 3).trans rfl⟩ (fun hHeld => ?_)
        clear hK K
        refine norm_ (a' := ?_) ?_ ?_
        rotate_left
        ·
         show Act.put _ (some 47) _ = _
         simp only [Act.put, List.setIfInBounds_toArray, List.set_cons_zero, List.set_cons_succ, i64_w, i32_w]
         rfl
        refine one_ (i := 7) (N := some 50) #[true, true, true, true, true, true, true, true, false, false, false, false, false, false, false, false, false, false, false, false, false, false, false, false, false, false, false, false, false, false, false, false, false, false, false, false, false, false, false, false, false, false, false, false, false, false, false, false] rfl rfl (one_of HT_.out (by kernel_rfl)) (by decide) (fun K hK => ?_)
        refine goes_ Try.func19 (by kernel_rfl) rfl #[.agg #[.string a0_0, .slice A0_1 l0_1.length c0_1], .agg #[.string a1_0, .string a1_1, .int .i64 a1_2, .int .i64 a1_3, .int .i64 a1_4, .int .i64 a1_5, .bool a1_6]] (by rfl) rfl rfl (by (try simp only [List.map_toArray, List.map_cons, List.map_nil]); first | done | rfl | (simp only [List.length_drop, List.length_take]; rfl)) ?_
        with_reducible refine (palinoderef19_Right.calls k a0_0 _ _ l0_1 a1_0 a1_1 a1_2 a1_3 a1_4 a1_5 a1_6 t329 _ ?side1 ?side2 A12.out).mono ?_
        (case side1 => repeat (first | exact (Kd.C_below HR0_1.out HB.out) | (with_reducible refine Kd.C_alloc ?_ _) | (with_reducible refine Kd.C_drewN ?_ _) | (with_reducible refine Kd.C_drew ?_)))
        (case side2 => exact HC0_1.out)
        rintro e w100 ⟨rfl, hb⟩
        refine ⟨_, rfl, ?_⟩
        have n0_ := Aside0.mk (Zv BK295 hb)
        have n1_ := Aside0.mk (Zv BK296 hb)
        have n2_ := Aside0.mk (Zv BK306 hb)
        have n3_ := Aside0.mk (Zv BK315 hb)
        have n4_ := Aside0.mk (Zv BK321 hb)
        have n5_ := Aside0.mk (Zv BK327 hb)
        have n6_ := Aside0.mk (Yv HB hb)
        clear BK295
        clear BK296
        clear BK306
        clear BK315
        clear BK321
        clear BK327
        clear HB
        have BK295 := n0_
        have BK296 := n1_
        have BK306 := n2_
        have BK315 := n3_
        have BK321 := n4_
        have BK327 := n5_
        have HB := n6_
        clear n0_ n1_ n2_ n3_ n4_ n5_ n6_
        (try clear hb)
        (try clear hb2)
        (try clear hk)
        (try clear hi)
        refine hK.out _ _ ⟨(Zc BK295.out 0).trans rfl, (Zc BK295.out 1).trans rfl, (Zc BK296.out 0).trans rfl, (Zc BK296.out 1).trans rfl, (Zc BK296.out 2).trans rfl, (Zc BK296.out 3).trans rfl, (Zc BK296.out 4).trans rfl, (Zc BK296.out 5).trans rfl, (Zc BK296.out 6).trans rfl, (Zc BK306.out 0).trans rfl, (Zc BK306.out 1).trans rfl, (Zc BK306.out 2).trans rfl, (Zc BK306.out 3).trans rfl, (Zc BK306.out 4).trans rfl, (Zc BK306.out 5).trans rfl, (Zc BK306.out 6).trans rfl, (Zc BK315.out 0).trans rfl, (Zc BK315.out 1).trans rfl, (Zc BK315.out 2).trans rfl, (Zc BK315.out 3).trans rfl, (Zc BK315.out 4).trans rfl, (Zc BK315.out 5).trans rfl, (Zc BK315.out 6).trans rfl, (Zc BK321.out 0).trans rfl, (Zc BK321.out 1).trans rfl, (Zc BK321.out 2).trans rfl, (Zc BK321.out 3).trans rfl, (Zc BK327.out 0).trans rfl, (Zc BK327.out 1).trans rfl, (Zc BK327.out 2).trans rfl, (Zc BK327.out 3).trans rfl⟩ (fun hHeld => ?_)
        clear hK K
        refine norm_ (a' := ?_) ?_ ?_
        rotate_left
        ·
         show Act.put _ (some 50) _ = _
         simp only [Act.put, List.setIfInBounds_toArray, List.set_cons_zero, List.set_cons_succ, i64_w, i32_w]
         rfl
        refine pure_ (i := 8) (N := some 51) (v := ?_) (a' := ?_) #[true, true, true, true, true, true, true, true, true, false, false, false, false, false, false, false, false, false, false, false, false, false, false, false, false, false, false, false, false, false, false, false, false, false, false, false, false, false, false, false, false, false, false, false, false, false, false, false] rfl rfl (any_of HT_.out (by kernel_rfl)) (fun _ _ _ h => h) (Or.inl ⟨by rfl, ?_⟩) ?_ ?_
        rotate_left
        ·
         intro w'
         go_simp
         with_reducible rfl
        rotate_left
        ·
         simp only [Act.put, List.setIfInBounds_toArray, List.set_cons_zero, List.set_cons_succ, i64_w, i32_w]
         rfl
        refine pure_ (i := 9) (N := some 52) (v := ?_) (a' := ?_) #[true, true, true, true, true, true, true, true, true, true, false, false, false, false, false, false, false, false, false, false, false, false, false, false, false, false, false, false, false, false, false, false, false, false, false, false, false, false, false, false, false, false, false, false, false, false, false, false] rfl rfl (any_of HT_.out (by kernel_rfl)) (fun _ _ _ h => h) (Or.inl ⟨by rfl, ?_⟩) ?_ ?_
        rotate_left
        ·
         intro w'
         go_simp
         with_reducible rfl
        rotate_left
        ·
         simp only [Act.put, List.setIfInBounds_toArray, List.set_cons_zero, List.set_cons_succ, i64_w, i32_w]
         rfl
        refine pure_ (i := 10) (N := some 53) (v := ?_) (a' := ?_) #[true, true, true, true, true, true, true, true, true, true, true, false, false, false, false, false, false, false, false, false, false, false, false, false, false, false, false, false, false, false, false, false, false, false, false, false, false, false, false, false, false, false, false, false, false, false, false, false] rfl rfl (any_of HT_.out (by kernel_rfl)) (fun _ _ _ h => h) (Or.inl ⟨by rfl, ?_⟩) ?_ ?_
        rotate_left
        ·
         intro w'
         go_simp
         with_reducible rfl
        rotate_left
        ·
         simp only [Act.put, List.setIfInBounds_toArray, List.set_cons_zero, List.set_cons_succ, i64_w, i32_w]
         rfl
        refine take_ (i := 11) (N := some 54) (v := ?_) (a' := ?_) #[true, true, true, true, true, true, true, true, true, true, true, true, false, false, false, false, false, false, false, false, false, false, false, false, false, false, false, false, false, false, false, false, false, false, false, false, false, false, false, false, false, false, false, false, false, false, false, false] rfl rfl (take_ofW HT_.out HW_.out (by kernel_rfl)) (fun _ _ _ h => h) (Or.inl ⟨by rfl, ?_⟩) hHeld ?_ ?_
        rotate_left
        ·
         rintro w' ⟨s0, s1, s2, s3, s4, s5, s6, s7, s8, s9, s10, s11, s12, s13, s14, s15, s16, s17, s18, s19, s20, s21, s22, s23, s24, s25, s26, s27, s28, s29, s30⟩
         go_simp
         with_reducible rfl
        rotate_left
        ·
         simp only [Act.put, List.setIfInBounds_toArray, List.set_cons_zero, List.set_cons_succ, i64_w, i32_w]
         rfl
        refine take_ (i := 13) (N := some 56) (v := ?_) (a' := ?_) #[true, true, true, true, true, true, true, true, true, true, true, true, false, true, false, false, false, false, false, false, false, false, false, false, false, false, false, false, false, false, false, false, false, false, false, false, false, false, false, false, false, false, false, false, false, false, false, false] rfl rfl (take_ofW HT_.out HW_.out (by kernel_rfl)) (fun _ _ _ h => h) (Or.inl ⟨by rfl, ?_⟩) hHeld ?_ ?_
        rotate_left
        ·
         rintro w' ⟨s0, s1, s2, s3, s4, s5, s6, s7, s8, s9, s10, s11, s12, s13, s14, s15, s16, s17, s18, s19, s20, s21, s22, s23, s24, s25, s26, s27, s28, s29, s30⟩
         go_simp
         with_reducible rfl
        rotate_left
        ·
         simp only [Act.put, List.setIfInBounds_toArray, List.set_cons_zero, List.set_cons_succ, i64_w, i32_w]
         rfl
        refine one_ (i := 12) (N := some 55) #[true, true, true, true, true, true, true, true, true, true, true, true, true, true, false, false, false, false, false, false, false, false, false, false, false, false, false, false, false, false, false, false, false, false, false, false, false, false, false, false, false, false, false, false, false, false, false, false] rfl rfl (one_of HT_.out (by kernel_rfl)) (by decide) (fun K hK => ?_)
        refine goes_ Try.func20 (by kernel_rfl) rfl #[.agg #[.string a1_0, .string a1_1, .int .i64 a1_2, .int .i64 a1_3, .int .i64 a1_4, .int .i64 a1_5, .bool a1_6]] (by rfl) rfl rfl (by (try simp only [List.map_toArray, List.map_cons, List.map_nil]); first | done | rfl | (simp only [List.length_drop, List.length_take]; rfl)) ?_
        with_reducible refine (saga_Live.calls a1_0 a1_1 a1_2 a1_3 a1_4 a1_5 a1_6 t330 _ A14.out).mono ?_
        rintro e w101 ⟨rfl, hb⟩
        refine ⟨_, rfl, ?_⟩
        have n0_ := Aside0.mk (Zv BK295 hb)
        have n1_ := Aside0.mk (Zv BK296 hb)
        have n2_ := Aside0.mk (Zv BK306 hb)
        have n3_ := Aside0.mk (Zv BK315 hb)
        have n4_ := Aside0.mk (Zv BK321 hb)
        have n5_ := Aside0.mk (Zv BK327 hb)
        have n6_ := Aside0.mk (Yv HB hb)
        clear BK295
        clear BK296
        clear BK306
        clear BK315
        clear BK321
        clear BK327
        clear HB
        have BK295 := n0_
        have BK296 := n1_
        have BK306 := n2_
        have BK315 := n3_
        have BK321 := n4_
        have BK327 := n5_
        have HB := n6_
        clear n0_ n1_ n2_ n3_ n4_ n5_ n6_
        (try clear hb)
        (try clear hb2)
        (try clear hk)
        (try clear hi)
        refine hK.out _ _ ⟨(Zc BK295.out 0).trans rfl, (Zc BK295.out 1).trans rfl, (Zc BK296.out 0).trans rfl, (Zc BK296.out 1).trans rfl, (Zc BK296.out 2).trans rfl, (Zc BK296.out 3).trans rfl, (Zc BK296.out 4).trans rfl, (Zc BK296.out 5).trans rfl, (Zc BK296.out 6).trans rfl, (Zc BK306.out 0).trans rfl, (Zc BK306.out 1).trans rfl, (Zc BK306.out 2).trans rfl, (Zc BK306.out 3).trans rfl, (Zc BK306.out 4).trans rfl, (Zc BK306.out 5).trans rfl, (Zc BK306.out 6).trans rfl, (Zc BK315.out 0).trans rfl, (Zc BK315.out 1).trans rfl, (Zc BK315.out 2).trans rfl, (Zc BK315.out 3).trans rfl, (Zc BK315.out 4).trans rfl, (Zc BK315.out 5).trans rfl, (Zc BK315.out 6).trans rfl, (Zc BK321.out 0).trans rfl, (Zc BK321.out 1).trans rfl, (Zc BK321.out 2).trans rfl, (Zc BK321.out 3).trans rfl, (Zc BK327.out 0).trans rfl, (Zc BK327.out 1).trans rfl, (Zc BK327.out 2).trans rfl, (Zc BK327.out 3).trans rfl⟩ (fun hHeld => ?_)
        clear hK K
        refine norm_ (a' := ?_) ?_ ?_
        rotate_left
        ·
         show Act.put _ (some 55) _ = _
         simp only [Act.put, List.setIfInBounds_toArray, List.set_cons_zero, List.set_cons_succ, i64_w, i32_w]
         rfl
        refine one_ (i := 14) (N := some 57) #[true, true, true, true, true, true, true, true, true, true, true, true, true, true, true, false, false, false, false, false, false, false, false, false, false, false, false, false, false, false, false, false, false, false, false, false, false, false, false, false, false, false, false, false, false, false, false, false] rfl rfl (one_of HT_.out (by kernel_rfl)) (by decide) (fun K hK => ?_)
        refine goes_ Try.func21 (by kernel_rfl) rfl #[.agg #[.string a1_0, .string a1_1, .int .i64 a1_2, .int .i64 a1_3, .int .i64 a1_4, .int .i64 a1_5, .bool a1_6]] (by rfl) rfl rfl (by (try simp only [List.map_toArray, List.map_cons, List.map_nil]); first | done | rfl | (simp only [List.length_drop, List.length_take]; rfl)) ?_
        with_reducible refine (palinoderef19_Live.calls a1_0 a1_1 a1_2 a1_3 a1_4 a1_5 a1_6 t331 _ A15.out).mono ?_
        rintro e w102 ⟨rfl, hb⟩
        refine ⟨_, rfl, ?_⟩
        have n0_ := Aside0.mk (Zv BK295 hb)
        have n1_ := Aside0.mk (Zv BK296 hb)
        have n2_ := Aside0.mk (Zv BK306 hb)
        have n3_ := Aside0.mk (Zv BK315 hb)
        have n4_ := Aside0.mk (Zv BK321 hb)
        have n5_ := Aside0.mk (Zv BK327 hb)
        have n6_ := Aside0.mk (Yv HB hb)
        clear BK295
        clear BK296
        clear BK306
        clear BK315
        clear BK321
        clear BK327
        clear HB
        have BK295 := n0_
        have BK296 := n1_
        have BK306 := n2_
        have BK315 := n3_
        have BK321 := n4_
        have BK327 := n5_
        have HB := n6_
        clear n0_ n1_ n2_ n3_ n4_ n5_ n6_
        (try clear hb)
        (try clear hb2)
        (try clear hk)
        (try clear hi)
        have CA60 := fun W => palinodelaw19_is.calls t305 1 true W A60.out
        try simp only [errW_none, errW_some] at CA60
        refine hK.out _ _ ⟨(Zc BK295.out 0).trans rfl, (Zc BK295.out 1).trans rfl, (Zc BK296.out 0).trans rfl, (Zc BK296.out 1).trans rfl, (Zc BK296.out 2).trans rfl, (Zc BK296.out 3).trans rfl, (Zc BK296.out 4).trans rfl, (Zc BK296.out 5).trans rfl, (Zc BK296.out 6).trans rfl, (Zc BK306.out 0).trans rfl, (Zc BK306.out 1).trans rfl, (Zc BK306.out 2).trans rfl, (Zc BK306.out 3).trans rfl, (Zc BK306.out 4).trans rfl, (Zc BK306.out 5).trans rfl, (Zc BK306.out 6).trans rfl, (Zc BK315.out 0).trans rfl, (Zc BK315.out 1).trans rfl, (Zc BK315.out 2).trans rfl, (Zc BK315.out 3).trans rfl, (Zc BK315.out 4).trans rfl, (Zc BK315.out 5).trans rfl, (Zc BK315.out 6).trans rfl, (Zc BK321.out 0).trans rfl, (Zc BK321.out 1).trans rfl, (Zc BK321.out 2).trans rfl, (Zc BK321.out 3).trans rfl, (Zc BK327.out 0).trans rfl, (Zc BK327.out 1).trans rfl, (Zc BK327.out 2).trans rfl, (Zc BK327.out 3).trans rfl⟩ (fun hHeld => ?_)
        clear hK K
        refine norm_ (a' := ?_) ?_ ?_
        rotate_left
        ·
         show Act.put _ (some 57) _ = _
         simp only [Act.put, List.setIfInBounds_toArray, List.set_cons_zero, List.set_cons_succ, i64_w, i32_w]
         rfl
        refine pure_ (i := 15) (N := some 58) (v := ?_) (a' := ?_) #[true, true, true, true, true, true, true, true, true, true, true, true, true, true, true, true, false, false, false, false, false, false, false, false, false, false, false, false, false, false, false, false, false, false, false, false, false, false, false, false, false, false, false, false, false, false, false, false] rfl rfl (any_of HT_.out (by kernel_rfl)) (fun _ _ _ h => h) (Or.inl ⟨by rfl, ?_⟩) ?_ ?_
        rotate_left
        ·
         intro w'
         go_simp
         with_reducible rfl
        rotate_left
        ·
         simp only [Act.put, List.setIfInBounds_toArray, List.set_cons_zero, List.set_cons_succ, i64_w, i32_w]
         rfl
        refine pure_ (i := 16) (N := some 59) (v := ?_) (a' := ?_) #[true, true, true, true, true, true, true, true, true, true, true, true, true, true, true, true, true, false, false, false, false, false, false, false, false, false, false, false, false, false, false, false, false, false, false, false, false, false, false, false, false, false, false, false, false, false, false, false] rfl rfl (any_of HT_.out (by kernel_rfl)) (fun _ _ _ h => h) (Or.inl ⟨by rfl, ?_⟩) ?_ ?_
        rotate_left
        ·
         intro w'
         go_simp
         with_reducible rfl
        rotate_left
        ·
         simp only [Act.put, List.setIfInBounds_toArray, List.set_cons_zero, List.set_cons_succ, i64_w, i32_w]
         rfl
        refine pure_ (i := 17) (N := some 60) (v := ?_) (a' := ?_) #[true, true, true, true, true, true, true, true, true, true, true, true, true, true, true, true, true, true, false, false, false, false, false, false, false, false, false, false, false, false, false, false, false, false, false, false, false, false, false, false, false, false, false, false, false, false, false, false] rfl rfl (any_of HT_.out (by kernel_rfl)) (fun _ _ _ h => h) (Or.inl ⟨by rfl, ?_⟩) ?_ ?_
        rotate_left
        ·
         intro w'
         go_simp
         with_reducible rfl
        rotate_left
        ·
         simp only [Act.put, List.setIfInBounds_toArray, List.set_cons_zero, List.set_cons_succ, i64_w, i32_w]
         rfl
        refine take_ (i := 18) (N := some 61) (v := ?_) (a' := ?_) #[true, true, true, true, true, true, true, true, true, true, true, true, true, true, true, true, true, true, true, false, false, false, false, false, false, false, false, false, false, false, false, false, false, false, false, false, false, false, false, false, false, false, false, false, false, false, false, false] rfl rfl (take_ofW HT_.out HW_.out (by kernel_rfl)) (fun _ _ _ h => h) (Or.inl ⟨by rfl, ?_⟩) hHeld ?_ ?_
        rotate_left
        ·
         rintro w' ⟨s0, s1, s2, s3, s4, s5, s6, s7, s8, s9, s10, s11, s12, s13, s14, s15, s16, s17, s18, s19, s20, s21, s22, s23, s24, s25, s26, s27, s28, s29, s30⟩
         go_simp
         with_reducible rfl
        rotate_left
        ·
         simp only [Act.put, List.setIfInBounds_toArray, List.set_cons_zero, List.set_cons_succ, i64_w, i32_w]
         rfl
        refine take_ (i := 19) (N := some 62) (v := ?_) (a' := ?_) #[true, true, true, true, true, true, true, true, true, true, true, true, true, true, true, true, true, true, true, true, false, false, false, false, false, false, false, false, false, false, false, false, false, false, false, false, false, false, false, false, false, false, false, false, false, false, false, false] rfl rfl (take_ofW HT_.out HW_.out (by kernel_rfl)) (fun _ _ _ h => h) (Or.inl ⟨by rfl, ?_⟩) hHeld ?_ ?_
        rotate_left
        ·
         rintro w' ⟨s0, s1, s2, s3, s4, s5, s6, s7, s8, s9, s10, s11, s12, s13, s14, s15, s16, s17, s18, s19, s20, s21, s22, s23, s24, s25, s26, s27, s28, s29, s30⟩
         go_simp
         with_reducible rfl
        rotate_left
        ·
         simp only [Act.put, List.setIfInBounds_toArray, List.set_cons_zero, List.set_cons_succ, i64_w, i32_w]
         rfl
        refine pure_ (i := 20) (N := some 63) (v := ?_) (a' := ?_) #[true, true, true, true, true, true, true, true, true, true, true, true, true, true, true, true, true, true, true, true, true, false, false, false, false, false, false, false, false, false, false, false, false, false, false, false, false, false, false, false, false, false, false, false, false, false, false, false] rfl rfl (any_of HT_.out (by kernel_rfl)) (fun _ _ _ h => h) (Or.inl ⟨by rfl, ?_⟩) ?_ ?_
        rotate_left
        ·
         intro w'
         go_simp
         with_reducible rfl
        rotate_left
        ·
         simp only [Act.put, List.setIfInBounds_toArray, List.set_cons_zero, List.set_cons_succ, i64_w, i32_w]
         rfl
        refine pure_ (i := 21) (N := some 64) (v := ?_) (a' := ?_) #[true, true, true, true, true, true, true, true, true, true, true, true, true, true, true, true, true, true, true, true, true, true, false, false, false, false, false, false, false, false, false, false, false, false, false, false, false, false, false, false, false, false, false, false, false, false, false, false] rfl rfl (any_of HT_.out (by kernel_rfl)) (fun _ _ _ h => h) (Or.inl ⟨by rfl, ?_⟩) ?_ ?_
        rotate_left
        ·
         intro w'
         go_simp
         with_reducible rfl
        rotate_left
        ·
         simp only [Act.put, List.setIfInBounds_toArray, List.set_cons_zero, List.set_cons_succ, i64_w, i32_w]
         rfl
        refine pure_ (i := 22) (N := some 65) (v := ?_) (a' := ?_) #[true, true, true, true, true, true, true, true, true, true, true, true, true, true, true, true, true, true, true, true, true, true, true, false, false, false, false, false, false, false, false, false, false, false, false, false, false, false, false, false, false, false, false, false, false, false, false, false] rfl rfl (any_of HT_.out (by kernel_rfl)) (fun _ _ _ h => h) (Or.inl ⟨by rfl, ?_⟩) ?_ ?_
        rotate_left
        ·
         intro w'
         go_simp
         with_reducible rfl
        rotate_left
        ·
         simp only [Act.put, List.setIfInBounds_toArray, List.set_cons_zero, List.set_cons_succ, i64_w, i32_w]
         rfl
        refine pure_ (i := 23) (N := some 66) (v := ?_) (a' := ?_) #[true, true, true, true, true, true, true, true, true, true, true, true, true, true, true, true, true, true, true, true, true, true, true, true, false, false, false, false, false, false, false, false, false, false, false, false, false, false, false, false, false, false, false, false, false, false, false, false] rfl rfl (any_of HT_.out (by kernel_rfl)) (fun _ _ _ h => h) (Or.inl ⟨by rfl, ?_⟩) ?_ ?_
        rotate_left
        ·
         intro w'
         go_simp
         with_reducible rfl
        rotate_left
        ·
         simp only [Act.put, List.setIfInBounds_toArray, List.set_cons_zero, List.set_cons_succ, i64_w, i32_w]
         rfl
        refine pure_ (i := 24) (N := some 67) (v := ?_) (a' := ?_) #[true, true, true, true, true, true, true, true, true, true, true, true, true, true, true, true, true, true, true, true, true, true, true, true, true, false, false, false, false, false, false, false, false, false, false, false, false, false, false, false, false, false, false, false, false, false, false, false] rfl rfl (any_of HT_.out (by kernel_rfl)) (fun _ _ _ h => h) (Or.inl ⟨by rfl, ?_⟩) ?_ ?_
        rotate_left
        ·
         intro w'
         go_simp
         with_reducible rfl
        rotate_left
        ·
         simp only [Act.put, List.setIfInBounds_toArray, List.set_cons_zero, List.set_cons_succ, i64_w, i32_w]
         rfl
        refine pure_ (i := 25) (N := some 68) (v := undef) (a' := ?_) #[true, true, true, true, true, true, true, true, true, true, true, true, true, true, true, true, true, true, true, true, true, true, true, true, true, true, false, false, false, false, false, false, false, false, false, false, false, false, false, false, false, false, false, false, false, false, false, false] rfl rfl (any_of HT_.out (by kernel_rfl)) (fun _ _ _ h => h) (Or.inr ⟨by rfl, rfl⟩) ?_ ?_
        rotate_left
        ·
         simp only [Act.put, List.setIfInBounds_toArray, List.set_cons_zero, List.set_cons_succ, i64_w, i32_w]
         rfl
        refine pure_ (i := 26) (N := some 69) (v := undef) (a' := ?_) #[true, true, true, true, true, true, true, true, true, true, true, true, true, true, true, true, true, true, true, true, true, true, true, true, true, true, true, false, false, false, false, false, false, false, false, false, false, false, false, false, false, false, false, false, false, false, false, false] rfl rfl (any_of HT_.out (by kernel_rfl)) (fun _ _ _ h => h) (Or.inr ⟨by rfl, rfl⟩) ?_ ?_
        rotate_left
        ·
         simp only [Act.put, List.setIfInBounds_toArray, List.set_cons_zero, List.set_cons_succ, i64_w, i32_w]
         rfl
        refine pure_ (i := 27) (N := some 70) (v := ?_) (a' := ?_) #[true, true, true, true, true, true, true, true, true, true, true, true, true, true, true, true, true, true, true, true, true, true, true, true, true, true, true, true, false, false, false, false, false, false, false, false, false, false, false, false, false, false, false, false, false, false, false, false] rfl rfl (any_of HT_.out (by kernel_rfl)) (fun _ _ _ h => h) (Or.inl ⟨by rfl, ?_⟩) ?_ ?_
        rotate_left
        ·
         intro w'
         go_simp
         with_reducible rfl
        rotate_left
        ·
         simp only [Act.put, List.setIfInBounds_toArray, List.set_cons_zero, List.set_cons_succ, i64_w, i32_w]
         rfl
        refine pure_ (i := 28) (N := some 71) (v := ?_) (a' := ?_) #[true, true, true, true, true, true, true, true, true, true, true, true, true, true, true, true, true, true, true, true, true, true, true, true, true, true, true, true, true, false, false, false, false, false, false, false, false, false, false, false, false, false, false, false, false, false, false, false] rfl rfl (any_of HT_.out (by kernel_rfl)) (fun _ _ _ h => h) (Or.inl ⟨by rfl, ?_⟩) ?_ ?_
        rotate_left
        ·
         intro w'
         go_simp
         with_reducible rfl
        rotate_left
        ·
         simp only [Act.put, List.setIfInBounds_toArray, List.set_cons_zero, List.set_cons_succ, i64_w, i32_w]
         rfl
        refine pure_ (i := 29) (N := some 72) (v := ?_) (a' := ?_) #[true, true, true, true, true, true, true, true, true, true, true, true, true, true, true, true, true, true, true, true, true, true, true, true, true, true, true, true, true, true, false, false, false, false, false, false, false, false, false, false, false, false, false, false, false, false, false, false] rfl rfl (any_of HT_.out (by kernel_rfl)) (fun _ _ _ h => h) (Or.inl ⟨by rfl, ?_⟩) ?_ ?_
        rotate_left
        ·
         intro w'
         go_simp
         with_reducible rfl
        rotate_left
        ·
         simp only [Act.put, List.setIfInBounds_toArray, List.set_cons_zero, List.set_cons_succ, i64_w, i32_w]
         rfl
        refine pure_ (i := 30) (N := some 73) (v := ?_) (a' := ?_) #[true, true, true, true, true, true, true, true, true, true, true, true, true, true, true, true, true, true, true, true, true, true, true, true, true, true, true, true, true, true, true, false, false, false, false, false, false, false, false, false, false, false, false, false, false, false, false, false] rfl rfl (any_of HT_.out (by kernel_rfl)) (fun _ _ _ h => h) (Or.inl ⟨by rfl, ?_⟩) ?_ ?_
        rotate_left
        ·
         intro w'
         go_simp
         with_reducible rfl
        rotate_left
        ·
         simp only [Act.put, List.setIfInBounds_toArray, List.set_cons_zero, List.set_cons_succ, i64_w, i32_w]
         rfl
        refine pure_ (i := 31) (N := some 74) (v := ?_) (a' := ?_) #[true, true, true, true, true, true, true, true, true, true, true, true, true, true, true, true, true, true, true, true, true, true, true, true, true, true, true, true, true, true, true, true, false, false, false, false, false, false, false, false, false, false, false, false, false, false, false, false] rfl rfl (any_of HT_.out (by kernel_rfl)) (fun _ _ _ h => h) (Or.inl ⟨by rfl, ?_⟩) ?_ ?_
        rotate_left
        ·
         intro w'
         go_simp
         with_reducible rfl
        rotate_left
        ·
         simp only [Act.put, List.setIfInBounds_toArray, List.set_cons_zero, List.set_cons_succ, i64_w, i32_w]
         rfl
        refine pure_ (i := 32) (N := some 75) (v := ?_) (a' := ?_) #[true, true, true, true, true, true, true, true, true, true, true, true, true, true, true, true, true, true, true, true, true, true, true, true, true, true, true, true, true, true, true, true, true, false, false, false, false, false, false, false, false, false, false, false, false, false, false, false] rfl rfl (any_of HT_.out (by kernel_rfl)) (fun _ _ _ h => h) (Or.inl ⟨by rfl, ?_⟩) ?_ ?_
        rotate_left
        ·
         intro w'
         go_simp
         with_reducible rfl
        rotate_left
        ·
         simp only [Act.put, List.setIfInBounds_toArray, List.set_cons_zero, List.set_cons_succ, i64_w, i32_w]
         rfl
        refine one_ (i := 33) (N := some 76) #[true, true, true, true, true, true, true, true, true, true, true, true, true, true, true, true, true, true, true, true, true, true, true, true, true, true, true, true, true, true, true, true, true, true, false, false, false, false, false, false, false, false, false, false, false, false, false, false] rfl rfl (one_of HT_.out (by kernel_rfl)) (by decide) (fun K hK => ?_)
        refine goes_ Try.func22 (by kernel_rfl) rfl #[errW t305, .int .i64 1] (by rfl) rfl rfl (by (try simp only [List.map_toArray, List.map_cons, List.map_nil]); first | done | rfl | (simp only [List.length_drop, List.length_take]; rfl)) ?_
        with_reducible refine (CA60 _).mono ?_
        rintro e w' ⟨rfl, ⟨nd, rfl⟩⟩
        refine ⟨_, rfl, ?_⟩
        refine hK.out _ _ ⟨(Zc BK295.out 0).trans rfl, (Zc BK295.out 1).trans rfl, (Zc BK296.out 0).trans rfl, (Zc BK296.out 1).trans rfl, (Zc BK296.out 2).trans rfl, (Zc BK296.out 3).trans rfl, (Zc BK296.out 4).trans rfl, (Zc BK296.out 5).trans rfl, (Zc BK296.out 6).trans rfl, (Zc BK306.out 0).trans rfl, (Zc BK306.out 1).trans rfl, (Zc BK306.out 2).trans rfl, (Zc BK306.out 3).trans rfl, (Zc BK306.out 4).trans rfl, (Zc BK306.out 5).trans rfl, (Zc BK306.out 6).trans rfl, (Zc BK315.out 0).trans rfl, (Zc BK315.out 1).trans rfl, (Zc BK315.out 2).trans rfl, (Zc BK315.out 3).trans rfl, (Zc BK315.out 4).trans rfl, (Zc BK315.out 5).trans rfl, (Zc BK315.out 6).trans rfl, (Zc BK321.out 0).trans rfl, (Zc BK321.out 1).trans rfl, (Zc BK321.out 2).trans rfl, (Zc BK321.out 3).trans rfl, (Zc BK327.out 0).trans rfl, (Zc BK327.out 1).trans rfl, (Zc BK327.out 2).trans rfl, (Zc BK327.out 3).trans rfl⟩ (fun hHeld => ?_)
        clear hK K
        refine norm_ (a' := ?_) ?_ ?_
        rotate_left
        ·
         show Act.put _ (some 76) _ = _
         simp only [Act.put, List.setIfInBounds_toArray, List.set_cons_zero, List.set_cons_succ, i64_w, i32_w]
         rfl
        refine pure_ (i := 34) (N := some 77) (v := ?_) (a' := ?_) #[true, true, true, true, true, true, true, true, true, true, true, true, true, true, true, true, true, true, true, true, true, true, true, true, true, true, true, true, true, true, true, true, true, true, true, false, false, false, false, false, false, false, false, false, false, false, false, false] rfl rfl (any_of HT_.out (by kernel_rfl)) (fun _ _ _ h => h) (Or.inl ⟨by rfl, ?_⟩) ?_ ?_
        rotate_left
        ·
         intro w'
         go_simp
         with_reducible rfl
        rotate_left
        ·
         simp only [Act.put, List.setIfInBounds_toArray, List.set_cons_zero, List.set_cons_succ, i64_w, i32_w]
         rfl
        refine pure_ (i := 35) (N := some 78) (v := ?_) (a' := ?_) #[true, true, true, true, true, true, true, true, true, true, true, true, true, true, true, true, true, true, true, true, true, true, true, true, true, true, true, true, true, true, true, true, true, true, true, true, false, false, false, false, false, false, false, false, false, false, false, false] rfl rfl (any_of HT_.out (by kernel_rfl)) (fun _ _ _ h => h) (Or.inl ⟨by rfl, ?_⟩) ?_ ?_
        rotate_left
        ·
         intro w'
         go_simp
         with_reducible rfl
        rotate_left
        ·
         simp only [Act.put, List.setIfInBounds_toArray, List.set_cons_zero, List.set_cons_succ, i64_w, i32_w]
         rfl
        refine pure_ (i := 36) (N := some 79) (v := ?_) (a' := ?_) #[true, true, true, true, true, true, true, true, true, true, true, true, true, true, true, true, true, true, true, true, true, true, true, true, true, true, true, true, true, true, true, true, true, true, true, true, true, false, false, false, false, false, false, false, false, false, false, false] rfl rfl (any_of HT_.out (by kernel_rfl)) (fun _ _ _ h => h) (Or.inl ⟨by rfl, ?_⟩) ?_ ?_
        rotate_left
        ·
         intro w'
         go_simp
         with_reducible rfl
        rotate_left
        ·
         simp only [Act.put, List.setIfInBounds_toArray, List.set_cons_zero, List.set_cons_succ, i64_w, i32_w]
         rfl
        refine pure_ (i := 37) (N := some 80) (v := ?_) (a' := ?_) #[true, true, true, true, true, true, true, true, true, true, true, true, true, true, true, true, true, true, true, true, true, true, true, true, true, true, true, true, true, true, true, true, true, true, true, true, true, true, false, false, false, false, false, false, false, false, false, false] rfl rfl (any_of HT_.out (by kernel_rfl)) (fun _ _ _ h => h) (Or.inl ⟨by rfl, ?_⟩) ?_ ?_
        rotate_left
        ·
         intro w'
         go_simp
         with_reducible rfl
        rotate_left
        ·
         simp only [Act.put, List.setIfInBounds_toArray, List.set_cons_zero, List.set_cons_succ, i64_w, i32_w]
         rfl
        refine take_ (i := 38) (N := some 81) (v := ?_) (a' := ?_) #[true, true, true, true, true, true, true, true, true, true, true, true, true, true, true, true, true, true, true, true, true, true, true, true, true, true, true, true, true, true, true, true, true, true, true, true, true, true, true, false, false, false, false, false, false, false, false, false] rfl rfl (take_ofW HT_.out HW_.out (by kernel_rfl)) (fun _ _ _ h => h) (Or.inl ⟨by rfl, ?_⟩) hHeld ?_ ?_
        rotate_left
        ·
         rintro w' ⟨s0, s1, s2, s3, s4, s5, s6, s7, s8, s9, s10, s11, s12, s13, s14, s15, s16, s17, s18, s19, s20, s21, s22, s23, s24, s25, s26, s27, s28, s29, s30⟩
         go_simp
         with_reducible rfl
        rotate_left
        ·
         simp only [Act.put, List.setIfInBounds_toArray, List.set_cons_zero, List.set_cons_succ, i64_w, i32_w]
         rfl
        refine take_ (i := 39) (N := some 82) (v := ?_) (a' := ?_) #[true, true, true, true, true, true, true, true, true, true, true, true, true, true, true, true, true, true, true, true, true, true, true, true, true, true, true, true, true, true, true, true, true, true, true, true, true, true, true, true, false, false, false, false, false, false, false, false] rfl rfl (take_ofW HT_.out HW_.out (by kernel_rfl)) (fun _ _ _ h => h) (Or.inl ⟨by rfl, ?_⟩) hHeld ?_ ?_
        rotate_left
        ·
         rintro w' ⟨s0, s1, s2, s3, s4, s5, s6, s7, s8, s9, s10, s11, s12, s13, s14, s15, s16, s17, s18, s19, s20, s21, s22, s23, s24, s25, s26, s27, s28, s29, s30⟩
         go_simp
         with_reducible rfl
        rotate_left
        ·
         simp only [Act.put, List.setIfInBounds_toArray, List.set_cons_zero, List.set_cons_succ, i64_w, i32_w]
         rfl
        refine pure_ (i := 40) (N := some 83) (v := ?_) (a' := ?_) #[true, true, true, true, true, true, true, true, true, true, true, true, true, true, true, true, true, true, true, true, true, true, true, true, true, true, true, true, true, true, true, true, true, true, true, true, true, true, true, true, true, false, false, false, false, false, false, false] rfl rfl (any_of HT_.out (by kernel_rfl)) (fun _ _ _ h => h) (Or.inl ⟨by rfl, ?_⟩) ?_ ?_
        rotate_left
        ·
         intro w'
         go_simp
         with_reducible rfl
        rotate_left
        ·
         simp only [Act.put, List.setIfInBounds_toArray, List.set_cons_zero, List.set_cons_succ, i64_w, i32_w]
         rfl
        refine pure_ (i := 41) (N := some 84) (v := ?_) (a' := ?_) #[true, true, true, true, true, true, true, true, true, true, true, true, true, true, true, true, true, true, true, true, true, true, true, true, true, true, true, true, true, true, true, true, true, true, true, true, true, true, true, true, true, true, false, false, false, false, false, false] rfl rfl (any_of HT_.out (by kernel_rfl)) (fun _ _ _ h => h) (Or.inl ⟨by rfl, ?_⟩) ?_ ?_
        rotate_left
        ·
         intro w'
         go_simp
         with_reducible rfl
        rotate_left
        ·
         simp only [Act.put, List.setIfInBounds_toArray, List.set_cons_zero, List.set_cons_succ, i64_w, i32_w]
         rfl
        refine pure_ (i := 42) (N := some 85) (v := ?_) (a' := ?_) #[true, true, true, true, true, true, true, true, true, true, true, true, true, true, true, true, true, true, true, true, true, true, true, true, true, true, true, true, true, true, true, true, true, true, true, true, true, true, true, true, true, true, true, false, false, false, false, false] rfl rfl (any_of HT_.out (by kernel_rfl)) (fun _ _ _ h => h) (Or.inl ⟨by rfl, ?_⟩) ?_ ?_
        rotate_left
        ·
         intro w'
         go_simp
         with_reducible rfl
        rotate_left
        ·
         simp only [Act.put, List.setIfInBounds_toArray, List.set_cons_zero, List.set_cons_succ, i64_w, i32_w]
         rfl
        refine pure_ (i := 43) (N := some 86) (v := ?_) (a' := ?_) #[true, true, true, true, true, true, true, true, true, true, true, true, true, true, true, true, true, true, true, true, true, true, true, true, true, true, true, true, true, true, true, true, true, true, true, true, true, true, true, true, true, true, true, true, false, false, false, false] rfl rfl (any_of HT_.out (by kernel_rfl)) (fun _ _ _ h => h) (Or.inl ⟨by rfl, ?_⟩) ?_ ?_
        rotate_left
        ·
         intro w'
         go_simp
         with_reducible rfl
        rotate_left
        ·
         simp only [Act.put, List.setIfInBounds_toArray, List.set_cons_zero, List.set_cons_succ, i64_w, i32_w]
         rfl
        refine pure_ (i := 44) (N := some 87) (v := ?_) (a' := ?_) #[true, true, true, true, true, true, true, true, true, true, true, true, true, true, true, true, true, true, true, true, true, true, true, true, true, true, true, true, true, true, true, true, true, true, true, true, true, true, true, true, true, true, true, true, true, false, false, false] rfl rfl (any_of HT_.out (by kernel_rfl)) (fun _ _ _ h => h) (Or.inl ⟨by rfl, ?_⟩) ?_ ?_
        rotate_left
        ·
         intro w'
         go_simp
         with_reducible rfl
        rotate_left
        ·
         simp only [Act.put, List.setIfInBounds_toArray, List.set_cons_zero, List.set_cons_succ, i64_w, i32_w]
         rfl
        refine pure_ (i := 45) (N := some 88) (v := ?_) (a' := ?_) #[true, true, true, true, true, true, true, true, true, true, true, true, true, true, true, true, true, true, true, true, true, true, true, true, true, true, true, true, true, true, true, true, true, true, true, true, true, true, true, true, true, true, true, true, true, true, false, false] rfl rfl (any_of HT_.out (by kernel_rfl)) (fun _ _ _ h => h) (Or.inl ⟨by rfl, ?_⟩) ?_ ?_
        rotate_left
        ·
         intro w'
         go_simp
         with_reducible rfl
        rotate_left
        ·
         simp only [Act.put, List.setIfInBounds_toArray, List.set_cons_zero, List.set_cons_succ, i64_w, i32_w]
         rfl
        refine pure_ (i := 46) (N := some 89) (v := ?_) (a' := ?_) #[true, true, true, true, true, true, true, true, true, true, true, true, true, true, true, true, true, true, true, true, true, true, true, true, true, true, true, true, true, true, true, true, true, true, true, true, true, true, true, true, true, true, true, true, true, true, true, false] rfl rfl (any_of HT_.out (by kernel_rfl)) (fun _ _ _ h => h) (Or.inl ⟨by rfl, ?_⟩) ?_ ?_
        rotate_left
        ·
         intro w'
         go_simp
         with_reducible rfl
        rotate_left
        ·
         simp only [Act.put, List.setIfInBounds_toArray, List.set_cons_zero, List.set_cons_succ, i64_w, i32_w]
         rfl
        refine pure_ (i := 47) (N := some 8) (v := ?_) (a' := ?_) #[true, true, true, true, true, true, true, true, true, true, true, true, true, true, true, true, true, true, true, true, true, true, true, true, true, true, true, true, true, true, true, true, true, true, true, true, true, true, true, true, true, true, true, true, true, true, true, true] rfl rfl (any_of HT_.out (by kernel_rfl)) (fun _ _ _ h => h) (Or.inl ⟨by rfl, ?_⟩) ?_ ?_
        rotate_left
        ·
         intro w'
         go_simp
         with_reducible rfl
        rotate_left
        ·
         simp only [Act.put, List.setIfInBounds_toArray, List.set_cons_zero, List.set_cons_succ, i64_w, i32_w]
         rfl
        refine done_ (done_of HT_.out (by kernel_rfl)) ?_
        try go_wp2
        go_ret
        exact ⟨by first | rfl | (simp [errW_none, errW_some] <;> rfl) | (simp [*, errW_none, errW_some] <;> rfl), Yr HB⟩
       ·
        rw [if_neg c62] at H
        have c62b0 : (t316.toList == t322.toList && (t317 == t323 && (t318 == t324 && (t319 == t325)))) = false := by simpa using c62
        (try (have c62b1 : decide (t316.toList = t322.toList && (t317 == t323 && (t318 == t324 && (t319 == t325)))) = false := by simpa using c62))
        (try (have c62b2 : (t316.toList == t322.toList && (t317 == t323 && (t318 == t324 && (t319 == t325)))) = false := by simpa using c62))
        (try (have c62b3 : ¬ (t316.toList = t322.toList && (t317 == t323 && (t318 == t324 && (t319 == t325)))) := by simpa using c62))
        clear c62
        exact absurd ((Option.some.inj H).trans HRT_.out) (by decide)
      ·
       replace c61 := Bool.eq_false_iff.mpr c61
       subst c61
       have H1 : (some false) = some r := by rw [if_neg (show ¬ (false = true) by decide)] at H; exact H
       clear H
       have H := H1
       clear H1
       exact absurd ((Option.some.inj H).trans HRT_.out) (by decide)
    ·
     rw [if_neg c17] at H
     have c17b0 : (t298.toList == t307.toList && (t299.toList == t308.toList && (t300 == t309 && (t301 == t310 && (t302 == t311 && (t303 == t312 && (t304 == t313))))))) = false := by simpa using c17
     (try (have c17b1 : decide (t298.toList = t307.toList && (t299.toList == t308.toList && (t300 == t309 && (t301 == t310 && (t302 == t311 && (t303 == t312 && (t304 == t313))))))) = false := by simpa using c17))
     (try (have c17b2 : (t298.toList == t307.toList && (t299.toList == t308.toList && (t300 == t309 && (t301 == t310 && (t302 == t311 && (t303 == t312 && (t304 == t313))))))) = false := by simpa using c17))
     (try (have c17b3 : ¬ (t298.toList = t307.toList && (t299.toList == t308.toList && (t300 == t309 && (t301 == t310 && (t302 == t311 && (t303 == t312 && (t304 == t313))))))) := by simpa using c17))
     clear c17
     exact absurd ((Option.some.inj H).trans HRT_.out) (by decide)
   ·
    rw [if_neg c16] at H
    have c16b0 : (t330 == t331) = false := by simpa using c16
    (try (have c16b1 : decide (t330 = t331) = false := by simpa using c16))
    (try (have c16b2 : (t330 == t331) = false := by simpa using c16))
    (try (have c16b3 : ¬ (t330 = t331) := by simpa using c16))
    clear c16
    exact absurd ((Option.some.inj H).trans HRT_.out) (by decide)
  ·
   rw [if_neg c13] at H
   have c13b0 : (t328 == t329) = false := by simpa using c13
   (try (have c13b1 : decide (t328 = t329) = false := by simpa using c13))
   (try (have c13b2 : (t328 == t329) = false := by simpa using c13))
   (try (have c13b3 : ¬ (t328 = t329) := by simpa using c13))
   clear c13
   exact absurd ((Option.some.inj H).trans HRT_.out) (by decide)
 ·
  replace c10 := Bool.eq_false_iff.mpr c10
  subst c10
  have H1 : (some false) = some r := by rw [if_neg (show ¬ (false = true) by decide)] at H; exact H
  clear H
  have H := H1
  clear H1
  exact absurd ((Option.some.inj H).trans HRT_.out) (by decide)

/-- THE ONE PURE STATEMENT of palinodelaw19_SagaTells. -/
def palinodelaw19_SagaTells.Pure : Prop := (∀ k_ r_, palinodelaw19_examples.f k_ = some r_ → r_ = true) ∧ ∀ (a0_0 : ByteArray) (l0_1 : List (S53)) (a1_0 : ByteArray) (a1_1 : ByteArray) (a1_2 : Int) (a1_3 : Int) (a1_4 : Int) (a1_5 : Int) (a1_6 : Bool) (a2 : ByteArray) (a3 : Int), a0_0.size ≤ 140737488351232 → (l0_1.length ≤ maxLen ∧ l0_1.length * 16 ≤ 140737488351232 ∧ ∀ x_ ∈ l0_1, V53 x_) → a1_0.size ≤ 140737488351232 → a1_1.size ≤ 140737488351232 → (Lit.int .i64 a1_2).wf = true → (Lit.int .i64 a1_3).wf = true → (Lit.int .i64 a1_4).wf = true → (Lit.int .i64 a1_5).wf = true → a2.size ≤ 140737488351232 → (Lit.int .i64 a3).wf = true → ∃ k, palinodelaw19_SagaTells.f k a0_0 l0_1 a1_0 a1_1 a1_2 a1_3 a1_4 a1_5 a1_6 a2 a3 = some true
theorem palinodelaw19_SagaTells.walk (P : palinodelaw19_SagaTells.Pure) (a0_0 : ByteArray) (A0_1 : Option Addr) (c0_1 : Nat) (l0_1 : List (S53)) (a1_0 : ByteArray) (a1_1 : ByteArray) (a1_2 : Int) (a1_3 : Int) (a1_4 : Int) (a1_5 : Int) (a1_6 : Bool) (a2 : ByteArray) (a3 : Int) (w : World) (v0_0 : a0_0.size ≤ 140737488351232) (hr0_1 : Kd.C k53 w A0_1 l0_1.length l0_1) (hc0_1 : l0_1.length ≤ c0_1) (v0_1 : (l0_1.length ≤ maxLen ∧ l0_1.length * 16 ≤ 140737488351232 ∧ ∀ x_ ∈ l0_1, V53 x_)) (v1_0 : a1_0.size ≤ 140737488351232) (v1_1 : a1_1.size ≤ 140737488351232) (v1_2 : (Lit.int .i64 a1_2).wf = true) (v1_3 : (Lit.int .i64 a1_3).wf = true) (v1_4 : (Lit.int .i64 a1_4).wf = true) (v1_5 : (Lit.int .i64 a1_5).wf = true) (v2 : a2.size ≤ 140737488351232) (v3 : (Lit.int .i64 a3).wf = true) :
  Calls Try.prog 3 #[.agg #[.string a0_0, .slice A0_1 l0_1.length c0_1], .agg #[.string a1_0, .string a1_1, .int .i64 a1_2, .int .i64 a1_3, .int .i64 a1_4, .int .i64 a1_5, .bool a1_6], .string a2, .int .i64 a3] w fun e w' => e = .returned (.bool true) ∧ Below w.heap.size w w' := by
 obtain ⟨k, h⟩ := P.2 a0_0 l0_1 a1_0 a1_1 a1_2 a1_3 a1_4 a1_5 a1_6 a2 a3 v0_0 v0_1 v1_0 v1_1 v1_2 v1_3 v1_4 v1_5 v2 v3
 refine (palinodelaw19_SagaTells.calls k a0_0 A0_1 c0_1 l0_1 a1_0 a1_1 a1_2 a1_3 a1_4 a1_5 a1_6 a2 a3 true w hr0_1 hc0_1 h ⟨P.1⟩).mono ?_
 rintro e w' ⟨rfl, hd⟩
 exact ⟨rfl, hd⟩

end Go.Proofs.Ytfhlpkcapohnoaa.Print
