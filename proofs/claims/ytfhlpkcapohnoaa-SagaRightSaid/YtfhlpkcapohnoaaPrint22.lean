-- Printed out of the translation by a program of this session's own. Not trusted: Lean checks it.
import Derived.Test.YtfhlpkcapohnoaaPrint0
import Derived.Test.YtfhlpkcapohnoaaPrint1
import Derived.Test.YtfhlpkcapohnoaaPrint3
import Derived.Test.YtfhlpkcapohnoaaPrint4
import Derived.Test.YtfhlpkcapohnoaaPrint6
import Derived.Test.YtfhlpkcapohnoaaPrint7
import Derived.Test.YtfhlpkcapohnoaaPrint17
import Derived.Test.YtfhlpkcapohnoaaPrint19
namespace Go.Proofs.Ytfhlpkcapohnoaa.Print
open Go.RowKit Go.Proofs.YtfhlpkcapohnoaaW.PrintWords Go.Proofs.YtfhlpkcapohnoaaW.PrintLast Go.Proofs.YtfhlpkcapohnoaaX
set_option linter.unusedVariables false
set_option linter.unusedSimpArgs false

attribute [local go_sem high] eqA26
/-! ### palinodelaw19_SagaRight: function 12 -/
def palinodelaw19_SagaRight.l0 : Nat → Bool → Bool → Bool → Bool → List (S26) → Int → ByteArray → List (S53) → ByteArray → ByteArray → Int → Int → Int → Int → Bool → ByteArray → ByteArray → Int → Int → Int → Int → Bool → ByteArray → ByteArray → Int → Int → Int → Int → Bool → ByteArray → ByteArray → Int → Int → Int → Int → Bool → Option (Bool)
 | 0, _, _, _, _, _, _, _, _, _, _, _, _, _, _, _, _, _, _, _, _, _, _, _, _, _, _, _, _, _, _, _, _, _, _, _, _ => none
 | k + 1, x13, x15, x17, x19, x20, x21, x726000, x726001, x727000, x727001, x727002, x727003, x727004, x727005, x727006, x738000, x738001, x738002, x738003, x738004, x738005, x738006, x747000, x747001, x747002, x747003, x747004, x747005, x747006, x756000, x756001, x756002, x756003, x756004, x756005, x756006 => if x21 < (x20.length : Int) then (if 0 ≤ x21 then ((saga_Right.f k x726000 x726001 ((rd_T26 x20 x21).f0) ((rd_T26 x20 x21).f1) ((rd_T26 x20 x21).f2) ((rd_T26 x20 x21).f3) ((rd_T26 x20 x21).f4) ((rd_T26 x20 x21).f5) ((rd_T26 x20 x21).f6)).bind fun t760 => (if t760 = true then (if ((rd_T26 x20 x21).f0).toList = x727000.toList then (if ((rd_T26 x20 x21).f1).toList = x727001.toList then (palinodelaw19_SagaRight.l0 k x13 x15 x17 x19 x20 (wrap64 (x21 + 1)) x726000 x726001 x727000 x727001 x727002 x727003 x727004 x727005 x727006 x738000 x738001 x738002 x738003 x738004 x738005 x738006 x747000 x747001 x747002 x747003 x747004 x747005 x747006 x756000 x756001 x756002 x756003 x756004 x756005 x756006) else (some false)) else (some false)) else (some false))) else (none)) else (if x13 = true then (if x15 = true then (if x17 = true then (if x19 = true then ((saga_Live.f x727000 x727001 x727002 x727003 x727004 x727005 x727006).bind fun t763 => (if t763 = true then (some true) else (some false))) else (if (x756000.toList == x727000.toList && (x756001.toList == x727001.toList && (x756002 == x727002 && (x756003 == x727003 && (x756004 == x727004 && (x756005 == x727005 && (x756006 == x727006))))))) = true then ((saga_Live.f x727000 x727001 x727002 x727003 x727004 x727005 x727006).bind fun t764 => (if t764 = true then (some true) else (some false))) else (some false))) else (if (x747000.toList == x727000.toList && (x747001.toList == x727001.toList && (x747002 == x727002 && (x747003 == x727003 && (x747004 == x727004 && (x747005 == x727005 && (x747006 == x727006))))))) = true then (if x19 = true then ((saga_Live.f x727000 x727001 x727002 x727003 x727004 x727005 x727006).bind fun t765 => (if t765 = true then (some true) else (some false))) else (if (x756000.toList == x727000.toList && (x756001.toList == x727001.toList && (x756002 == x727002 && (x756003 == x727003 && (x756004 == x727004 && (x756005 == x727005 && (x756006 == x727006))))))) = true then ((saga_Live.f x727000 x727001 x727002 x727003 x727004 x727005 x727006).bind fun t766 => (if t766 = true then (some true) else (some false))) else (some false))) else (some false))) else (if (x738000.toList == x727000.toList && (x738001.toList == x727001.toList && (x738002 == x727002 && (x738003 == x727003 && (x738004 == x727004 && (x738005 == x727005 && (x738006 == x727006))))))) = true then (if x17 = true then (if x19 = true then ((saga_Live.f x727000 x727001 x727002 x727003 x727004 x727005 x727006).bind fun t767 => (if t767 = true then (some true) else (some false))) else (if (x756000.toList == x727000.toList && (x756001.toList == x727001.toList && (x756002 == x727002 && (x756003 == x727003 && (x756004 == x727004 && (x756005 == x727005 && (x756006 == x727006))))))) = true then ((saga_Live.f x727000 x727001 x727002 x727003 x727004 x727005 x727006).bind fun t768 => (if t768 = true then (some true) else (some false))) else (some false))) else (if (x747000.toList == x727000.toList && (x747001.toList == x727001.toList && (x747002 == x727002 && (x747003 == x727003 && (x747004 == x727004 && (x747005 == x727005 && (x747006 == x727006))))))) = true then (if x19 = true then ((saga_Live.f x727000 x727001 x727002 x727003 x727004 x727005 x727006).bind fun t769 => (if t769 = true then (some true) else (some (!x19)))) else (if (x756000.toList == x727000.toList && (x756001.toList == x727001.toList && (x756002 == x727002 && (x756003 == x727003 && (x756004 == x727004 && (x756005 == x727005 && (x756006 == x727006))))))) = true then ((saga_Live.f x727000 x727001 x727002 x727003 x727004 x727005 x727006).bind fun t770 => (if t770 = true then (some true) else (some (!x19)))) else (some false))) else (some false))) else (some false))) else (some false))
def palinodelaw19_SagaRight.f (k : Nat) (a0_0 : ByteArray) (l0_1 : List (S53)) (a1_0 : ByteArray) (a1_1 : ByteArray) (a1_2 : Int) (a1_3 : Int) (a1_4 : Int) (a1_5 : Int) (a1_6 : Bool) (a2 : Int) (a3 : Int) (a4 : Int) (a5 : Int) : Option (Bool) := (palinodelaw19_examples.f k).bind fun t727 => ((saga_Right.f k a0_0 l0_1 a1_0 a1_1 a1_2 a1_3 a1_4 a1_5 a1_6).bind fun t728 => (if t728 = true then ((saga_Reply.f k a0_0 l0_1 a1_0 a1_1 a1_2 a1_3 a1_4 a1_5 a1_6 a2 a3 a4 a5).bind fun bt729 => ((saga_Expire.f k a0_0 l0_1 a1_0 a1_1 a1_2 a1_3 a1_4 a1_5 a1_6 a5).bind fun bt738 => ((saga_Ack.f a1_0 a1_1 a1_2 a1_3 a1_4 a1_5 a1_6 a2 a3).bind fun bt747 => (palinodelaw19_SagaRight.l0 k t727 bt729.2.2.2.2.2.2.2 bt738.2.2.2.2.2.2.2 bt747.2.2.2.2.2.2.2 (([(⟨bt729.1, bt729.2.1, bt729.2.2.1, bt729.2.2.2.1, bt729.2.2.2.2.1, bt729.2.2.2.2.2.1, bt729.2.2.2.2.2.2.1⟩ : S26), (⟨bt738.1, bt738.2.1, bt738.2.2.1, bt738.2.2.2.1, bt738.2.2.2.2.1, bt738.2.2.2.2.2.1, bt738.2.2.2.2.2.2.1⟩ : S26), (⟨bt747.1, bt747.2.1, bt747.2.2.1, bt747.2.2.2.1, bt747.2.2.2.2.1, bt747.2.2.2.2.2.1, bt747.2.2.2.2.2.2.1⟩ : S26)] : List (S26))) 0 a0_0 l0_1 a1_0 a1_1 a1_2 a1_3 a1_4 a1_5 a1_6 bt729.1 bt729.2.1 bt729.2.2.1 bt729.2.2.2.1 bt729.2.2.2.2.1 bt729.2.2.2.2.2.1 bt729.2.2.2.2.2.2.1 bt738.1 bt738.2.1 bt738.2.2.1 bt738.2.2.2.1 bt738.2.2.2.2.1 bt738.2.2.2.2.2.1 bt738.2.2.2.2.2.2.1 bt747.1 bt747.2.1 bt747.2.2.1 bt747.2.2.2.1 bt747.2.2.2.2.1 bt747.2.2.2.2.2.1 bt747.2.2.2.2.2.2.1)))) else (some t727)))
theorem palinodelaw19_SagaRight.mono_l : ∀ k, (∀ y0 y1 y2 y3 y4 y5 y6 y7 y8 y9 y10 y11 y12 y13 y14 y15 y16 y17 y18 y19 y20 y21 y22 y23 y24 y25 y26 y27 y28 y29 y30 y31 y32 y33 y34 y35, LeO (palinodelaw19_SagaRight.l0 k y0 y1 y2 y3 y4 y5 y6 y7 y8 y9 y10 y11 y12 y13 y14 y15 y16 y17 y18 y19 y20 y21 y22 y23 y24 y25 y26 y27 y28 y29 y30 y31 y32 y33 y34 y35) (palinodelaw19_SagaRight.l0 (k + 1) y0 y1 y2 y3 y4 y5 y6 y7 y8 y9 y10 y11 y12 y13 y14 y15 y16 y17 y18 y19 y20 y21 y22 y23 y24 y25 y26 y27 y28 y29 y30 y31 y32 y33 y34 y35))
 | 0 => fun _ _ _ _ _ _ _ _ _ _ _ _ _ _ _ _ _ _ _ _ _ _ _ _ _ _ _ _ _ _ _ _ _ _ _ _ r h => by simp [palinodelaw19_SagaRight.l0] at h
 | k + 1 => by
  have ih0 := palinodelaw19_SagaRight.mono_l k
  ·
   intro y0 y1 y2 y3 y4 y5 y6 y7 y8 y9 y10 y11 y12 y13 y14 y15 y16 y17 y18 y19 y20 y21 y22 y23 y24 y25 y26 y27 y28 y29 y30 y31 y32 y33 y34 y35
   unfold palinodelaw19_SagaRight.l0
   repeat' first
   | (with_reducible exact ih0 _ _ _ _ _ _ _ _ _ _ _ _ _ _ _ _ _ _ _ _ _ _ _ _ _ _ _ _ _ _ _ _ _ _ _ _)
   | (with_reducible exact palinodelaw19_examples.mono _)
   | (with_reducible exact saga_Expire.mono _ _ _ _ _ _ _ _ _ _ _)
   | (with_reducible exact saga_Reply.mono _ _ _ _ _ _ _ _ _ _ _ _ _ _)
   | (with_reducible exact saga_Right.mono _ _ _ _ _ _ _ _ _ _)
   | (with_reducible exact LeO.refl _)
   | (with_reducible exact LeO.none _)
   | (with_reducible refine LeO.ite ?_ ?_)
   | (with_reducible refine LeO.bind ?_ (fun _ => ?_))
   | exact ih0 _ _ _ _ _ _ _ _ _ _ _ _ _ _ _ _ _ _ _ _ _ _ _ _ _ _ _ _ _ _ _ _ _ _ _ _
   | exact palinodelaw19_examples.mono _
   | exact saga_Expire.mono _ _ _ _ _ _ _ _ _ _ _
   | exact saga_Reply.mono _ _ _ _ _ _ _ _ _ _ _ _ _ _
   | exact saga_Right.mono _ _ _ _ _ _ _ _ _ _
   | exact LeO.none _
   | refine LeO.ite ?_ ?_
   | refine LeO.bind ?_ (fun _ => ?_)
theorem palinodelaw19_SagaRight.mono : ∀ a0 a1 a2 a3 a4 a5 a6 a7 a8 a9 a10 a11 a12 k, LeO (palinodelaw19_SagaRight.f k a0 a1 a2 a3 a4 a5 a6 a7 a8 a9 a10 a11 a12) (palinodelaw19_SagaRight.f (k + 1) a0 a1 a2 a3 a4 a5 a6 a7 a8 a9 a10 a11 a12) := by
 intro a0 a1 a2 a3 a4 a5 a6 a7 a8 a9 a10 a11 a12 k
 have ih0 := palinodelaw19_SagaRight.mono_l k
 unfold palinodelaw19_SagaRight.f
 repeat' first
   | (with_reducible exact ih0 _ _ _ _ _ _ _ _ _ _ _ _ _ _ _ _ _ _ _ _ _ _ _ _ _ _ _ _ _ _ _ _ _ _ _ _)
   | (with_reducible exact palinodelaw19_examples.mono _)
   | (with_reducible exact saga_Expire.mono _ _ _ _ _ _ _ _ _ _ _)
   | (with_reducible exact saga_Reply.mono _ _ _ _ _ _ _ _ _ _ _ _ _ _)
   | (with_reducible exact saga_Right.mono _ _ _ _ _ _ _ _ _ _)
   | (with_reducible exact LeO.refl _)
   | (with_reducible exact LeO.none _)
   | (with_reducible refine LeO.ite ?_ ?_)
   | (with_reducible refine LeO.bind ?_ (fun _ => ?_))
   | exact ih0 _ _ _ _ _ _ _ _ _ _ _ _ _ _ _ _ _ _ _ _ _ _ _ _ _ _ _ _ _ _ _ _ _ _ _ _
   | exact palinodelaw19_examples.mono _
   | exact saga_Expire.mono _ _ _ _ _ _ _ _ _ _ _
   | exact saga_Reply.mono _ _ _ _ _ _ _ _ _ _ _ _ _ _
   | exact saga_Right.mono _ _ _ _ _ _ _ _ _ _
   | exact LeO.none _
   | refine LeO.ite ?_ ?_
   | refine LeO.bind ?_ (fun _ => ?_)
def palinodelaw19_SagaRight.T11 : Bool × List (List Nat × List Nat) := (true, [([], []), ([], []), ([], []), ([1, 2], [1, 2]), ([3], [3]), ([0, 4], [0, 4]), ([5], [5]), ([6, 5], [6]), ([7], [7]), ([7], [7]), ([8, 9, 7], [7, 8, 9]), ([10, 7], [7, 10]), ([11, 7], [7, 11]), ([7], [7]), ([13, 7], [7, 13]), ([12, 14, 7], [7, 12, 14]), ([7, 15], [7, 15]), ([16, 7], [16]), ([17], [17]), ([17], [17]), ([18, 19, 17], [17, 18, 19]), ([20, 17], [17, 20]), ([21, 17], [17, 21]), ([17], [17]), ([23, 17], [17, 23]), ([22, 24, 17], [17, 22, 24]), ([17, 25], [17, 25])])
def palinodelaw19_SagaRight.B11 : List Nat := [0, 0, 0, 6, 14, 31, 63, 127, 255, 255, 1023, 2047, 4095, 255, 8447, 32767, 65535, 131071, 262143, 262143, 1048575, 2097151, 4194303, 262143, 8650751, 33554431, 67108863]
theorem palinodelaw19_SagaRight.tab11 : rtab .any (opsOf Try.f12 11) = palinodelaw19_SagaRight.T11 := by kernel_rfl
theorem palinodelaw19_SagaRight.bits11 : waitsOk palinodelaw19_SagaRight.T11.2 palinodelaw19_SagaRight.B11 = true := by kernel_rfl
set_option maxHeartbeats 8000000 in
set_option maxRecDepth 100000 in
theorem palinodelaw19_SagaRight.calls (k : Nat) (a0_0 : ByteArray) (A0_1 : Option Addr) (c0_1 : Nat) (l0_1 : List (S53)) (a1_0 : ByteArray) (a1_1 : ByteArray) (a1_2 : Int) (a1_3 : Int) (a1_4 : Int) (a1_5 : Int) (a1_6 : Bool) (a2 : Int) (a3 : Int) (a4 : Int) (a5 : Int) (r : Bool) (w : World) (hr0_1 : Kd.C k53 w A0_1 l0_1.length l0_1) (hc0_1 : l0_1.length ≤ c0_1) (h : palinodelaw19_SagaRight.f k a0_0 l0_1 a1_0 a1_1 a1_2 a1_3 a1_4 a1_5 a1_6 a2 a3 a4 a5 = some r) (HEX_ : Aside0 (∀ k_ r_, palinodelaw19_examples.f k_ = some r_ → r_ = true)) (HRT_ : Aside0 (r = true) := by first | exact ⟨rfl⟩ | assumption) :
  Calls Try.prog 12 #[.agg #[.string a0_0, .slice A0_1 l0_1.length c0_1], .agg #[.string a1_0, .string a1_1, .int .i64 a1_2, .int .i64 a1_3, .int .i64 a1_4, .int .i64 a1_5, .bool a1_6], .int .i64 a2, .int .i64 a3, .int .i64 a4, .int .i64 a5] w fun e w' => e = .returned (.bool r) ∧ Below w.heap.size w w' := by
 have hu24 := Try.underlying24
 have hu26 := Try.underlying26
 have HR0_1 := Aside0.mk hr0_1
 have HC0_1 := Aside0.mk hc0_1
 clear hr0_1 hc0_1
 have HB := Aside0.mk (Below.refl w.heap.size w)
 have H : ((palinodelaw19_examples.f k).bind fun t727 => ((saga_Right.f k a0_0 l0_1 a1_0 a1_1 a1_2 a1_3 a1_4 a1_5 a1_6).bind fun t728 => (if t728 = true then ((saga_Reply.f k a0_0 l0_1 a1_0 a1_1 a1_2 a1_3 a1_4 a1_5 a1_6 a2 a3 a4 a5).bind fun bt729 => ((saga_Expire.f k a0_0 l0_1 a1_0 a1_1 a1_2 a1_3 a1_4 a1_5 a1_6 a5).bind fun bt738 => ((saga_Ack.f a1_0 a1_1 a1_2 a1_3 a1_4 a1_5 a1_6 a2 a3).bind fun bt747 => (palinodelaw19_SagaRight.l0 k t727 bt729.2.2.2.2.2.2.2 bt738.2.2.2.2.2.2.2 bt747.2.2.2.2.2.2.2 (([(⟨bt729.1, bt729.2.1, bt729.2.2.1, bt729.2.2.2.1, bt729.2.2.2.2.1, bt729.2.2.2.2.2.1, bt729.2.2.2.2.2.2.1⟩ : S26), (⟨bt738.1, bt738.2.1, bt738.2.2.1, bt738.2.2.2.1, bt738.2.2.2.2.1, bt738.2.2.2.2.2.1, bt738.2.2.2.2.2.2.1⟩ : S26), (⟨bt747.1, bt747.2.1, bt747.2.2.1, bt747.2.2.2.1, bt747.2.2.2.2.1, bt747.2.2.2.2.2.1, bt747.2.2.2.2.2.2.1⟩ : S26)] : List (S26))) 0 a0_0 l0_1 a1_0 a1_1 a1_2 a1_3 a1_4 a1_5 a1_6 bt729.1 bt729.2.1 bt729.2.2.1 bt729.2.2.2.1 bt729.2.2.2.2.1 bt729.2.2.2.2.2.1 bt729.2.2.2.2.2.2.1 bt738.1 bt738.2.1 bt738.2.2.1 bt738.2.2.2.1 bt738.2.2.2.2.1 bt738.2.2.2.2.2.1 bt738.2.2.2.2.2.2.1 bt747.1 bt747.2.1 bt747.2.2.1 bt747.2.2.2.1 bt747.2.2.2.2.1 bt747.2.2.2.2.2.1 bt747.2.2.2.2.2.2.1)))) else (some t727)))) = some r := h
 clear h
 replace H := Option.bind_eq_some_iff.mp H
 obtain ⟨t727, A70, H⟩ := H
 replace H : ((saga_Right.f k a0_0 l0_1 a1_0 a1_1 a1_2 a1_3 a1_4 a1_5 a1_6).bind fun t728 => (if t728 = true then ((saga_Reply.f k a0_0 l0_1 a1_0 a1_1 a1_2 a1_3 a1_4 a1_5 a1_6 a2 a3 a4 a5).bind fun bt729 => ((saga_Expire.f k a0_0 l0_1 a1_0 a1_1 a1_2 a1_3 a1_4 a1_5 a1_6 a5).bind fun bt738 => ((saga_Ack.f a1_0 a1_1 a1_2 a1_3 a1_4 a1_5 a1_6 a2 a3).bind fun bt747 => (palinodelaw19_SagaRight.l0 k t727 bt729.2.2.2.2.2.2.2 bt738.2.2.2.2.2.2.2 bt747.2.2.2.2.2.2.2 (([(⟨bt729.1, bt729.2.1, bt729.2.2.1, bt729.2.2.2.1, bt729.2.2.2.2.1, bt729.2.2.2.2.2.1, bt729.2.2.2.2.2.2.1⟩ : S26), (⟨bt738.1, bt738.2.1, bt738.2.2.1, bt738.2.2.2.1, bt738.2.2.2.2.1, bt738.2.2.2.2.2.1, bt738.2.2.2.2.2.2.1⟩ : S26), (⟨bt747.1, bt747.2.1, bt747.2.2.1, bt747.2.2.2.1, bt747.2.2.2.2.1, bt747.2.2.2.2.2.1, bt747.2.2.2.2.2.2.1⟩ : S26)] : List (S26))) 0 a0_0 l0_1 a1_0 a1_1 a1_2 a1_3 a1_4 a1_5 a1_6 bt729.1 bt729.2.1 bt729.2.2.1 bt729.2.2.2.1 bt729.2.2.2.2.1 bt729.2.2.2.2.2.1 bt729.2.2.2.2.2.2.1 bt738.1 bt738.2.1 bt738.2.2.1 bt738.2.2.2.1 bt738.2.2.2.2.1 bt738.2.2.2.2.2.1 bt738.2.2.2.2.2.2.1 bt747.1 bt747.2.1 bt747.2.2.1 bt747.2.2.2.1 bt747.2.2.2.2.1 bt747.2.2.2.2.2.1 bt747.2.2.2.2.2.2.1)))) else (some t727))) = some r := H
 have A7 := Aside0.mk A70
 have HTA7_ : Aside0 (t727 = true) := ⟨HEX_.out _ _ A70⟩
 clear A70
 replace H := Option.bind_eq_some_iff.mp H
 obtain ⟨t728, A80, H⟩ := H
 replace H : (if t728 = true then ((saga_Reply.f k a0_0 l0_1 a1_0 a1_1 a1_2 a1_3 a1_4 a1_5 a1_6 a2 a3 a4 a5).bind fun bt729 => ((saga_Expire.f k a0_0 l0_1 a1_0 a1_1 a1_2 a1_3 a1_4 a1_5 a1_6 a5).bind fun bt738 => ((saga_Ack.f a1_0 a1_1 a1_2 a1_3 a1_4 a1_5 a1_6 a2 a3).bind fun bt747 => (palinodelaw19_SagaRight.l0 k t727 bt729.2.2.2.2.2.2.2 bt738.2.2.2.2.2.2.2 bt747.2.2.2.2.2.2.2 (([(⟨bt729.1, bt729.2.1, bt729.2.2.1, bt729.2.2.2.1, bt729.2.2.2.2.1, bt729.2.2.2.2.2.1, bt729.2.2.2.2.2.2.1⟩ : S26), (⟨bt738.1, bt738.2.1, bt738.2.2.1, bt738.2.2.2.1, bt738.2.2.2.2.1, bt738.2.2.2.2.2.1, bt738.2.2.2.2.2.2.1⟩ : S26), (⟨bt747.1, bt747.2.1, bt747.2.2.1, bt747.2.2.2.1, bt747.2.2.2.2.1, bt747.2.2.2.2.2.1, bt747.2.2.2.2.2.2.1⟩ : S26)] : List (S26))) 0 a0_0 l0_1 a1_0 a1_1 a1_2 a1_3 a1_4 a1_5 a1_6 bt729.1 bt729.2.1 bt729.2.2.1 bt729.2.2.2.1 bt729.2.2.2.2.1 bt729.2.2.2.2.2.1 bt729.2.2.2.2.2.2.1 bt738.1 bt738.2.1 bt738.2.2.1 bt738.2.2.2.1 bt738.2.2.2.2.1 bt738.2.2.2.2.2.1 bt738.2.2.2.2.2.2.1 bt747.1 bt747.2.1 bt747.2.2.1 bt747.2.2.2.1 bt747.2.2.2.2.1 bt747.2.2.2.2.2.1 bt747.2.2.2.2.2.2.1)))) else (some t727)) = some r := H
 have A8 := Aside0.mk A80
 clear A80
 by_cases c9 : t728 = true
 ·
  subst c9
  have H1 : ((saga_Reply.f k a0_0 l0_1 a1_0 a1_1 a1_2 a1_3 a1_4 a1_5 a1_6 a2 a3 a4 a5).bind fun bt729 => ((saga_Expire.f k a0_0 l0_1 a1_0 a1_1 a1_2 a1_3 a1_4 a1_5 a1_6 a5).bind fun bt738 => ((saga_Ack.f a1_0 a1_1 a1_2 a1_3 a1_4 a1_5 a1_6 a2 a3).bind fun bt747 => (palinodelaw19_SagaRight.l0 k t727 bt729.2.2.2.2.2.2.2 bt738.2.2.2.2.2.2.2 bt747.2.2.2.2.2.2.2 (([(⟨bt729.1, bt729.2.1, bt729.2.2.1, bt729.2.2.2.1, bt729.2.2.2.2.1, bt729.2.2.2.2.2.1, bt729.2.2.2.2.2.2.1⟩ : S26), (⟨bt738.1, bt738.2.1, bt738.2.2.1, bt738.2.2.2.1, bt738.2.2.2.2.1, bt738.2.2.2.2.2.1, bt738.2.2.2.2.2.2.1⟩ : S26), (⟨bt747.1, bt747.2.1, bt747.2.2.1, bt747.2.2.2.1, bt747.2.2.2.2.1, bt747.2.2.2.2.2.1, bt747.2.2.2.2.2.2.1⟩ : S26)] : List (S26))) 0 a0_0 l0_1 a1_0 a1_1 a1_2 a1_3 a1_4 a1_5 a1_6 bt729.1 bt729.2.1 bt729.2.2.1 bt729.2.2.2.1 bt729.2.2.2.2.1 bt729.2.2.2.2.2.1 bt729.2.2.2.2.2.2.1 bt738.1 bt738.2.1 bt738.2.2.1 bt738.2.2.2.1 bt738.2.2.2.2.1 bt738.2.2.2.2.2.1 bt738.2.2.2.2.2.2.1 bt747.1 bt747.2.1 bt747.2.2.1 bt747.2.2.2.1 bt747.2.2.2.2.1 bt747.2.2.2.2.2.1 bt747.2.2.2.2.2.2.1)))) = some r := by rw [if_pos rfl] at H; exact H
  clear H
  have H := H1
  clear H1
  replace H := Option.bind_eq_some_iff.mp H
  obtain ⟨⟨t729, t730, t731, t732, t733, t734, t735, t736⟩, A100, H⟩ := H
  replace H : ((saga_Expire.f k a0_0 l0_1 a1_0 a1_1 a1_2 a1_3 a1_4 a1_5 a1_6 a5).bind fun bt738 => ((saga_Ack.f a1_0 a1_1 a1_2 a1_3 a1_4 a1_5 a1_6 a2 a3).bind fun bt747 => (palinodelaw19_SagaRight.l0 k t727 t736 bt738.2.2.2.2.2.2.2 bt747.2.2.2.2.2.2.2 (([(⟨t729, t730, t731, t732, t733, t734, t735⟩ : S26), (⟨bt738.1, bt738.2.1, bt738.2.2.1, bt738.2.2.2.1, bt738.2.2.2.2.1, bt738.2.2.2.2.2.1, bt738.2.2.2.2.2.2.1⟩ : S26), (⟨bt747.1, bt747.2.1, bt747.2.2.1, bt747.2.2.2.1, bt747.2.2.2.2.1, bt747.2.2.2.2.2.1, bt747.2.2.2.2.2.2.1⟩ : S26)] : List (S26))) 0 a0_0 l0_1 a1_0 a1_1 a1_2 a1_3 a1_4 a1_5 a1_6 t729 t730 t731 t732 t733 t734 t735 bt738.1 bt738.2.1 bt738.2.2.1 bt738.2.2.2.1 bt738.2.2.2.2.1 bt738.2.2.2.2.2.1 bt738.2.2.2.2.2.2.1 bt747.1 bt747.2.1 bt747.2.2.1 bt747.2.2.2.1 bt747.2.2.2.2.1 bt747.2.2.2.2.2.1 bt747.2.2.2.2.2.2.1))) = some r := H
  have A10 := Aside0.mk A100
  clear A100
  replace H := Option.bind_eq_some_iff.mp H
  obtain ⟨⟨t738, t739, t740, t741, t742, t743, t744, t745⟩, A110, H⟩ := H
  replace H : ((saga_Ack.f a1_0 a1_1 a1_2 a1_3 a1_4 a1_5 a1_6 a2 a3).bind fun bt747 => (palinodelaw19_SagaRight.l0 k t727 t736 t745 bt747.2.2.2.2.2.2.2 (([(⟨t729, t730, t731, t732, t733, t734, t735⟩ : S26), (⟨t738, t739, t740, t741, t742, t743, t744⟩ : S26), (⟨bt747.1, bt747.2.1, bt747.2.2.1, bt747.2.2.2.1, bt747.2.2.2.2.1, bt747.2.2.2.2.2.1, bt747.2.2.2.2.2.2.1⟩ : S26)] : List (S26))) 0 a0_0 l0_1 a1_0 a1_1 a1_2 a1_3 a1_4 a1_5 a1_6 t729 t730 t731 t732 t733 t734 t735 t738 t739 t740 t741 t742 t743 t744 bt747.1 bt747.2.1 bt747.2.2.1 bt747.2.2.2.1 bt747.2.2.2.2.1 bt747.2.2.2.2.2.1 bt747.2.2.2.2.2.2.1)) = some r := H
  have A11 := Aside0.mk A110
  clear A110
  replace H := Option.bind_eq_some_iff.mp H
  obtain ⟨⟨t747, t748, t749, t750, t751, t752, t753, t754⟩, A120, H⟩ := H
  replace H : (palinodelaw19_SagaRight.l0 k t727 t736 t745 t754 (([(⟨t729, t730, t731, t732, t733, t734, t735⟩ : S26), (⟨t738, t739, t740, t741, t742, t743, t744⟩ : S26), (⟨t747, t748, t749, t750, t751, t752, t753⟩ : S26)] : List (S26))) 0 a0_0 l0_1 a1_0 a1_1 a1_2 a1_3 a1_4 a1_5 a1_6 t729 t730 t731 t732 t733 t734 t735 t738 t739 t740 t741 t742 t743 t744 t747 t748 t749 t750 t751 t752 t753) = some r := H
  have A12 := Aside0.mk A120
  clear A120
  obtain ⟨y756, hy756⟩ : ∃ y_ : List (S26), y_ = (([(⟨t729, t730, t731, t732, t733, t734, t735⟩ : S26), (⟨t738, t739, t740, t741, t742, t743, t744⟩ : S26), (⟨t747, t748, t749, t750, t751, t752, t753⟩ : S26)] : List (S26))) := ⟨_, rfl⟩
  replace H : (palinodelaw19_SagaRight.l0 k t727 t736 t745 t754 y756 0 a0_0 l0_1 a1_0 a1_1 a1_2 a1_3 a1_4 a1_5 a1_6 t729 t730 t731 t732 t733 t734 t735 t738 t739 t740 t741 t742 t743 t744 t747 t748 t749 t750 t751 t752 t753) = some r := by first | (rw [hy756]; with_reducible exact H) | (have H2_ := (Option.bind_some _ _).symm.trans H; rw [hy756]; with_reducible exact H2_) | (have H2_ := (Option.bind_some _ _).symm.trans H; with_reducible exact H2_) | with_reducible exact H | (rw [hy756]; exact H) | exact H
  have Ny756 := Aside0.mk hy756
  clear hy756
  have H' := Aside0.mk H
  clear H
  go_enter Try.func12, Try.ntmps12
  go_wp2_with (first | ((with_reducible refine gate_dst (N := 6) rfl ?_); refine box_event ?hg (N := 6) ?hd (cs := #[.string a0_0, .slice A0_1 l0_1.length c0_1]) (t := 24) ?hr ?_; (case hd => rfl); (case hg => rfl); (case hr => first | (go_simp; done) | (go_simp; rfl)); intro gb725 hg w13 hbox hb; have n0_ := Aside0.mk (Yt (by repeat (first | (with_reducible first | exact HB.out | apply Ya | apply Yn | apply Yd) | exact HB.out)) hb); have n1_ := Aside0.mk (hbox); have n2_ := Aside0.mk ((by rw [hg]; exact (below_size (by repeat (first | (with_reducible first | exact HB.out | apply Ya | apply Yn | apply Yd) | exact HB.out))) : w.heap.size ≤ gb725)); have n3_ := Aside0.mk ((by rw [hg]; exact (below_size (by repeat (first | (with_reducible first | exact HB.out | apply Ya | apply Yn | apply Yd) | exact HB.out))) : w.heap.size ≤ gb725)); clear HB; have HB := n0_; have BK725 := n1_; have GW725 := n2_; have GE725 := n3_; clear n0_ n1_ n2_ n3_; clear hb hbox hg) | ((with_reducible refine gate_dst (N := 7) rfl ?_); refine box_event ?hg (N := 7) ?hd (cs := #[.string a1_0, .string a1_1, .int .i64 a1_2, .int .i64 a1_3, .int .i64 a1_4, .int .i64 a1_5, .bool a1_6]) (t := 26) ?hr ?_; (case hd => rfl); (case hg => rfl); (case hr => first | (go_simp; done) | (go_simp; rfl)); intro gb726 hg w14 hbox hb; have n0_ := Aside0.mk (Zb (g := gb725) (o := .cells #[.string a0_0, .slice A0_1 l0_1.length c0_1] 24 (0, 0)) (by repeat (first | (with_reducible first | exact BK725.out | refine Zn ?_ _ | refine Zd ?_ | refine Za ?_ _))) hb); have n1_ := Aside0.mk (Yt (by repeat (first | (with_reducible first | exact HB.out | apply Ya | apply Yn | apply Yd | refine Ys ?_ GE725.out) | exact HB.out)) hb); have n2_ := Aside0.mk (hbox); have n3_ := Aside0.mk ((by rw [hg]; exact (below_size (by repeat (first | (with_reducible first | exact HB.out | apply Ya | apply Yn | apply Yd | refine Ys ?_ GE725.out) | exact HB.out))) : w.heap.size ≤ gb726)); have n4_ := Aside0.mk ((by rw [hg]; exact (below_size (by repeat (first | (with_reducible first | exact HB.out | apply Ya | apply Yn | apply Yd | refine Ys ?_ GE725.out) | exact HB.out))) : w.heap.size ≤ gb726)); have n5_ := Aside0.mk ((by rw [hg]; exact Nat.ne_of_lt (blk_lt (g := gb725) (o := .cells #[.string a0_0, .slice A0_1 l0_1.length c0_1] 24 (0, 0)) (by repeat (first | (with_reducible first | exact BK725.out | refine Zn ?_ _ | refine Zd ?_ | refine Za ?_ _)))) : gb725 ≠ gb726)); have n6_ := Aside0.mk ((by rw [hg]; exact Nat.ne_of_gt (blk_lt (g := gb725) (o := .cells #[.string a0_0, .slice A0_1 l0_1.length c0_1] 24 (0, 0)) (by repeat (first | (with_reducible first | exact BK725.out | refine Zn ?_ _ | refine Zd ?_ | refine Za ?_ _)))) : gb726 ≠ gb725)); clear BK725; clear HB; have BK725 := n0_; have HB := n1_; have BK726 := n2_; have GW726 := n3_; have GE726 := n4_; have NB725_726 := n5_; have NB726_725 := n6_; clear n0_ n1_ n2_ n3_ n4_ n5_ n6_; clear hb hbox hg) | ((with_reducible refine gate_callee (f := 13) rfl ?_); refine goesL_ (some 22) rfl rfl Try.func13 (by kernel_rfl) rfl #[] rfl (by (try simp only [List.map_toArray, List.map_cons, List.map_nil]); first | done | rfl | (simp only [List.length_drop, List.length_take]; rfl)) ?_; (with_reducible refine (palinodelaw19_examples.calls k  t727 _ A7.out).mono ?_); rintro e w15 ⟨rfl, hb⟩; refine ⟨_, rfl, ?_⟩; have n0_ := Aside0.mk (Zb (g := gb725) (o := .cells #[.string a0_0, .slice A0_1 l0_1.length c0_1] 24 (0, 0)) (by repeat (first | (with_reducible first | exact BK725.out | refine Zn ?_ _ | refine Zd ?_ | refine Za ?_ _))) hb); have n1_ := Aside0.mk (Zb (g := gb726) (o := .cells #[.string a1_0, .string a1_1, .int .i64 a1_2, .int .i64 a1_3, .int .i64 a1_4, .int .i64 a1_5, .bool a1_6] 26 (0, 0)) (by repeat (first | (with_reducible first | exact BK726.out | refine Zn ?_ _ | refine Zd ?_ | refine Za ?_ _))) hb); have n2_ := Aside0.mk (Yt (by repeat (first | (with_reducible first | exact HB.out | apply Ya | apply Yn | apply Yd | refine Ys ?_ GE725.out | refine Ys ?_ GE726.out) | exact HB.out)) hb); clear BK725; clear BK726; clear HB; have BK725 := n0_; have BK726 := n1_; have HB := n2_; clear n0_ n1_ n2_; (try clear hb); (try clear hb2); (try clear hk); (try clear hi); have hnb16 := NB725_726.out; have hnc16 := NB726_725.out; have hcz17_0 : w15.cell? ⟨gb725, 0, none⟩ = some (.string a0_0) := (Zc BK725.out 0).trans rfl; have hcz17_1 : w15.cell? ⟨gb725, 1, none⟩ = some (.slice A0_1 l0_1.length c0_1) := (Zc BK725.out 1).trans rfl; have hfz17_0 := Zf BK725.out 0; have hfz17_1 := Zf BK725.out 1; have hcz18_0 : w15.cell? ⟨gb726, 0, none⟩ = some (.string a1_0) := (Zc BK726.out 0).trans rfl; have hcz18_1 : w15.cell? ⟨gb726, 1, none⟩ = some (.string a1_1) := (Zc BK726.out 1).trans rfl; have hcz18_2 : w15.cell? ⟨gb726, 2, none⟩ = some (.int .i64 a1_2) := (Zc BK726.out 2).trans rfl; have hcz18_3 : w15.cell? ⟨gb726, 3, none⟩ = some (.int .i64 a1_3) := (Zc BK726.out 3).trans rfl; have hcz18_4 : w15.cell? ⟨gb726, 4, none⟩ = some (.int .i64 a1_4) := (Zc BK726.out 4).trans rfl; have hcz18_5 : w15.cell? ⟨gb726, 5, none⟩ = some (.int .i64 a1_5) := (Zc BK726.out 5).trans rfl; have hcz18_6 : w15.cell? ⟨gb726, 6, none⟩ = some (.bool a1_6) := (Zc BK726.out 6).trans rfl; have hfz18_0 := Zf BK726.out 0; have hfz18_1 := Zf BK726.out 1; have hfz18_2 := Zf BK726.out 2; have hfz18_3 := Zf BK726.out 3; have hfz18_4 := Zf BK726.out 4; have hfz18_5 := Zf BK726.out 5; have hfz18_6 := Zf BK726.out 6) | ((with_reducible refine gate_callee (f := 18) rfl ?_); refine goesL_ (some 25) rfl rfl Try.func18 (by kernel_rfl) rfl #[.agg #[.string a0_0, .slice A0_1 l0_1.length c0_1], .agg #[.string a1_0, .string a1_1, .int .i64 a1_2, .int .i64 a1_3, .int .i64 a1_4, .int .i64 a1_5, .bool a1_6]] rfl (by (try simp only [List.map_toArray, List.map_cons, List.map_nil]); first | done | rfl | (simp only [List.length_drop, List.length_take]; rfl)) ?_; (with_reducible refine (saga_Right.calls k a0_0 _ _ l0_1 a1_0 a1_1 a1_2 a1_3 a1_4 a1_5 a1_6 true _ ?side1 ?side2 A8.out).mono ?_); (case side1 => repeat (first | exact (Kd.C_below HR0_1.out HB.out) | (with_reducible refine Kd.C_alloc ?_ _) | (with_reducible refine Kd.C_drewN ?_ _) | (with_reducible refine Kd.C_drew ?_))); (case side2 => exact HC0_1.out); rintro e w19 ⟨rfl, hb⟩; refine ⟨_, rfl, ?_⟩; have n0_ := Aside0.mk (Zb (g := gb725) (o := .cells #[.string a0_0, .slice A0_1 l0_1.length c0_1] 24 (0, 0)) (by repeat (first | (with_reducible first | exact BK725.out | refine Zn ?_ _ | refine Zd ?_ | refine Za ?_ _))) hb); have n1_ := Aside0.mk (Zb (g := gb726) (o := .cells #[.string a1_0, .string a1_1, .int .i64 a1_2, .int .i64 a1_3, .int .i64 a1_4, .int .i64 a1_5, .bool a1_6] 26 (0, 0)) (by repeat (first | (with_reducible first | exact BK726.out | refine Zn ?_ _ | refine Zd ?_ | refine Za ?_ _))) hb); have n2_ := Aside0.mk (Yt (by repeat (first | (with_reducible first | exact HB.out | apply Ya | apply Yn | apply Yd | refine Ys ?_ GE725.out | refine Ys ?_ GE726.out) | exact HB.out)) hb); clear BK725; clear BK726; clear HB; have BK725 := n0_; have BK726 := n1_; have HB := n2_; clear n0_ n1_ n2_; (try clear hb); (try clear hb2); (try clear hk); (try clear hi); have hcz20_0 : w19.cell? ⟨gb725, 0, none⟩ = some (.string a0_0) := (Zc BK725.out 0).trans rfl; have hcz20_1 : w19.cell? ⟨gb725, 1, none⟩ = some (.slice A0_1 l0_1.length c0_1) := (Zc BK725.out 1).trans rfl; have hfz20_0 := Zf BK725.out 0; have hfz20_1 := Zf BK725.out 1; have hcz21_0 : w19.cell? ⟨gb726, 0, none⟩ = some (.string a1_0) := (Zc BK726.out 0).trans rfl; have hcz21_1 : w19.cell? ⟨gb726, 1, none⟩ = some (.string a1_1) := (Zc BK726.out 1).trans rfl; have hcz21_2 : w19.cell? ⟨gb726, 2, none⟩ = some (.int .i64 a1_2) := (Zc BK726.out 2).trans rfl; have hcz21_3 : w19.cell? ⟨gb726, 3, none⟩ = some (.int .i64 a1_3) := (Zc BK726.out 3).trans rfl; have hcz21_4 : w19.cell? ⟨gb726, 4, none⟩ = some (.int .i64 a1_4) := (Zc BK726.out 4).trans rfl; have hcz21_5 : w19.cell? ⟨gb726, 5, none⟩ = some (.int .i64 a1_5) := (Zc BK726.out 5).trans rfl; have hcz21_6 : w19.cell? ⟨gb726, 6, none⟩ = some (.bool a1_6) := (Zc BK726.out 6).trans rfl; have hfz21_0 := Zf BK726.out 0; have hfz21_1 := Zf BK726.out 1; have hfz21_2 := Zf BK726.out 2; have hfz21_3 := Zf BK726.out 3; have hfz21_4 := Zf BK726.out 4; have hfz21_5 := Zf BK726.out 5; have hfz21_6 := Zf BK726.out 6) | ((with_reducible refine gate_callee (f := 23) rfl ?_); refine goesL_ (some 35) rfl rfl Try.func23 (by kernel_rfl) rfl #[.agg #[.string a0_0, .slice A0_1 l0_1.length c0_1], .agg #[.string a1_0, .string a1_1, .int .i64 a1_2, .int .i64 a1_3, .int .i64 a1_4, .int .i64 a1_5, .bool a1_6], .int .i64 a2, .int .i64 a3, .int .i64 a4, .int .i64 a5] rfl (by (try simp only [List.map_toArray, List.map_cons, List.map_nil]); first | done | rfl | (simp only [List.length_drop, List.length_take]; rfl)) ?_; (with_reducible refine (saga_Reply.calls k a0_0 _ _ l0_1 a1_0 a1_1 a1_2 a1_3 a1_4 a1_5 a1_6 a2 a3 a4 a5 t729 t730 t731 t732 t733 t734 t735 t736 _ ?side1 ?side2 A10.out).mono ?_); (case side1 => repeat (first | exact (Kd.C_below HR0_1.out HB.out) | (with_reducible refine Kd.C_alloc ?_ _) | (with_reducible refine Kd.C_drewN ?_ _) | (with_reducible refine Kd.C_drew ?_))); (case side2 => exact HC0_1.out); rintro e w22 ⟨rfl, hb⟩; refine ⟨_, rfl, ?_⟩; have n0_ := Aside0.mk (Zb (g := gb725) (o := .cells #[.string a0_0, .slice A0_1 l0_1.length c0_1] 24 (0, 0)) (by repeat (first | (with_reducible first | exact BK725.out | refine Zn ?_ _ | refine Zd ?_ | refine Za ?_ _))) hb); have n1_ := Aside0.mk (Zb (g := gb726) (o := .cells #[.string a1_0, .string a1_1, .int .i64 a1_2, .int .i64 a1_3, .int .i64 a1_4, .int .i64 a1_5, .bool a1_6] 26 (0, 0)) (by repeat (first | (with_reducible first | exact BK726.out | refine Zn ?_ _ | refine Zd ?_ | refine Za ?_ _))) hb); have n2_ := Aside0.mk (Yt (by repeat (first | (with_reducible first | exact HB.out | apply Ya | apply Yn | apply Yd | refine Ys ?_ GE725.out | refine Ys ?_ GE726.out) | exact HB.out)) hb); clear BK725; clear BK726; clear HB; have BK725 := n0_; have BK726 := n1_; have HB := n2_; clear n0_ n1_ n2_; (try clear hb); (try clear hb2); (try clear hk); (try clear hi)) | ((with_reducible refine gate_dst (N := 14) rfl ?_); refine box_event ?hg (N := 14) ?hd (cs := #[.string (⟨#[]⟩ : ByteArray), .string (⟨#[]⟩ : ByteArray), .int .i64 0, .int .i64 0, .int .i64 0, .int .i64 0, .bool false]) (t := 26) ?hr ?_; (case hd => rfl); (case hg => rfl); (case hr => first | (go_simp; done) | (go_simp; rfl)); intro gb737 hg w23 hbox hb; have n0_ := Aside0.mk (Zb (g := gb725) (o := .cells #[.string a0_0, .slice A0_1 l0_1.length c0_1] 24 (0, 0)) (by repeat (first | (with_reducible first | exact BK725.out | refine Zn ?_ _ | refine Zd ?_ | refine Za ?_ _))) hb); have n1_ := Aside0.mk (Zb (g := gb726) (o := .cells #[.string a1_0, .string a1_1, .int .i64 a1_2, .int .i64 a1_3, .int .i64 a1_4, .int .i64 a1_5, .bool a1_6] 26 (0, 0)) (by repeat (first | (with_reducible first | exact BK726.out | refine Zn ?_ _ | refine Zd ?_ | refine Za ?_ _))) hb); have n2_ := Aside0.mk (Yt (by repeat (first | (with_reducible first | exact HB.out | apply Ya | apply Yn | apply Yd | refine Ys ?_ GE725.out | refine Ys ?_ GE726.out) | exact HB.out)) hb); have n3_ := Aside0.mk (hbox); have n4_ := Aside0.mk ((by rw [hg]; exact (below_size (by repeat (first | (with_reducible first | exact HB.out | apply Ya | apply Yn | apply Yd | refine Ys ?_ GE725.out | refine Ys ?_ GE726.out) | exact HB.out))) : w.heap.size ≤ gb737)); have n5_ := Aside0.mk ((by rw [hg]; exact (below_size (by repeat (first | (with_reducible first | exact HB.out | apply Ya | apply Yn | apply Yd | refine Ys ?_ GE725.out | refine Ys ?_ GE726.out) | exact HB.out))) : w.heap.size ≤ gb737)); have n6_ := Aside0.mk ((by rw [hg]; exact Nat.ne_of_lt (blk_lt (g := gb725) (o := .cells #[.string a0_0, .slice A0_1 l0_1.length c0_1] 24 (0, 0)) (by repeat (first | (with_reducible first | exact BK725.out | refine Zn ?_ _ | refine Zd ?_ | refine Za ?_ _)))) : gb725 ≠ gb737)); have n7_ := Aside0.mk ((by rw [hg]; exact Nat.ne_of_gt (blk_lt (g := gb725) (o := .cells #[.string a0_0, .slice A0_1 l0_1.length c0_1] 24 (0, 0)) (by repeat (first | (with_reducible first | exact BK725.out | refine Zn ?_ _ | refine Zd ?_ | refine Za ?_ _)))) : gb737 ≠ gb725)); have n8_ := Aside0.mk ((by rw [hg]; exact Nat.ne_of_lt (blk_lt (g := gb726) (o := .cells #[.string a1_0, .string a1_1, .int .i64 a1_2, .int .i64 a1_3, .int .i64 a1_4, .int .i64 a1_5, .bool a1_6] 26 (0, 0)) (by repeat (first | (with_reducible first | exact BK726.out | refine Zn ?_ _ | refine Zd ?_ | refine Za ?_ _)))) : gb726 ≠ gb737)); have n9_ := Aside0.mk ((by rw [hg]; exact Nat.ne_of_gt (blk_lt (g := gb726) (o := .cells #[.string a1_0, .string a1_1, .int .i64 a1_2, .int .i64 a1_3, .int .i64 a1_4, .int .i64 a1_5, .bool a1_6] 26 (0, 0)) (by repeat (first | (with_reducible first | exact BK726.out | refine Zn ?_ _ | refine Zd ?_ | refine Za ?_ _)))) : gb737 ≠ gb726)); clear BK725; clear BK726; clear HB; have BK725 := n0_; have BK726 := n1_; have HB := n2_; have BK737 := n3_; have GW737 := n4_; have GE737 := n5_; have NB725_737 := n6_; have NB737_725 := n7_; have NB726_737 := n8_; have NB737_726 := n9_; clear n0_ n1_ n2_ n3_ n4_ n5_ n6_ n7_ n8_ n9_; clear hb hbox hg; have hnb24 := NB737_725.out; have hnc24 := NB725_737.out; have hnb25 := NB737_726.out; have hnc25 := NB726_737.out; have hcz26_0 : w23.cell? ⟨gb737, 0, none⟩ = some (.string (⟨#[]⟩ : ByteArray)) := (Zc BK737.out 0).trans rfl; have hcz26_1 : w23.cell? ⟨gb737, 1, none⟩ = some (.string (⟨#[]⟩ : ByteArray)) := (Zc BK737.out 1).trans rfl; have hcz26_2 : w23.cell? ⟨gb737, 2, none⟩ = some (.int .i64 0) := (Zc BK737.out 2).trans rfl; have hcz26_3 : w23.cell? ⟨gb737, 3, none⟩ = some (.int .i64 0) := (Zc BK737.out 3).trans rfl; have hcz26_4 : w23.cell? ⟨gb737, 4, none⟩ = some (.int .i64 0) := (Zc BK737.out 4).trans rfl; have hcz26_5 : w23.cell? ⟨gb737, 5, none⟩ = some (.int .i64 0) := (Zc BK737.out 5).trans rfl; have hcz26_6 : w23.cell? ⟨gb737, 6, none⟩ = some (.bool false) := (Zc BK737.out 6).trans rfl; have hfz26_0 := Zf BK737.out 0; have hfz26_1 := Zf BK737.out 1; have hfz26_2 := Zf BK737.out 2; have hfz26_3 := Zf BK737.out 3; have hfz26_4 := Zf BK737.out 4; have hfz26_5 := Zf BK737.out 5; have hfz26_6 := Zf BK737.out 6; have hcz27_0 : w23.cell? ⟨gb725, 0, none⟩ = some (.string a0_0) := (Zc BK725.out 0).trans rfl; have hcz27_1 : w23.cell? ⟨gb725, 1, none⟩ = some (.slice A0_1 l0_1.length c0_1) := (Zc BK725.out 1).trans rfl; have hfz27_0 := Zf BK725.out 0; have hfz27_1 := Zf BK725.out 1; have hcz28_0 : w23.cell? ⟨gb726, 0, none⟩ = some (.string a1_0) := (Zc BK726.out 0).trans rfl; have hcz28_1 : w23.cell? ⟨gb726, 1, none⟩ = some (.string a1_1) := (Zc BK726.out 1).trans rfl; have hcz28_2 : w23.cell? ⟨gb726, 2, none⟩ = some (.int .i64 a1_2) := (Zc BK726.out 2).trans rfl; have hcz28_3 : w23.cell? ⟨gb726, 3, none⟩ = some (.int .i64 a1_3) := (Zc BK726.out 3).trans rfl; have hcz28_4 : w23.cell? ⟨gb726, 4, none⟩ = some (.int .i64 a1_4) := (Zc BK726.out 4).trans rfl; have hcz28_5 : w23.cell? ⟨gb726, 5, none⟩ = some (.int .i64 a1_5) := (Zc BK726.out 5).trans rfl; have hcz28_6 : w23.cell? ⟨gb726, 6, none⟩ = some (.bool a1_6) := (Zc BK726.out 6).trans rfl; have hfz28_0 := Zf BK726.out 0; have hfz28_1 := Zf BK726.out 1; have hfz28_2 := Zf BK726.out 2; have hfz28_3 := Zf BK726.out 3; have hfz28_4 := Zf BK726.out 4; have hfz28_5 := Zf BK726.out 5; have hfz28_6 := Zf BK726.out 6) | ((with_reducible refine gate_callee (f := 28) rfl ?_); refine goesL_ (some 42) rfl rfl Try.func28 (by kernel_rfl) rfl #[.agg #[.string a0_0, .slice A0_1 l0_1.length c0_1], .agg #[.string a1_0, .string a1_1, .int .i64 a1_2, .int .i64 a1_3, .int .i64 a1_4, .int .i64 a1_5, .bool a1_6], .int .i64 a5] rfl (by (try simp only [List.map_toArray, List.map_cons, List.map_nil]); first | done | rfl | (simp only [List.length_drop, List.length_take]; rfl)) ?_; (with_reducible refine (saga_Expire.calls k a0_0 _ _ l0_1 a1_0 a1_1 a1_2 a1_3 a1_4 a1_5 a1_6 a5 t738 t739 t740 t741 t742 t743 t744 t745 _ ?side1 ?side2 A11.out).mono ?_); (case side1 => exact Kd.C_below HR0_1.out (by repeat (first | (with_reducible first | exact HB.out | apply Ya | apply Yn | apply Yd | refine Ys ?_ GE725.out | refine Ys ?_ GE726.out | refine Ys ?_ GE737.out) | exact HB.out))); (case side2 => exact HC0_1.out); rintro e w29 ⟨rfl, hb⟩; refine ⟨_, rfl, ?_⟩; have n0_ := Aside0.mk (Zb (g := gb725) (o := .cells #[.string a0_0, .slice A0_1 l0_1.length c0_1] 24 (0, 0)) (by repeat (first | (with_reducible first | exact BK725.out | refine Zn ?_ _ | refine Zd ?_ | refine Za ?_ _ | refine Zq ?_ NB725_737.out _))) hb); have n1_ := Aside0.mk (Zb (g := gb726) (o := .cells #[.string a1_0, .string a1_1, .int .i64 a1_2, .int .i64 a1_3, .int .i64 a1_4, .int .i64 a1_5, .bool a1_6] 26 (0, 0)) (by repeat (first | (with_reducible first | exact BK726.out | refine Zn ?_ _ | refine Zd ?_ | refine Za ?_ _ | refine Zq ?_ NB726_737.out _))) hb); have n2_ := Aside0.mk (Zb (g := gb737) (o := .cells #[.string t729, .string t730, .int .i64 t731, .int .i64 t732, .int .i64 t733, .int .i64 t734, .bool t735] 26 (0, 0)) (by (with_reducible repeat (first | refine Zn ?_ _ | refine Zd ?_ | refine Za ?_ _)); refine Zp (cs := #[.string t729, .string t730, .int .i64 t731, .int .i64 t732, .int .i64 t733, .int .i64 t734, .bool false]) ?_ 6 _ rfl; (with_reducible repeat (first | refine Zn ?_ _ | refine Zd ?_ | refine Za ?_ _)); refine Zp (cs := #[.string t729, .string t730, .int .i64 t731, .int .i64 t732, .int .i64 t733, .int .i64 0, .bool false]) ?_ 5 _ rfl; (with_reducible repeat (first | refine Zn ?_ _ | refine Zd ?_ | refine Za ?_ _)); refine Zp (cs := #[.string t729, .string t730, .int .i64 t731, .int .i64 t732, .int .i64 0, .int .i64 0, .bool false]) ?_ 4 _ rfl; (with_reducible repeat (first | refine Zn ?_ _ | refine Zd ?_ | refine Za ?_ _)); refine Zp (cs := #[.string t729, .string t730, .int .i64 t731, .int .i64 0, .int .i64 0, .int .i64 0, .bool false]) ?_ 3 _ rfl; (with_reducible repeat (first | refine Zn ?_ _ | refine Zd ?_ | refine Za ?_ _)); refine Zp (cs := #[.string t729, .string t730, .int .i64 0, .int .i64 0, .int .i64 0, .int .i64 0, .bool false]) ?_ 2 _ rfl; (with_reducible repeat (first | refine Zn ?_ _ | refine Zd ?_ | refine Za ?_ _)); refine Zp (cs := #[.string t729, .string (⟨#[]⟩ : ByteArray), .int .i64 0, .int .i64 0, .int .i64 0, .int .i64 0, .bool false]) ?_ 1 _ rfl; (with_reducible repeat (first | refine Zn ?_ _ | refine Zd ?_ | refine Za ?_ _)); refine Zp (cs := #[.string (⟨#[]⟩ : ByteArray), .string (⟨#[]⟩ : ByteArray), .int .i64 0, .int .i64 0, .int .i64 0, .int .i64 0, .bool false]) ?_ 0 _ rfl; (with_reducible repeat (first | refine Zn ?_ _ | refine Zd ?_ | refine Za ?_ _)); exact BK737.out) hb); have n3_ := Aside0.mk (Yt (by repeat (first | (with_reducible first | exact HB.out | apply Ya | apply Yn | apply Yd | refine Ys ?_ GE725.out | refine Ys ?_ GE726.out | refine Ys ?_ GE737.out) | exact HB.out)) hb); clear BK725; clear BK726; clear BK737; clear HB; have BK725 := n0_; have BK726 := n1_; have BK737 := n2_; have HB := n3_; clear n0_ n1_ n2_ n3_; (try clear hb); (try clear hb2); (try clear hk); (try clear hi)) | ((with_reducible refine gate_dst (N := 16) rfl ?_); refine box_event ?hg (N := 16) ?hd (cs := #[.string (⟨#[]⟩ : ByteArray), .string (⟨#[]⟩ : ByteArray), .int .i64 0, .int .i64 0, .int .i64 0, .int .i64 0, .bool false]) (t := 26) ?hr ?_; (case hd => rfl); (case hg => rfl); (case hr => first | (go_simp; done) | (go_simp; rfl)); intro gb746 hg w30 hbox hb; have n0_ := Aside0.mk (Zb (g := gb725) (o := .cells #[.string a0_0, .slice A0_1 l0_1.length c0_1] 24 (0, 0)) (by repeat (first | (with_reducible first | exact BK725.out | refine Zn ?_ _ | refine Zd ?_ | refine Za ?_ _))) hb); have n1_ := Aside0.mk (Zb (g := gb726) (o := .cells #[.string a1_0, .string a1_1, .int .i64 a1_2, .int .i64 a1_3, .int .i64 a1_4, .int .i64 a1_5, .bool a1_6] 26 (0, 0)) (by repeat (first | (with_reducible first | exact BK726.out | refine Zn ?_ _ | refine Zd ?_ | refine Za ?_ _))) hb); have n2_ := Aside0.mk (Zb (g := gb737) (o := .cells #[.string t729, .string t730, .int .i64 t731, .int .i64 t732, .int .i64 t733, .int .i64 t734, .bool t735] 26 (0, 0)) (by repeat (first | (with_reducible first | exact BK737.out | refine Zn ?_ _ | refine Zd ?_ | refine Za ?_ _))) hb); have n3_ := Aside0.mk (Yt (by repeat (first | (with_reducible first | exact HB.out | apply Ya | apply Yn | apply Yd | refine Ys ?_ GE725.out | refine Ys ?_ GE726.out | refine Ys ?_ GE737.out) | exact HB.out)) hb); have n4_ := Aside0.mk (hbox); have n5_ := Aside0.mk ((by rw [hg]; exact (below_size (by repeat (first | (with_reducible first | exact HB.out | apply Ya | apply Yn | apply Yd | refine Ys ?_ GE725.out | refine Ys ?_ GE726.out | refine Ys ?_ GE737.out) | exact HB.out))) : w.heap.size ≤ gb746)); have n6_ := Aside0.mk ((by rw [hg]; exact (below_size (by repeat (first | (with_reducible first | exact HB.out | apply Ya | apply Yn | apply Yd | refine Ys ?_ GE725.out | refine Ys ?_ GE726.out | refine Ys ?_ GE737.out) | exact HB.out))) : w.heap.size ≤ gb746)); have n7_ := Aside0.mk ((by rw [hg]; exact Nat.ne_of_lt (blk_lt (g := gb725) (o := .cells #[.string a0_0, .slice A0_1 l0_1.length c0_1] 24 (0, 0)) (by repeat (first | (with_reducible first | exact BK725.out | refine Zn ?_ _ | refine Zd ?_ | refine Za ?_ _)))) : gb725 ≠ gb746)); have n8_ := Aside0.mk ((by rw [hg]; exact Nat.ne_of_gt (blk_lt (g := gb725) (o := .cells #[.string a0_0, .slice A0_1 l0_1.length c0_1] 24 (0, 0)) (by repeat (first | (with_reducible first | exact BK725.out | refine Zn ?_ _ | refine Zd ?_ | refine Za ?_ _)))) : gb746 ≠ gb725)); have n9_ := Aside0.mk ((by rw [hg]; exact Nat.ne_of_lt (blk_lt (g := gb726) (o := .cells #[.string a1_0, .string a1_1, .int .i64 a1_2, .int .i64 a1_3, .int .i64 a1_4, .int .i64 a1_5, .bool a1_6] 26 (0, 0)) (by repeat (first | (with_reducible first | exact BK726.out | refine Zn ?_ _ | refine Zd ?_ | refine Za ?_ _)))) : gb726 ≠ gb746)); have n10_ := Aside0.mk ((by rw [hg]; exact Nat.ne_of_gt (blk_lt (g := gb726) (o := .cells #[.string a1_0, .string a1_1, .int .i64 a1_2, .int .i64 a1_3, .int .i64 a1_4, .int .i64 a1_5, .bool a1_6] 26 (0, 0)) (by repeat (first | (with_reducible first | exact BK726.out | refine Zn ?_ _ | refine Zd ?_ | refine Za ?_ _)))) : gb746 ≠ gb726)); have n11_ := Aside0.mk ((by rw [hg]; exact Nat.ne_of_lt (blk_lt (g := gb737) (o := .cells #[.string t729, .string t730, .int .i64 t731, .int .i64 t732, .int .i64 t733, .int .i64 t734, .bool t735] 26 (0, 0)) (by repeat (first | (with_reducible first | exact BK737.out | refine Zn ?_ _ | refine Zd ?_ | refine Za ?_ _)))) : gb737 ≠ gb746)); have n12_ := Aside0.mk ((by rw [hg]; exact Nat.ne_of_gt (blk_lt (g := gb737) (o := .cells #[.string t729, .string t730, .int .i64 t731, .int .i64 t732, .int .i64 t733, .int .i64 t734, .bool t735] 26 (0, 0)) (by repeat (first | (with_reducible first | exact BK737.out | refine Zn ?_ _ | refine Zd ?_ | refine Za ?_ _)))) : gb746 ≠ gb737)); clear BK725; clear BK726; clear BK737; clear HB; have BK725 := n0_; have BK726 := n1_; have BK737 := n2_; have HB := n3_; have BK746 := n4_; have GW746 := n5_; have GE746 := n6_; have NB725_746 := n7_; have NB746_725 := n8_; have NB726_746 := n9_; have NB746_726 := n10_; have NB737_746 := n11_; have NB746_737 := n12_; clear n0_ n1_ n2_ n3_ n4_ n5_ n6_ n7_ n8_ n9_ n10_ n11_ n12_; clear hb hbox hg; have hnb31 := NB746_725.out; have hnc31 := NB725_746.out; have hnb32 := NB746_726.out; have hnc32 := NB726_746.out; have hnb33 := NB746_737.out; have hnc33 := NB737_746.out; have hcz34_0 : w30.cell? ⟨gb746, 0, none⟩ = some (.string (⟨#[]⟩ : ByteArray)) := (Zc BK746.out 0).trans rfl; have hcz34_1 : w30.cell? ⟨gb746, 1, none⟩ = some (.string (⟨#[]⟩ : ByteArray)) := (Zc BK746.out 1).trans rfl; have hcz34_2 : w30.cell? ⟨gb746, 2, none⟩ = some (.int .i64 0) := (Zc BK746.out 2).trans rfl; have hcz34_3 : w30.cell? ⟨gb746, 3, none⟩ = some (.int .i64 0) := (Zc BK746.out 3).trans rfl; have hcz34_4 : w30.cell? ⟨gb746, 4, none⟩ = some (.int .i64 0) := (Zc BK746.out 4).trans rfl; have hcz34_5 : w30.cell? ⟨gb746, 5, none⟩ = some (.int .i64 0) := (Zc BK746.out 5).trans rfl; have hcz34_6 : w30.cell? ⟨gb746, 6, none⟩ = some (.bool false) := (Zc BK746.out 6).trans rfl; have hfz34_0 := Zf BK746.out 0; have hfz34_1 := Zf BK746.out 1; have hfz34_2 := Zf BK746.out 2; have hfz34_3 := Zf BK746.out 3; have hfz34_4 := Zf BK746.out 4; have hfz34_5 := Zf BK746.out 5; have hfz34_6 := Zf BK746.out 6; have hcz35_0 : w30.cell? ⟨gb726, 0, none⟩ = some (.string a1_0) := (Zc BK726.out 0).trans rfl; have hcz35_1 : w30.cell? ⟨gb726, 1, none⟩ = some (.string a1_1) := (Zc BK726.out 1).trans rfl; have hcz35_2 : w30.cell? ⟨gb726, 2, none⟩ = some (.int .i64 a1_2) := (Zc BK726.out 2).trans rfl; have hcz35_3 : w30.cell? ⟨gb726, 3, none⟩ = some (.int .i64 a1_3) := (Zc BK726.out 3).trans rfl; have hcz35_4 : w30.cell? ⟨gb726, 4, none⟩ = some (.int .i64 a1_4) := (Zc BK726.out 4).trans rfl; have hcz35_5 : w30.cell? ⟨gb726, 5, none⟩ = some (.int .i64 a1_5) := (Zc BK726.out 5).trans rfl; have hcz35_6 : w30.cell? ⟨gb726, 6, none⟩ = some (.bool a1_6) := (Zc BK726.out 6).trans rfl; have hfz35_0 := Zf BK726.out 0; have hfz35_1 := Zf BK726.out 1; have hfz35_2 := Zf BK726.out 2; have hfz35_3 := Zf BK726.out 3; have hfz35_4 := Zf BK726.out 4; have hfz35_5 := Zf BK726.out 5; have hfz35_6 := Zf BK726.out 6) | ((with_reducible refine gate_callee (f := 29) rfl ?_); refine goesL_ (some 49) rfl rfl Try.func29 (by kernel_rfl) rfl #[.agg #[.string a1_0, .string a1_1, .int .i64 a1_2, .int .i64 a1_3, .int .i64 a1_4, .int .i64 a1_5, .bool a1_6], .int .i64 a2, .int .i64 a3] rfl (by (try simp only [List.map_toArray, List.map_cons, List.map_nil]); first | done | rfl | (simp only [List.length_drop, List.length_take]; rfl)) ?_; (with_reducible refine (saga_Ack.calls a1_0 a1_1 a1_2 a1_3 a1_4 a1_5 a1_6 a2 a3 t747 t748 t749 t750 t751 t752 t753 t754 _ A12.out).mono ?_); rintro e w36 ⟨rfl, hb⟩; refine ⟨_, rfl, ?_⟩; have n0_ := Aside0.mk (Zb (g := gb725) (o := .cells #[.string a0_0, .slice A0_1 l0_1.length c0_1] 24 (0, 0)) (by repeat (first | (with_reducible first | exact BK725.out | refine Zn ?_ _ | refine Zd ?_ | refine Za ?_ _ | refine Zq ?_ NB725_746.out _))) hb); have n1_ := Aside0.mk (Zb (g := gb726) (o := .cells #[.string a1_0, .string a1_1, .int .i64 a1_2, .int .i64 a1_3, .int .i64 a1_4, .int .i64 a1_5, .bool a1_6] 26 (0, 0)) (by repeat (first | (with_reducible first | exact BK726.out | refine Zn ?_ _ | refine Zd ?_ | refine Za ?_ _ | refine Zq ?_ NB726_746.out _))) hb); have n2_ := Aside0.mk (Zb (g := gb737) (o := .cells #[.string t729, .string t730, .int .i64 t731, .int .i64 t732, .int .i64 t733, .int .i64 t734, .bool t735] 26 (0, 0)) (by repeat (first | (with_reducible first | exact BK737.out | refine Zn ?_ _ | refine Zd ?_ | refine Za ?_ _ | refine Zq ?_ NB737_746.out _))) hb); have n3_ := Aside0.mk (Zb (g := gb746) (o := .cells #[.string t738, .string t739, .int .i64 t740, .int .i64 t741, .int .i64 t742, .int .i64 t743, .bool t744] 26 (0, 0)) (by (with_reducible repeat (first | refine Zn ?_ _ | refine Zd ?_ | refine Za ?_ _)); refine Zp (cs := #[.string t738, .string t739, .int .i64 t740, .int .i64 t741, .int .i64 t742, .int .i64 t743, .bool false]) ?_ 6 _ rfl; (with_reducible repeat (first | refine Zn ?_ _ | refine Zd ?_ | refine Za ?_ _)); refine Zp (cs := #[.string t738, .string t739, .int .i64 t740, .int .i64 t741, .int .i64 t742, .int .i64 0, .bool false]) ?_ 5 _ rfl; (with_reducible repeat (first | refine Zn ?_ _ | refine Zd ?_ | refine Za ?_ _)); refine Zp (cs := #[.string t738, .string t739, .int .i64 t740, .int .i64 t741, .int .i64 0, .int .i64 0, .bool false]) ?_ 4 _ rfl; (with_reducible repeat (first | refine Zn ?_ _ | refine Zd ?_ | refine Za ?_ _)); refine Zp (cs := #[.string t738, .string t739, .int .i64 t740, .int .i64 0, .int .i64 0, .int .i64 0, .bool false]) ?_ 3 _ rfl; (with_reducible repeat (first | refine Zn ?_ _ | refine Zd ?_ | refine Za ?_ _)); refine Zp (cs := #[.string t738, .string t739, .int .i64 0, .int .i64 0, .int .i64 0, .int .i64 0, .bool false]) ?_ 2 _ rfl; (with_reducible repeat (first | refine Zn ?_ _ | refine Zd ?_ | refine Za ?_ _)); refine Zp (cs := #[.string t738, .string (⟨#[]⟩ : ByteArray), .int .i64 0, .int .i64 0, .int .i64 0, .int .i64 0, .bool false]) ?_ 1 _ rfl; (with_reducible repeat (first | refine Zn ?_ _ | refine Zd ?_ | refine Za ?_ _)); refine Zp (cs := #[.string (⟨#[]⟩ : ByteArray), .string (⟨#[]⟩ : ByteArray), .int .i64 0, .int .i64 0, .int .i64 0, .int .i64 0, .bool false]) ?_ 0 _ rfl; (with_reducible repeat (first | refine Zn ?_ _ | refine Zd ?_ | refine Za ?_ _)); exact BK746.out) hb); have n4_ := Aside0.mk (Yt (by repeat (first | (with_reducible first | exact HB.out | apply Ya | apply Yn | apply Yd | refine Ys ?_ GE725.out | refine Ys ?_ GE726.out | refine Ys ?_ GE737.out | refine Ys ?_ GE746.out) | exact HB.out)) hb); clear BK725; clear BK726; clear BK737; clear BK746; clear HB; have BK725 := n0_; have BK726 := n1_; have BK737 := n2_; have BK746 := n3_; have HB := n4_; clear n0_ n1_ n2_ n3_ n4_; (try clear hb); (try clear hb2); (try clear hk); (try clear hi)) | ((with_reducible refine gate_dst (N := 18) rfl ?_); refine box_event ?hg (N := 18) ?hd (cs := #[.string (⟨#[]⟩ : ByteArray), .string (⟨#[]⟩ : ByteArray), .int .i64 0, .int .i64 0, .int .i64 0, .int .i64 0, .bool false]) (t := 26) ?hr ?_; (case hd => rfl); (case hg => rfl); (case hr => first | (go_simp; done) | (go_simp; rfl)); intro gb755 hg w37 hbox hb; have n0_ := Aside0.mk (Zb (g := gb725) (o := .cells #[.string a0_0, .slice A0_1 l0_1.length c0_1] 24 (0, 0)) (by repeat (first | (with_reducible first | exact BK725.out | refine Zn ?_ _ | refine Zd ?_ | refine Za ?_ _))) hb); have n1_ := Aside0.mk (Zb (g := gb726) (o := .cells #[.string a1_0, .string a1_1, .int .i64 a1_2, .int .i64 a1_3, .int .i64 a1_4, .int .i64 a1_5, .bool a1_6] 26 (0, 0)) (by repeat (first | (with_reducible first | exact BK726.out | refine Zn ?_ _ | refine Zd ?_ | refine Za ?_ _))) hb); have n2_ := Aside0.mk (Zb (g := gb737) (o := .cells #[.string t729, .string t730, .int .i64 t731, .int .i64 t732, .int .i64 t733, .int .i64 t734, .bool t735] 26 (0, 0)) (by repeat (first | (with_reducible first | exact BK737.out | refine Zn ?_ _ | refine Zd ?_ | refine Za ?_ _))) hb); have n3_ := Aside0.mk (Zb (g := gb746) (o := .cells #[.string t738, .string t739, .int .i64 t740, .int .i64 t741, .int .i64 t742, .int .i64 t743, .bool t744] 26 (0, 0)) (by repeat (first | (with_reducible first | exact BK746.out | refine Zn ?_ _ | refine Zd ?_ | refine Za ?_ _))) hb); have n4_ := Aside0.mk (Yt (by repeat (first | (with_reducible first | exact HB.out | apply Ya | apply Yn | apply Yd | refine Ys ?_ GE725.out | refine Ys ?_ GE726.out | refine Ys ?_ GE737.out | refine Ys ?_ GE746.out) | exact HB.out)) hb); have n5_ := Aside0.mk (hbox); have n6_ := Aside0.mk ((by rw [hg]; exact (below_size (by repeat (first | (with_reducible first | exact HB.out | apply Ya | apply Yn | apply Yd | refine Ys ?_ GE725.out | refine Ys ?_ GE726.out | refine Ys ?_ GE737.out | refine Ys ?_ GE746.out) | exact HB.out))) : w.heap.size ≤ gb755)); have n7_ := Aside0.mk ((by rw [hg]; exact (below_size (by repeat (first | (with_reducible first | exact HB.out | apply Ya | apply Yn | apply Yd | refine Ys ?_ GE725.out | refine Ys ?_ GE726.out | refine Ys ?_ GE737.out | refine Ys ?_ GE746.out) | exact HB.out))) : w.heap.size ≤ gb755)); have n8_ := Aside0.mk ((by rw [hg]; exact Nat.ne_of_lt (blk_lt (g := gb725) (o := .cells #[.string a0_0, .slice A0_1 l0_1.length c0_1] 24 (0, 0)) (by repeat (first | (with_reducible first | exact BK725.out | refine Zn ?_ _ | refine Zd ?_ | refine Za ?_ _)))) : gb725 ≠ gb755)); have n9_ := Aside0.mk ((by rw [hg]; exact Nat.ne_of_gt (blk_lt (g := gb725) (o := .cells #[.string a0_0, .slice A0_1 l0_1.length c0_1] 24 (0, 0)) (by repeat (first | (with_reducible first | exact BK725.out | refine Zn ?_ _ | refine Zd ?_ | refine Za ?_ _)))) : gb755 ≠ gb725)); have n10_ := Aside0.mk ((by rw [hg]; exact Nat.ne_of_lt (blk_lt (g := gb726) (o := .cells #[.string a1_0, .string a1_1, .int .i64 a1_2, .int .i64 a1_3, .int .i64 a1_4, .int .i64 a1_5, .bool a1_6] 26 (0, 0)) (by repeat (first | (with_reducible first | exact BK726.out | refine Zn ?_ _ | refine Zd ?_ | refine Za ?_ _)))) : gb726 ≠ gb755)); have n11_ := Aside0.mk ((by rw [hg]; exact Nat.ne_of_gt (blk_lt (g := gb726) (o := .cells #[.string a1_0, .string a1_1, .int .i64 a1_2, .int .i64 a1_3, .int .i64 a1_4, .int .i64 a1_5, .bool a1_6] 26 (0, 0)) (by repeat (first | (with_reducible first | exact BK726.out | refine Zn ?_ _ | refine Zd ?_ | refine Za ?_ _)))) : gb755 ≠ gb726)); have n12_ := Aside0.mk ((by rw [hg]; exact Nat.ne_of_lt (blk_lt (g := gb737) (o := .cells #[.string t729, .string t730, .int .i64 t731, .int .i64 t732, .int .i64 t733, .int .i64 t734, .bool t735] 26 (0, 0)) (by repeat (first | (with_reducible first | exact BK737.out | refine Zn ?_ _ | refine Zd ?_ | refine Za ?_ _)))) : gb737 ≠ gb755)); have n13_ := Aside0.mk ((by rw [hg]; exact Nat.ne_of_gt (blk_lt (g := gb737) (o := .cells #[.string t729, .string t730, .int .i64 t731, .int .i64 t732, .int .i64 t733, .int .i64 t734, .bool t735] 26 (0, 0)) (by repeat (first | (with_reducible first | exact BK737.out | refine Zn ?_ _ | refine Zd ?_ | refine Za ?_ _)))) : gb755 ≠ gb737)); have n14_ := Aside0.mk ((by rw [hg]; exact Nat.ne_of_lt (blk_lt (g := gb746) (o := .cells #[.string t738, .string t739, .int .i64 t740, .int .i64 t741, .int .i64 t742, .int .i64 t743, .bool t744] 26 (0, 0)) (by repeat (first | (with_reducible first | exact BK746.out | refine Zn ?_ _ | refine Zd ?_ | refine Za ?_ _)))) : gb746 ≠ gb755)); have n15_ := Aside0.mk ((by rw [hg]; exact Nat.ne_of_gt (blk_lt (g := gb746) (o := .cells #[.string t738, .string t739, .int .i64 t740, .int .i64 t741, .int .i64 t742, .int .i64 t743, .bool t744] 26 (0, 0)) (by repeat (first | (with_reducible first | exact BK746.out | refine Zn ?_ _ | refine Zd ?_ | refine Za ?_ _)))) : gb755 ≠ gb746)); clear BK725; clear BK726; clear BK737; clear BK746; clear HB; have BK725 := n0_; have BK726 := n1_; have BK737 := n2_; have BK746 := n3_; have HB := n4_; have BK755 := n5_; have GW755 := n6_; have GE755 := n7_; have NB725_755 := n8_; have NB755_725 := n9_; have NB726_755 := n10_; have NB755_726 := n11_; have NB737_755 := n12_; have NB755_737 := n13_; have NB746_755 := n14_; have NB755_746 := n15_; clear n0_ n1_ n2_ n3_ n4_ n5_ n6_ n7_ n8_ n9_ n10_ n11_ n12_ n13_ n14_ n15_; clear hb hbox hg; have hnb38 := NB755_725.out; have hnc38 := NB725_755.out; have hnb39 := NB755_726.out; have hnc39 := NB726_755.out; have hnb40 := NB755_737.out; have hnc40 := NB737_755.out; have hnb41 := NB755_746.out; have hnc41 := NB746_755.out; have hcz42_0 : w37.cell? ⟨gb755, 0, none⟩ = some (.string (⟨#[]⟩ : ByteArray)) := (Zc BK755.out 0).trans rfl; have hcz42_1 : w37.cell? ⟨gb755, 1, none⟩ = some (.string (⟨#[]⟩ : ByteArray)) := (Zc BK755.out 1).trans rfl; have hcz42_2 : w37.cell? ⟨gb755, 2, none⟩ = some (.int .i64 0) := (Zc BK755.out 2).trans rfl; have hcz42_3 : w37.cell? ⟨gb755, 3, none⟩ = some (.int .i64 0) := (Zc BK755.out 3).trans rfl; have hcz42_4 : w37.cell? ⟨gb755, 4, none⟩ = some (.int .i64 0) := (Zc BK755.out 4).trans rfl; have hcz42_5 : w37.cell? ⟨gb755, 5, none⟩ = some (.int .i64 0) := (Zc BK755.out 5).trans rfl; have hcz42_6 : w37.cell? ⟨gb755, 6, none⟩ = some (.bool false) := (Zc BK755.out 6).trans rfl; have hfz42_0 := Zf BK755.out 0; have hfz42_1 := Zf BK755.out 1; have hfz42_2 := Zf BK755.out 2; have hfz42_3 := Zf BK755.out 3; have hfz42_4 := Zf BK755.out 4; have hfz42_5 := Zf BK755.out 5; have hfz42_6 := Zf BK755.out 6; have hcz43_0 : w37.cell? ⟨gb737, 0, none⟩ = some (.string t729) := (Zc BK737.out 0).trans rfl; have hcz43_1 : w37.cell? ⟨gb737, 1, none⟩ = some (.string t730) := (Zc BK737.out 1).trans rfl; have hcz43_2 : w37.cell? ⟨gb737, 2, none⟩ = some (.int .i64 t731) := (Zc BK737.out 2).trans rfl; have hcz43_3 : w37.cell? ⟨gb737, 3, none⟩ = some (.int .i64 t732) := (Zc BK737.out 3).trans rfl; have hcz43_4 : w37.cell? ⟨gb737, 4, none⟩ = some (.int .i64 t733) := (Zc BK737.out 4).trans rfl; have hcz43_5 : w37.cell? ⟨gb737, 5, none⟩ = some (.int .i64 t734) := (Zc BK737.out 5).trans rfl; have hcz43_6 : w37.cell? ⟨gb737, 6, none⟩ = some (.bool t735) := (Zc BK737.out 6).trans rfl; have hfz43_0 := Zf BK737.out 0; have hfz43_1 := Zf BK737.out 1; have hfz43_2 := Zf BK737.out 2; have hfz43_3 := Zf BK737.out 3; have hfz43_4 := Zf BK737.out 4; have hfz43_5 := Zf BK737.out 5; have hfz43_6 := Zf BK737.out 6; have hcz44_0 : w37.cell? ⟨gb746, 0, none⟩ = some (.string t738) := (Zc BK746.out 0).trans rfl; have hcz44_1 : w37.cell? ⟨gb746, 1, none⟩ = some (.string t739) := (Zc BK746.out 1).trans rfl; have hcz44_2 : w37.cell? ⟨gb746, 2, none⟩ = some (.int .i64 t740) := (Zc BK746.out 2).trans rfl; have hcz44_3 : w37.cell? ⟨gb746, 3, none⟩ = some (.int .i64 t741) := (Zc BK746.out 3).trans rfl; have hcz44_4 : w37.cell? ⟨gb746, 4, none⟩ = some (.int .i64 t742) := (Zc BK746.out 4).trans rfl; have hcz44_5 : w37.cell? ⟨gb746, 5, none⟩ = some (.int .i64 t743) := (Zc BK746.out 5).trans rfl; have hcz44_6 : w37.cell? ⟨gb746, 6, none⟩ = some (.bool t744) := (Zc BK746.out 6).trans rfl; have hfz44_0 := Zf BK746.out 0; have hfz44_1 := Zf BK746.out 1; have hfz44_2 := Zf BK746.out 2; have hfz44_3 := Zf BK746.out 3; have hfz44_4 := Zf BK746.out 4; have hfz44_5 := Zf BK746.out 5; have hfz44_6 := Zf BK746.out 6) | ((with_reducible refine gate_dst (N := 55) rfl ?_); refine Kd.R_lit k26 _ 26 ?hg (N := 55) ?hd (xs := ([(⟨t729, t730, t731, t732, t733, t734, t735⟩ : S26), (⟨t738, t739, t740, t741, t742, t743, t744⟩ : S26), (⟨t747, t748, t749, t750, t751, t752, t753⟩ : S26)] : List (S26))) (inner := [.string t729, .string t730, .int .i64 t731, .int .i64 t732, .int .i64 t733, .int .i64 t734, .bool t735, .string t738, .string t739, .int .i64 t740, .int .i64 t741, .int .i64 t742, .int .i64 t743, .bool t744, .string t747, .string t748, .int .i64 t749, .int .i64 t750, .int .i64 t751, .int .i64 t752, .bool t753]) (ok := fun _ => True) (okp := fun _ => True) ?hr ?hp (fun _ hk => hk) trivial (Below.refl _ _) (Nat.le_refl _) (by simp) ?_; (case hd => rfl); (case hg => rfl); (case hr => first | (go_simp; done) | (go_simp; rfl)); (case hp => exact (Reps.c7 (show Kd.M k26 _ _ _ (⟨t729, t730, t731, t732, t733, t734, t735⟩ : S26) [.string t729, .string t730, .int .i64 t731, .int .i64 t732, .int .i64 t733, .int .i64 t734, .bool t735] from (k26_mkM _ _ _ (⟨t729, t730, t731, t732, t733, t734, t735⟩ : S26) )) (Reps.c7 (show Kd.M k26 _ _ _ (⟨t738, t739, t740, t741, t742, t743, t744⟩ : S26) [.string t738, .string t739, .int .i64 t740, .int .i64 t741, .int .i64 t742, .int .i64 t743, .bool t744] from (k26_mkM _ _ _ (⟨t738, t739, t740, t741, t742, t743, t744⟩ : S26) )) (Reps.c7 (show Kd.M k26 _ _ _ (⟨t747, t748, t749, t750, t751, t752, t753⟩ : S26) [.string t747, .string t748, .int .i64 t749, .int .i64 t750, .int .i64 t751, .int .i64 t752, .bool t753] from (k26_mkM _ _ _ (⟨t747, t748, t749, t750, t751, t752, t753⟩ : S26) )) (Reps.none _ _))))); intro v757 w45 ho46 hb hg_ hnew_; clear hg_ hnew_; (first | rw [← Ny756.out] at ho46 | (simp only [Int.reduceToNat] at ho46; rw [← Ny756.out] at ho46)); have n0_ := Aside0.mk (Kd.R_lower (Kd.R_newB (Kd.R_newB (Kd.R_newB (Kd.R_newB ho46 (g := gb726) (o := .cells #[.string a1_0, .string a1_1, .int .i64 a1_2, .int .i64 a1_3, .int .i64 a1_4, .int .i64 a1_5, .bool a1_6] 26 (0, 0)) (by repeat (first | (with_reducible first | exact BK726.out | refine Zn ?_ _ | refine Zd ?_ | refine Za ?_ _ | refine Zq ?_ NB726_755.out _)))) (g := gb737) (o := .cells #[.string t729, .string t730, .int .i64 t731, .int .i64 t732, .int .i64 t733, .int .i64 t734, .bool t735] 26 (0, 0)) (by repeat (first | (with_reducible first | exact BK737.out | refine Zn ?_ _ | refine Zd ?_ | refine Za ?_ _ | refine Zq ?_ NB737_755.out _)))) (g := gb746) (o := .cells #[.string t738, .string t739, .int .i64 t740, .int .i64 t741, .int .i64 t742, .int .i64 t743, .bool t744] 26 (0, 0)) (by repeat (first | (with_reducible first | exact BK746.out | refine Zn ?_ _ | refine Zd ?_ | refine Za ?_ _ | refine Zq ?_ NB746_755.out _)))) (g := gb755) (o := .cells #[.string t747, .string t748, .int .i64 t749, .int .i64 t750, .int .i64 t751, .int .i64 t752, .bool t753] 26 (0, 0)) (by (with_reducible repeat (first | refine Zn ?_ _ | refine Zd ?_ | refine Za ?_ _)); refine Zp (cs := #[.string t747, .string t748, .int .i64 t749, .int .i64 t750, .int .i64 t751, .int .i64 t752, .bool false]) ?_ 6 _ rfl; (with_reducible repeat (first | refine Zn ?_ _ | refine Zd ?_ | refine Za ?_ _)); refine Zp (cs := #[.string t747, .string t748, .int .i64 t749, .int .i64 t750, .int .i64 t751, .int .i64 0, .bool false]) ?_ 5 _ rfl; (with_reducible repeat (first | refine Zn ?_ _ | refine Zd ?_ | refine Za ?_ _)); refine Zp (cs := #[.string t747, .string t748, .int .i64 t749, .int .i64 t750, .int .i64 0, .int .i64 0, .bool false]) ?_ 4 _ rfl; (with_reducible repeat (first | refine Zn ?_ _ | refine Zd ?_ | refine Za ?_ _)); refine Zp (cs := #[.string t747, .string t748, .int .i64 t749, .int .i64 0, .int .i64 0, .int .i64 0, .bool false]) ?_ 3 _ rfl; (with_reducible repeat (first | refine Zn ?_ _ | refine Zd ?_ | refine Za ?_ _)); refine Zp (cs := #[.string t747, .string t748, .int .i64 0, .int .i64 0, .int .i64 0, .int .i64 0, .bool false]) ?_ 2 _ rfl; (with_reducible repeat (first | refine Zn ?_ _ | refine Zd ?_ | refine Za ?_ _)); refine Zp (cs := #[.string t747, .string (⟨#[]⟩ : ByteArray), .int .i64 0, .int .i64 0, .int .i64 0, .int .i64 0, .bool false]) ?_ 1 _ rfl; (with_reducible repeat (first | refine Zn ?_ _ | refine Zd ?_ | refine Za ?_ _)); refine Zp (cs := #[.string (⟨#[]⟩ : ByteArray), .string (⟨#[]⟩ : ByteArray), .int .i64 0, .int .i64 0, .int .i64 0, .int .i64 0, .bool false]) ?_ 0 _ rfl; (with_reducible repeat (first | refine Zn ?_ _ | refine Zd ?_ | refine Za ?_ _)); exact BK755.out)) (below_size (by repeat (first | (with_reducible first | exact HB.out | apply Ya | apply Yn | apply Yd | refine Ys ?_ GE725.out | refine Ys ?_ GE726.out | refine Ys ?_ GE737.out | refine Ys ?_ GE746.out | refine Ys ?_ GE755.out) | exact HB.out)))); have n1_ := Aside0.mk (Zb (g := gb725) (o := .cells #[.string a0_0, .slice A0_1 l0_1.length c0_1] 24 (0, 0)) (by repeat (first | (with_reducible first | exact BK725.out | refine Zn ?_ _ | refine Zd ?_ | refine Za ?_ _ | refine Zq ?_ NB725_755.out _))) hb); have n2_ := Aside0.mk (Zb (g := gb726) (o := .cells #[.string a1_0, .string a1_1, .int .i64 a1_2, .int .i64 a1_3, .int .i64 a1_4, .int .i64 a1_5, .bool a1_6] 26 (0, 0)) (by repeat (first | (with_reducible first | exact BK726.out | refine Zn ?_ _ | refine Zd ?_ | refine Za ?_ _ | refine Zq ?_ NB726_755.out _))) hb); have n3_ := Aside0.mk (Zb (g := gb737) (o := .cells #[.string t729, .string t730, .int .i64 t731, .int .i64 t732, .int .i64 t733, .int .i64 t734, .bool t735] 26 (0, 0)) (by repeat (first | (with_reducible first | exact BK737.out | refine Zn ?_ _ | refine Zd ?_ | refine Za ?_ _ | refine Zq ?_ NB737_755.out _))) hb); have n4_ := Aside0.mk (Zb (g := gb746) (o := .cells #[.string t738, .string t739, .int .i64 t740, .int .i64 t741, .int .i64 t742, .int .i64 t743, .bool t744] 26 (0, 0)) (by repeat (first | (with_reducible first | exact BK746.out | refine Zn ?_ _ | refine Zd ?_ | refine Za ?_ _ | refine Zq ?_ NB746_755.out _))) hb); have n5_ := Aside0.mk (Zb (g := gb755) (o := .cells #[.string t747, .string t748, .int .i64 t749, .int .i64 t750, .int .i64 t751, .int .i64 t752, .bool t753] 26 (0, 0)) (by (with_reducible repeat (first | refine Zn ?_ _ | refine Zd ?_ | refine Za ?_ _)); refine Zp (cs := #[.string t747, .string t748, .int .i64 t749, .int .i64 t750, .int .i64 t751, .int .i64 t752, .bool false]) ?_ 6 _ rfl; (with_reducible repeat (first | refine Zn ?_ _ | refine Zd ?_ | refine Za ?_ _)); refine Zp (cs := #[.string t747, .string t748, .int .i64 t749, .int .i64 t750, .int .i64 t751, .int .i64 0, .bool false]) ?_ 5 _ rfl; (with_reducible repeat (first | refine Zn ?_ _ | refine Zd ?_ | refine Za ?_ _)); refine Zp (cs := #[.string t747, .string t748, .int .i64 t749, .int .i64 t750, .int .i64 0, .int .i64 0, .bool false]) ?_ 4 _ rfl; (with_reducible repeat (first | refine Zn ?_ _ | refine Zd ?_ | refine Za ?_ _)); refine Zp (cs := #[.string t747, .string t748, .int .i64 t749, .int .i64 0, .int .i64 0, .int .i64 0, .bool false]) ?_ 3 _ rfl; (with_reducible repeat (first | refine Zn ?_ _ | refine Zd ?_ | refine Za ?_ _)); refine Zp (cs := #[.string t747, .string t748, .int .i64 0, .int .i64 0, .int .i64 0, .int .i64 0, .bool false]) ?_ 2 _ rfl; (with_reducible repeat (first | refine Zn ?_ _ | refine Zd ?_ | refine Za ?_ _)); refine Zp (cs := #[.string t747, .string (⟨#[]⟩ : ByteArray), .int .i64 0, .int .i64 0, .int .i64 0, .int .i64 0, .bool false]) ?_ 1 _ rfl; (with_reducible repeat (first | refine Zn ?_ _ | refine Zd ?_ | refine Za ?_ _)); refine Zp (cs := #[.string (⟨#[]⟩ : ByteArray), .string (⟨#[]⟩ : ByteArray), .int .i64 0, .int .i64 0, .int .i64 0, .int .i64 0, .bool false]) ?_ 0 _ rfl; (with_reducible repeat (first | refine Zn ?_ _ | refine Zd ?_ | refine Za ?_ _)); exact BK755.out) hb); have n6_ := Aside0.mk (Yt (by repeat (first | (with_reducible first | exact HB.out | apply Ya | apply Yn | apply Yd | refine Ys ?_ GE725.out | refine Ys ?_ GE726.out | refine Ys ?_ GE737.out | refine Ys ?_ GE746.out | refine Ys ?_ GE755.out) | exact HB.out)) hb); clear BK725; clear BK726; clear BK737; clear BK746; clear BK755; clear HB; have HO758 := n0_; have BK725 := n1_; have BK726 := n2_; have BK737 := n3_; have BK746 := n4_; have BK755 := n5_; have HB := n6_; clear n0_ n1_ n2_ n3_ n4_ n5_ n6_; clear hb ho46))
  go_loopg [21] k (fun kq v21 w' => ∃ (x21_1 : Int), v21 = .int .i64 x21_1 ∧ Aside0 (palinodelaw19_SagaRight.l0 kq t727 t736 t745 t754 y756 x21_1 a0_0 l0_1 a1_0 a1_1 a1_2 a1_3 a1_4 a1_5 a1_6 t729 t730 t731 t732 t733 t734 t735 t738 t739 t740 t741 t742 t743 t744 t747 t748 t749 t750 t751 t752 t753 = some r) ∧ Aside0 (kq ≤ k) ∧ Aside0 (Kd.R k26 26 w' w.heap.size (fun k_ => k_ ≠ gb726 ∧ k_ ≠ gb737 ∧ k_ ≠ gb746 ∧ k_ ≠ gb755) v757 y756) ∧ Aside0 (w'.heap[gb725]? = some (.cells #[.string a0_0, (.slice A0_1 l0_1.length c0_1)] 24 (0, 0))) ∧ Aside0 (w'.heap[gb726]? = some (.cells #[.string a1_0, .string a1_1, .int .i64 a1_2, .int .i64 a1_3, .int .i64 a1_4, .int .i64 a1_5, .bool a1_6] 26 (0, 0))) ∧ Aside0 (w'.heap[gb737]? = some (.cells #[.string t729, .string t730, .int .i64 t731, .int .i64 t732, .int .i64 t733, .int .i64 t734, .bool t735] 26 (0, 0))) ∧ Aside0 (w'.heap[gb746]? = some (.cells #[.string t738, .string t739, .int .i64 t740, .int .i64 t741, .int .i64 t742, .int .i64 t743, .bool t744] 26 (0, 0))) ∧ Aside0 (w'.heap[gb755]? = some (.cells #[.string t747, .string t748, .int .i64 t749, .int .i64 t750, .int .i64 t751, .int .i64 t752, .bool t753] 26 (0, 0))) ∧ Aside0 (Below w.heap.size w w'))
  case atStart => exact ⟨(0), (by first | rfl | (simp; done) | (simp [*]; done)), H', ⟨Nat.le_refl _⟩, ⟨by (with_reducible repeat (first | apply Kd.R_alloc | apply Kd.R_drewN | apply Kd.R_drew)); exact Kd.R_mono HO758.out (fun _ hk => ⟨hk.1.1.1.2, ⟨hk.1.1.2, ⟨hk.1.2, hk.2⟩⟩⟩)⟩, ⟨by (with_reducible repeat (first | refine Zn ?_ _ | refine Zd ?_ | refine Za ?_ _)); exact BK725.out⟩, ⟨by (with_reducible repeat (first | refine Zn ?_ _ | refine Zd ?_ | refine Za ?_ _)); exact BK726.out⟩, ⟨by (with_reducible repeat (first | refine Zn ?_ _ | refine Zd ?_ | refine Za ?_ _)); exact BK737.out⟩, ⟨by (with_reducible repeat (first | refine Zn ?_ _ | refine Zd ?_ | refine Za ?_ _)); exact BK746.out⟩, ⟨by (with_reducible repeat (first | refine Zn ?_ _ | refine Zd ?_ | refine Za ?_ _)); exact BK755.out⟩, ⟨by repeat (first | (with_reducible first | exact HB.out | apply Ya | apply Yn | apply Yd | refine Ys ?_ GE725.out | refine Ys ?_ GE726.out | refine Ys ?_ GE737.out | refine Ys ?_ GE746.out | refine Ys ?_ GE755.out) | exact HB.out)⟩⟩
  case round =>
   clear H'
   try clear c1
   try clear c2
   try clear p2
   try clear c3
   try clear c4
   try clear c7
   try clear c9
   try clear c12
   try clear c13
   try clear c16
   try clear c18
   try clear c23
   try clear c24
   try clear c25
   try clear c28
   try clear c29
   try clear c31
   try clear c32
   try clear c33
   try clear c38
   try clear c39
   try clear c40
   try clear c41
   try clear hcz17_0
   try clear hcz17_1
   try clear hcz18_0
   try clear hcz18_1
   try clear hcz18_2
   try clear hcz18_3
   try clear hcz18_4
   try clear hcz18_5
   try clear hcz18_6
   try clear hcz20_0
   try clear hcz20_1
   try clear hcz21_0
   try clear hcz21_1
   try clear hcz21_2
   try clear hcz21_3
   try clear hcz21_4
   try clear hcz21_5
   try clear hcz21_6
   try clear hcz26_0
   try clear hcz26_1
   try clear hcz26_2
   try clear hcz26_3
   try clear hcz26_4
   try clear hcz26_5
   try clear hcz26_6
   try clear hcz27_0
   try clear hcz27_1
   try clear hcz28_0
   try clear hcz28_1
   try clear hcz28_2
   try clear hcz28_3
   try clear hcz28_4
   try clear hcz28_5
   try clear hcz28_6
   try clear hcz34_0
   try clear hcz34_1
   try clear hcz34_2
   try clear hcz34_3
   try clear hcz34_4
   try clear hcz34_5
   try clear hcz34_6
   try clear hcz35_0
   try clear hcz35_1
   try clear hcz35_2
   try clear hcz35_3
   try clear hcz35_4
   try clear hcz35_5
   try clear hcz35_6
   try clear hcz42_0
   try clear hcz42_1
   try clear hcz42_2
   try clear hcz42_3
   try clear hcz42_4
   try clear hcz42_5
   try clear hcz42_6
   try clear hcz43_0
   try clear hcz43_1
   try clear hcz43_2
   try clear hcz43_3
   try clear hcz43_4
   try clear hcz43_5
   try clear hcz43_6
   try clear hcz44_0
   try clear hcz44_1
   try clear hcz44_2
   try clear hcz44_3
   try clear hcz44_4
   try clear hcz44_5
   try clear hcz44_6
   try clear hfz17_0
   try clear hfz17_1
   try clear hfz18_0
   try clear hfz18_1
   try clear hfz18_2
   try clear hfz18_3
   try clear hfz18_4
   try clear hfz18_5
   try clear hfz18_6
   try clear hfz20_0
   try clear hfz20_1
   try clear hfz21_0
   try clear hfz21_1
   try clear hfz21_2
   try clear hfz21_3
   try clear hfz21_4
   try clear hfz21_5
   try clear hfz21_6
   try clear hfz26_0
   try clear hfz26_1
   try clear hfz26_2
   try clear hfz26_3
   try clear hfz26_4
   try clear hfz26_5
   try clear hfz26_6
   try clear hfz27_0
   try clear hfz27_1
   try clear hfz28_0
   try clear hfz28_1
   try clear hfz28_2
   try clear hfz28_3
   try clear hfz28_4
   try clear hfz28_5
   try clear hfz28_6
   try clear hfz34_0
   try clear hfz34_1
   try clear hfz34_2
   try clear hfz34_3
   try clear hfz34_4
   try clear hfz34_5
   try clear hfz34_6
   try clear hfz35_0
   try clear hfz35_1
   try clear hfz35_2
   try clear hfz35_3
   try clear hfz35_4
   try clear hfz35_5
   try clear hfz35_6
   try clear hfz42_0
   try clear hfz42_1
   try clear hfz42_2
   try clear hfz42_3
   try clear hfz42_4
   try clear hfz42_5
   try clear hfz42_6
   try clear hfz43_0
   try clear hfz43_1
   try clear hfz43_2
   try clear hfz43_3
   try clear hfz43_4
   try clear hfz43_5
   try clear hfz43_6
   try clear hfz44_0
   try clear hfz44_1
   try clear hfz44_2
   try clear hfz44_3
   try clear hfz44_4
   try clear hfz44_5
   try clear hfz44_6
   obtain ⟨x21_1, rfl, HA, HK1, HO_20, BK725, BK726, BK737, BK746, BK755, HB⟩ := hrel
   cases gk with
   | zero => exact absurd HA.out (by simp [palinodelaw19_SagaRight.l0])
   | succ k1 =>
    have H := HA.out
    clear HA
    simp only [palinodelaw19_SagaRight.l0] at H
    by_cases c47 : x21_1 < (y756.length : Int)
    ·
     rw [if_pos c47] at H
     have c47b0 : decide (x21_1 < (y756.length : Int)) = true := decide_eq_true c47
     clear c47
     by_cases c48 : 0 ≤ x21_1
     ·
      rw [if_pos c48] at H
      have c48b0 : decide (0 ≤ x21_1) = true := decide_eq_true c48
      clear c48
      replace H := Option.bind_eq_some_iff.mp H
      obtain ⟨t760, A490, H⟩ := H
      replace H : (if t760 = true then (if ((rd_T26 y756 x21_1).f0).toList = a1_0.toList then (if ((rd_T26 y756 x21_1).f1).toList = a1_1.toList then (palinodelaw19_SagaRight.l0 k1 t727 t736 t745 t754 y756 (wrap64 (x21_1 + 1)) a0_0 l0_1 a1_0 a1_1 a1_2 a1_3 a1_4 a1_5 a1_6 t729 t730 t731 t732 t733 t734 t735 t738 t739 t740 t741 t742 t743 t744 t747 t748 t749 t750 t751 t752 t753) else (some false)) else (some false)) else (some false)) = some r := H
      have A49 := Aside0.mk A490
      clear A490
      by_cases c50 : t760 = true
      ·
       subst c50
       have H1 : (if ((rd_T26 y756 x21_1).f0).toList = a1_0.toList then (if ((rd_T26 y756 x21_1).f1).toList = a1_1.toList then (palinodelaw19_SagaRight.l0 k1 t727 t736 t745 t754 y756 (wrap64 (x21_1 + 1)) a0_0 l0_1 a1_0 a1_1 a1_2 a1_3 a1_4 a1_5 a1_6 t729 t730 t731 t732 t733 t734 t735 t738 t739 t740 t741 t742 t743 t744 t747 t748 t749 t750 t751 t752 t753) else (some false)) else (some false)) = some r := by rw [if_pos rfl] at H; exact H
       clear H
       have H := H1
       clear H1
       by_cases c51 : ((rd_T26 y756 x21_1).f0).toList = a1_0.toList
       ·
        rw [if_pos c51] at H
        have c51b0 : (((rd_T26 y756 x21_1).f0).toList == a1_0.toList) = true := beq_iff_eq.mpr c51
        have c51b1 : (((rd_T26 y756 x21_1).f0).toList != a1_0.toList) = false := bne_eq_false_iff_eq.mpr c51
        clear c51
        by_cases c52 : ((rd_T26 y756 x21_1).f1).toList = a1_1.toList
        ·
         rw [if_pos c52] at H
         have c52b0 : (((rd_T26 y756 x21_1).f1).toList == a1_1.toList) = true := beq_iff_eq.mpr c52
         have c52b1 : (((rd_T26 y756 x21_1).f1).toList != a1_1.toList) = false := bne_eq_false_iff_eq.mpr c52
         clear c52
         have H' := Aside0.mk H
         clear H
         obtain ⟨Ao53, co53, eo53⟩ := Kd.R_slice HO_20.out
         subst eo53
         try go_wp2
         have n0_ := Aside0.mk (Kd.R_drew HO_20.out)
         have n1_ := Aside0.mk (Zd BK725.out)
         have n2_ := Aside0.mk (Zd BK726.out)
         have n3_ := Aside0.mk (Zd BK737.out)
         have n4_ := Aside0.mk (Zd BK746.out)
         have n5_ := Aside0.mk (Zd BK755.out)
         have n6_ := Aside0.mk (Yd HB.out)
         clear HO_20
         clear BK725
         clear BK726
         clear BK737
         clear BK746
         clear BK755
         clear HB
         have HO_20 := n0_
         have BK725 := n1_
         have BK726 := n2_
         have BK737 := n3_
         have BK746 := n4_
         have BK755 := n5_
         have HB := n6_
         clear n0_ n1_ n2_ n3_ n4_ n5_ n6_
         have p759 : 0 ≤ (x21_1 : Int) := of_decide_eq_true (by first | (with_reducible assumption) | assumption)
         have q759 : x21_1 < (y756.length : Int) := of_decide_eq_true (by first | (with_reducible assumption) | assumption)
         obtain ⟨ad759, e759, hx759_0, hx759_1, hx759_2, hx759_3, hx759_4, hx759_5, hx759_6⟩ := at_T26 (Kd.R_reads' HO_20.out).2.2 x21_1 p759 q759
         cases e759
         replace p759 := eq_true p759
         replace q759 := eq_true q759
         have p761 : 0 ≤ (x21_1 : Int) := of_decide_eq_true (by first | (with_reducible assumption) | assumption)
         have q761 : x21_1 < (y756.length : Int) := of_decide_eq_true (by first | (with_reducible assumption) | assumption)
         obtain ⟨ad761, e761, hx761_0, hx761_1, hx761_2, hx761_3, hx761_4, hx761_5, hx761_6⟩ := at_T26 (Kd.R_reads' HO_20.out).2.2 x21_1 p761 q761
         obtain rfl : ad759 = ad761 := (by injection e761)
         replace p761 := eq_true p761
         replace q761 := eq_true q761
         have p762 : 0 ≤ (x21_1 : Int) := of_decide_eq_true (by first | (with_reducible assumption) | assumption)
         have q762 : x21_1 < (y756.length : Int) := of_decide_eq_true (by first | (with_reducible assumption) | assumption)
         obtain ⟨ad762, e762, hx762_0, hx762_1, hx762_2, hx762_3, hx762_4, hx762_5, hx762_6⟩ := at_T26 (Kd.R_reads' HO_20.out).2.2 x21_1 p762 q762
         obtain rfl : ad759 = ad762 := (by injection e762)
         replace p762 := eq_true p762
         replace q762 := eq_true q762
         refine start_ (n := 27) (S := fun w' => w'.cell? ⟨gb725, 0, none⟩ = some (.string a0_0) ∧ w'.cell? ⟨gb725, 1, none⟩ = some (.slice A0_1 l0_1.length c0_1) ∧ w'.cell? ⟨gb726, 0, none⟩ = some (.string a1_0) ∧ w'.cell? ⟨gb726, 1, none⟩ = some (.string a1_1) ∧ w'.cell? ⟨gb726, 2, none⟩ = some (.int .i64 a1_2) ∧ w'.cell? ⟨gb726, 3, none⟩ = some (.int .i64 a1_3) ∧ w'.cell? ⟨gb726, 4, none⟩ = some (.int .i64 a1_4) ∧ w'.cell? ⟨gb726, 5, none⟩ = some (.int .i64 a1_5) ∧ w'.cell? ⟨gb726, 6, none⟩ = some (.bool a1_6) ∧ w'.cell? (ad759.add ((x21_1).toNat * 7)) = some (.string ((rd_T26 y756 x21_1).f0)) ∧ w'.cell? ⟨(ad759.add ((x21_1).toNat * 7)).block, (ad759.add ((x21_1).toNat * 7)).off + 1, none⟩ = some (.string ((rd_T26 y756 x21_1).f1)) ∧ w'.cell? ⟨(ad759.add ((x21_1).toNat * 7)).block, (ad759.add ((x21_1).toNat * 7)).off + 2, none⟩ = some (.int .i64 ((rd_T26 y756 x21_1).f2)) ∧ w'.cell? ⟨(ad759.add ((x21_1).toNat * 7)).block, (ad759.add ((x21_1).toNat * 7)).off + 3, none⟩ = some (.int .i64 ((rd_T26 y756 x21_1).f3)) ∧ w'.cell? ⟨(ad759.add ((x21_1).toNat * 7)).block, (ad759.add ((x21_1).toNat * 7)).off + 4, none⟩ = some (.int .i64 ((rd_T26 y756 x21_1).f4)) ∧ w'.cell? ⟨(ad759.add ((x21_1).toNat * 7)).block, (ad759.add ((x21_1).toNat * 7)).off + 5, none⟩ = some (.int .i64 ((rd_T26 y756 x21_1).f5)) ∧ w'.cell? ⟨(ad759.add ((x21_1).toNat * 7)).block, (ad759.add ((x21_1).toNat * 7)).off + 6, none⟩ = some (.bool ((rd_T26 y756 x21_1).f6)) ∧ w'.cell? (ad759.add ((x21_1).toNat * 7)) = some (.string ((rd_T26 y756 x21_1).f0)) ∧ w'.cell? ⟨(ad759.add ((x21_1).toNat * 7)).block, (ad759.add ((x21_1).toNat * 7)).off + 1, none⟩ = some (.string ((rd_T26 y756 x21_1).f1)) ∧ w'.cell? ⟨(ad759.add ((x21_1).toNat * 7)).block, (ad759.add ((x21_1).toNat * 7)).off + 2, none⟩ = some (.int .i64 ((rd_T26 y756 x21_1).f2)) ∧ w'.cell? ⟨(ad759.add ((x21_1).toNat * 7)).block, (ad759.add ((x21_1).toNat * 7)).off + 3, none⟩ = some (.int .i64 ((rd_T26 y756 x21_1).f3)) ∧ w'.cell? ⟨(ad759.add ((x21_1).toNat * 7)).block, (ad759.add ((x21_1).toNat * 7)).off + 4, none⟩ = some (.int .i64 ((rd_T26 y756 x21_1).f4)) ∧ w'.cell? ⟨(ad759.add ((x21_1).toNat * 7)).block, (ad759.add ((x21_1).toNat * 7)).off + 5, none⟩ = some (.int .i64 ((rd_T26 y756 x21_1).f5)) ∧ w'.cell? ⟨(ad759.add ((x21_1).toNat * 7)).block, (ad759.add ((x21_1).toNat * 7)).off + 6, none⟩ = some (.bool ((rd_T26 y756 x21_1).f6)) ∧ w'.cell? (ad759.add ((x21_1).toNat * 7)) = some (.string ((rd_T26 y756 x21_1).f0)) ∧ w'.cell? ⟨(ad759.add ((x21_1).toNat * 7)).block, (ad759.add ((x21_1).toNat * 7)).off + 1, none⟩ = some (.string ((rd_T26 y756 x21_1).f1)) ∧ w'.cell? ⟨(ad759.add ((x21_1).toNat * 7)).block, (ad759.add ((x21_1).toNat * 7)).off + 2, none⟩ = some (.int .i64 ((rd_T26 y756 x21_1).f2)) ∧ w'.cell? ⟨(ad759.add ((x21_1).toNat * 7)).block, (ad759.add ((x21_1).toNat * 7)).off + 3, none⟩ = some (.int .i64 ((rd_T26 y756 x21_1).f3)) ∧ w'.cell? ⟨(ad759.add ((x21_1).toNat * 7)).block, (ad759.add ((x21_1).toNat * 7)).off + 4, none⟩ = some (.int .i64 ((rd_T26 y756 x21_1).f4)) ∧ w'.cell? ⟨(ad759.add ((x21_1).toNat * 7)).block, (ad759.add ((x21_1).toNat * 7)).off + 5, none⟩ = some (.int .i64 ((rd_T26 y756 x21_1).f5)) ∧ w'.cell? ⟨(ad759.add ((x21_1).toNat * 7)).block, (ad759.add ((x21_1).toNat * 7)).off + 6, none⟩ = some (.bool ((rd_T26 y756 x21_1).f6))) (ds := []) #[false, false, false, false, false, false, false, false, false, false, false, false, false, false, false, false, false, false, false, false, false, false, false, false, false, false, false] (by kernel_rfl) rfl rfl ⟨(Zc BK725.out 0).trans rfl, (Zc BK725.out 1).trans rfl, (Zc BK726.out 0).trans rfl, (Zc BK726.out 1).trans rfl, (Zc BK726.out 2).trans rfl, (Zc BK726.out 3).trans rfl, (Zc BK726.out 4).trans rfl, (Zc BK726.out 5).trans rfl, (Zc BK726.out 6).trans rfl, hx759_0, hx759_1, hx759_2, hx759_3, hx759_4, hx759_5, hx759_6, hx761_0, hx761_1, hx761_2, hx761_3, hx761_4, hx761_5, hx761_6, hx762_0, hx762_1, hx762_2, hx762_3, hx762_4, hx762_5, hx762_6⟩ (fun hHeld => ?_); refine with_tabW palinodelaw19_SagaRight.tab11 palinodelaw19_SagaRight.bits11 (fun HT_ HW_ => ?_)
         generalize wr.drew = w54 at HO_20 BK725 BK726 BK737 BK746 BK755 HB hx759_0 hx759_1 hx759_2 hx759_3 hx759_4 hx759_5 hx759_6 hx761_0 hx761_1 hx761_2 hx761_3 hx761_4 hx761_5 hx761_6 hx762_0 hx762_1 hx762_2 hx762_3 hx762_4 hx762_5 hx762_6 hHeld ⊢
         refine pure_ (i := 1) (N := some 63) (v := ?_) (a' := ?_) #[false, true, false, false, false, false, false, false, false, false, false, false, false, false, false, false, false, false, false, false, false, false, false, false, false, false, false] rfl rfl (any_of HT_.out (by kernel_rfl)) (fun _ _ _ h => h) (Or.inl ⟨by rfl, ?_⟩) ?_ ?_
         rotate_left
         ·
          intro w'
          go_simp
          with_reducible rfl
         rotate_left
         ·
          simp only [Act.put, List.setIfInBounds_toArray, List.set_cons_zero, List.set_cons_succ, i64_w, i32_w]
          rfl
         refine pure_ (i := 2) (N := some 64) (v := ?_) (a' := ?_) #[false, true, true, false, false, false, false, false, false, false, false, false, false, false, false, false, false, false, false, false, false, false, false, false, false, false, false] rfl rfl (any_of HT_.out (by kernel_rfl)) (fun _ _ _ h => h) (Or.inl ⟨by rfl, ?_⟩) ?_ ?_
         rotate_left
         ·
          intro w'
          go_simp
          with_reducible rfl
         rotate_left
         ·
          simp only [Act.put, List.setIfInBounds_toArray, List.set_cons_zero, List.set_cons_succ, i64_w, i32_w]
          rfl
         refine pure_ (i := 3) (N := some 65) (v := ?_) (a' := ?_) #[false, true, true, true, false, false, false, false, false, false, false, false, false, false, false, false, false, false, false, false, false, false, false, false, false, false, false] rfl rfl (any_of HT_.out (by kernel_rfl)) (fun _ _ _ h => h) (Or.inl ⟨by rfl, ?_⟩) ?_ ?_
         rotate_left
         ·
          intro w'
          go_simp
          with_reducible rfl
         rotate_left
         ·
          simp only [Act.put, List.setIfInBounds_toArray, List.set_cons_zero, List.set_cons_succ, i64_w, i32_w]
          rfl
         refine take_ (i := 0) (N := some 62) (v := ?_) (a' := ?_) #[true, true, true, true, false, false, false, false, false, false, false, false, false, false, false, false, false, false, false, false, false, false, false, false, false, false, false] rfl rfl (take_ofW HT_.out HW_.out (by kernel_rfl)) (fun _ _ _ h => h) (Or.inl ⟨by rfl, ?_⟩) hHeld ?_ ?_
         rotate_left
         ·
          rintro w' ⟨s0, s1, s2, s3, s4, s5, s6, s7, s8, s9, s10, s11, s12, s13, s14, s15, s16, s17, s18, s19, s20, s21, s22, s23, s24, s25, s26, s27, s28, s29⟩
          go_simp
          with_reducible rfl
         rotate_left
         ·
          simp only [Act.put, List.setIfInBounds_toArray, List.set_cons_zero, List.set_cons_succ, i64_w, i32_w]
          rfl
         refine take_ (i := 4) (N := some 66) (v := ?_) (a' := ?_) #[true, true, true, true, true, false, false, false, false, false, false, false, false, false, false, false, false, false, false, false, false, false, false, false, false, false, false] rfl rfl (take_ofW HT_.out HW_.out (by kernel_rfl)) (fun _ _ _ h => h) (Or.inl ⟨by rfl, ?_⟩) hHeld ?_ ?_
         rotate_left
         ·
          rintro w' ⟨s0, s1, s2, s3, s4, s5, s6, s7, s8, s9, s10, s11, s12, s13, s14, s15, s16, s17, s18, s19, s20, s21, s22, s23, s24, s25, s26, s27, s28, s29⟩
          go_simp
          with_reducible rfl
         rotate_left
         ·
          simp only [Act.put, List.setIfInBounds_toArray, List.set_cons_zero, List.set_cons_succ, i64_w, i32_w]
          rfl
         refine one_ (i := 5) (N := some 67) #[true, true, true, true, true, true, false, false, false, false, false, false, false, false, false, false, false, false, false, false, false, false, false, false, false, false, false] rfl rfl (one_of HT_.out (by kernel_rfl)) (by decide) (fun K hK => ?_)
         refine goes_ Try.func18 (by kernel_rfl) rfl #[.agg #[.string a0_0, .slice A0_1 l0_1.length c0_1], .agg #[.string ((rd_T26 y756 x21_1).f0), .string ((rd_T26 y756 x21_1).f1), .int .i64 ((rd_T26 y756 x21_1).f2), .int .i64 ((rd_T26 y756 x21_1).f3), .int .i64 ((rd_T26 y756 x21_1).f4), .int .i64 ((rd_T26 y756 x21_1).f5), .bool ((rd_T26 y756 x21_1).f6)]] (by rfl) rfl rfl (by (try simp only [List.map_toArray, List.map_cons, List.map_nil]); first | done | rfl | (simp only [List.length_drop, List.length_take]; rfl)) ?_
         with_reducible refine (saga_Right.calls k1 a0_0 _ _ l0_1 ((rd_T26 y756 x21_1).f0) ((rd_T26 y756 x21_1).f1) ((rd_T26 y756 x21_1).f2) ((rd_T26 y756 x21_1).f3) ((rd_T26 y756 x21_1).f4) ((rd_T26 y756 x21_1).f5) ((rd_T26 y756 x21_1).f6) true _ ?side1 ?side2 A49.out).mono ?_
         (case side1 => repeat (first | exact (Kd.C_below HR0_1.out HB.out) | (with_reducible refine Kd.C_alloc ?_ _) | (with_reducible refine Kd.C_drewN ?_ _) | (with_reducible refine Kd.C_drew ?_)))
         (case side2 => exact HC0_1.out)
         rintro e w55 ⟨rfl, hb⟩
         have HS9_ := (hb.cell (World.block_lt_of_cell? _ _ (hHeld.2.2.2.2.2.2.2.2.2.1))).trans (hHeld.2.2.2.2.2.2.2.2.2.1)
         have HS10_ := (hb.cell (World.block_lt_of_cell? _ _ (hHeld.2.2.2.2.2.2.2.2.2.2.1))).trans (hHeld.2.2.2.2.2.2.2.2.2.2.1)
         have HS11_ := (hb.cell (World.block_lt_of_cell? _ _ (hHeld.2.2.2.2.2.2.2.2.2.2.2.1))).trans (hHeld.2.2.2.2.2.2.2.2.2.2.2.1)
         have HS12_ := (hb.cell (World.block_lt_of_cell? _ _ (hHeld.2.2.2.2.2.2.2.2.2.2.2.2.1))).trans (hHeld.2.2.2.2.2.2.2.2.2.2.2.2.1)
         have HS13_ := (hb.cell (World.block_lt_of_cell? _ _ (hHeld.2.2.2.2.2.2.2.2.2.2.2.2.2.1))).trans (hHeld.2.2.2.2.2.2.2.2.2.2.2.2.2.1)
         have HS14_ := (hb.cell (World.block_lt_of_cell? _ _ (hHeld.2.2.2.2.2.2.2.2.2.2.2.2.2.2.1))).trans (hHeld.2.2.2.2.2.2.2.2.2.2.2.2.2.2.1)
         have HS15_ := (hb.cell (World.block_lt_of_cell? _ _ (hHeld.2.2.2.2.2.2.2.2.2.2.2.2.2.2.2.1))).trans (hHeld.2.2.2.2.2.2.2.2.2.2.2.2.2.2.2.1)
         have HS16_ := (hb.cell (World.block_lt_of_cell? _ _ (hHeld.2.2.2.2.2.2.2.2.2.2.2.2.2.2.2.2.1))).trans (hHeld.2.2.2.2.2.2.2.2.2.2.2.2.2.2.2.2.1)
         have HS17_ := (hb.cell (World.block_lt_of_cell? _ _ (hHeld.2.2.2.2.2.2.2.2.2.2.2.2.2.2.2.2.2.1))).trans (hHeld.2.2.2.2.2.2.2.2.2.2.2.2.2.2.2.2.2.1)
         have HS18_ := (hb.cell (World.block_lt_of_cell? _ _ (hHeld.2.2.2.2.2.2.2.2.2.2.2.2.2.2.2.2.2.2.1))).trans (hHeld.2.2.2.2.2.2.2.2.2.2.2.2.2.2.2.2.2.2.1)
         have HS19_ := (hb.cell (World.block_lt_of_cell? _ _ (hHeld.2.2.2.2.2.2.2.2.2.2.2.2.2.2.2.2.2.2.2.1))).trans (hHeld.2.2.2.2.2.2.2.2.2.2.2.2.2.2.2.2.2.2.2.1)
         have HS20_ := (hb.cell (World.block_lt_of_cell? _ _ (hHeld.2.2.2.2.2.2.2.2.2.2.2.2.2.2.2.2.2.2.2.2.1))).trans (hHeld.2.2.2.2.2.2.2.2.2.2.2.2.2.2.2.2.2.2.2.2.1)
         have HS21_ := (hb.cell (World.block_lt_of_cell? _ _ (hHeld.2.2.2.2.2.2.2.2.2.2.2.2.2.2.2.2.2.2.2.2.2.1))).trans (hHeld.2.2.2.2.2.2.2.2.2.2.2.2.2.2.2.2.2.2.2.2.2.1)
         have HS22_ := (hb.cell (World.block_lt_of_cell? _ _ (hHeld.2.2.2.2.2.2.2.2.2.2.2.2.2.2.2.2.2.2.2.2.2.2.1))).trans (hHeld.2.2.2.2.2.2.2.2.2.2.2.2.2.2.2.2.2.2.2.2.2.2.1)
         have HS23_ := (hb.cell (World.block_lt_of_cell? _ _ (hHeld.2.2.2.2.2.2.2.2.2.2.2.2.2.2.2.2.2.2.2.2.2.2.2.1))).trans (hHeld.2.2.2.2.2.2.2.2.2.2.2.2.2.2.2.2.2.2.2.2.2.2.2.1)
         have HS24_ := (hb.cell (World.block_lt_of_cell? _ _ (hHeld.2.2.2.2.2.2.2.2.2.2.2.2.2.2.2.2.2.2.2.2.2.2.2.2.1))).trans (hHeld.2.2.2.2.2.2.2.2.2.2.2.2.2.2.2.2.2.2.2.2.2.2.2.2.1)
         have HS25_ := (hb.cell (World.block_lt_of_cell? _ _ (hHeld.2.2.2.2.2.2.2.2.2.2.2.2.2.2.2.2.2.2.2.2.2.2.2.2.2.1))).trans (hHeld.2.2.2.2.2.2.2.2.2.2.2.2.2.2.2.2.2.2.2.2.2.2.2.2.2.1)
         have HS26_ := (hb.cell (World.block_lt_of_cell? _ _ (hHeld.2.2.2.2.2.2.2.2.2.2.2.2.2.2.2.2.2.2.2.2.2.2.2.2.2.2.1))).trans (hHeld.2.2.2.2.2.2.2.2.2.2.2.2.2.2.2.2.2.2.2.2.2.2.2.2.2.2.1)
         have HS27_ := (hb.cell (World.block_lt_of_cell? _ _ (hHeld.2.2.2.2.2.2.2.2.2.2.2.2.2.2.2.2.2.2.2.2.2.2.2.2.2.2.2.1))).trans (hHeld.2.2.2.2.2.2.2.2.2.2.2.2.2.2.2.2.2.2.2.2.2.2.2.2.2.2.2.1)
         have HS28_ := (hb.cell (World.block_lt_of_cell? _ _ (hHeld.2.2.2.2.2.2.2.2.2.2.2.2.2.2.2.2.2.2.2.2.2.2.2.2.2.2.2.2.1))).trans (hHeld.2.2.2.2.2.2.2.2.2.2.2.2.2.2.2.2.2.2.2.2.2.2.2.2.2.2.2.2.1)
         have HS29_ := (hb.cell (World.block_lt_of_cell? _ _ (hHeld.2.2.2.2.2.2.2.2.2.2.2.2.2.2.2.2.2.2.2.2.2.2.2.2.2.2.2.2.2))).trans (hHeld.2.2.2.2.2.2.2.2.2.2.2.2.2.2.2.2.2.2.2.2.2.2.2.2.2.2.2.2.2)
         refine ⟨_, rfl, ?_⟩
         have n0_ := Aside0.mk (Kd.R_below (by (with_reducible repeat (first | apply Kd.R_alloc | apply Kd.R_drewN | apply Kd.R_drew)); exact HO_20.out) hb)
         have n1_ := Aside0.mk (Zb (g := gb725) (o := .cells #[.string a0_0, .slice A0_1 l0_1.length c0_1] 24 (0, 0)) (by repeat (first | (with_reducible first | exact BK725.out | refine Zn ?_ _ | refine Zd ?_ | refine Za ?_ _))) hb)
         have n2_ := Aside0.mk (Zb (g := gb726) (o := .cells #[.string a1_0, .string a1_1, .int .i64 a1_2, .int .i64 a1_3, .int .i64 a1_4, .int .i64 a1_5, .bool a1_6] 26 (0, 0)) (by repeat (first | (with_reducible first | exact BK726.out | refine Zn ?_ _ | refine Zd ?_ | refine Za ?_ _))) hb)
         have n3_ := Aside0.mk (Zb (g := gb737) (o := .cells #[.string t729, .string t730, .int .i64 t731, .int .i64 t732, .int .i64 t733, .int .i64 t734, .bool t735] 26 (0, 0)) (by repeat (first | (with_reducible first | exact BK737.out | refine Zn ?_ _ | refine Zd ?_ | refine Za ?_ _))) hb)
         have n4_ := Aside0.mk (Zb (g := gb746) (o := .cells #[.string t738, .string t739, .int .i64 t740, .int .i64 t741, .int .i64 t742, .int .i64 t743, .bool t744] 26 (0, 0)) (by repeat (first | (with_reducible first | exact BK746.out | refine Zn ?_ _ | refine Zd ?_ | refine Za ?_ _))) hb)
         have n5_ := Aside0.mk (Zb (g := gb755) (o := .cells #[.string t747, .string t748, .int .i64 t749, .int .i64 t750, .int .i64 t751, .int .i64 t752, .bool t753] 26 (0, 0)) (by repeat (first | (with_reducible first | exact BK755.out | refine Zn ?_ _ | refine Zd ?_ | refine Za ?_ _))) hb)
         have n6_ := Aside0.mk (Yt (by repeat (first | (with_reducible first | exact HB.out | apply Ya | apply Yn | apply Yd | refine Ys ?_ GE725.out | refine Ys ?_ GE726.out | refine Ys ?_ GE737.out | refine Ys ?_ GE746.out | refine Ys ?_ GE755.out) | exact HB.out)) hb)
         clear HO_20
         clear BK725
         clear BK726
         clear BK737
         clear BK746
         clear BK755
         clear HB
         have HO_20 := n0_
         have BK725 := n1_
         have BK726 := n2_
         have BK737 := n3_
         have BK746 := n4_
         have BK755 := n5_
         have HB := n6_
         clear n0_ n1_ n2_ n3_ n4_ n5_ n6_
         (try clear hb)
         (try clear hb2)
         (try clear hk)
         (try clear hi)
         refine hK.out _ _ ⟨(Zc BK725.out 0).trans rfl, (Zc BK725.out 1).trans rfl, (Zc BK726.out 0).trans rfl, (Zc BK726.out 1).trans rfl, (Zc BK726.out 2).trans rfl, (Zc BK726.out 3).trans rfl, (Zc BK726.out 4).trans rfl, (Zc BK726.out 5).trans rfl, (Zc BK726.out 6).trans rfl, HS9_, HS10_, HS11_, HS12_, HS13_, HS14_, HS15_, HS16_, HS17_, HS18_, HS19_, HS20_, HS21_, HS22_, HS23_, HS24_, HS25_, HS26_, HS27_, HS28_, HS29_⟩ (fun hHeld => ?_)
         clear hK K
         refine norm_ (a' := ?_) ?_ ?_
         rotate_left
         ·
          show Act.put _ (some 67) _ = _
          simp only [Act.put, List.setIfInBounds_toArray, List.set_cons_zero, List.set_cons_succ, i64_w, i32_w]
          rfl
         refine pure_ (i := 6) (N := some 68) (v := ?_) (a' := ?_) #[true, true, true, true, true, true, true, false, false, false, false, false, false, false, false, false, false, false, false, false, false, false, false, false, false, false, false] rfl rfl (any_of HT_.out (by kernel_rfl)) (fun _ _ _ h => h) (Or.inl ⟨by rfl, ?_⟩) ?_ ?_
         rotate_left
         ·
          intro w'
          go_simp
          with_reducible rfl
         rotate_left
         ·
          simp only [Act.put, List.setIfInBounds_toArray, List.set_cons_zero, List.set_cons_succ, i64_w, i32_w]
          rfl
         refine pure_ (i := 7) (N := some 69) (v := ?_) (a' := ?_) #[true, true, true, true, true, true, true, true, false, false, false, false, false, false, false, false, false, false, false, false, false, false, false, false, false, false, false] rfl rfl (any_of HT_.out (by kernel_rfl)) (fun _ _ _ h => h) (Or.inl ⟨by rfl, ?_⟩) ?_ ?_
         rotate_left
         ·
          intro w'
          go_simp
          with_reducible rfl
         rotate_left
         ·
          simp only [Act.put, List.setIfInBounds_toArray, List.set_cons_zero, List.set_cons_succ, i64_w, i32_w]
          rfl
         refine pure_ (i := 8) (N := some 70) (v := ?_) (a' := ?_) #[true, true, true, true, true, true, true, true, true, false, false, false, false, false, false, false, false, false, false, false, false, false, false, false, false, false, false] rfl rfl (any_of HT_.out (by kernel_rfl)) (fun _ _ _ h => h) (Or.inl ⟨by rfl, ?_⟩) ?_ ?_
         rotate_left
         ·
          intro w'
          go_simp
          with_reducible rfl
         rotate_left
         ·
          simp only [Act.put, List.setIfInBounds_toArray, List.set_cons_zero, List.set_cons_succ, i64_w, i32_w]
          rfl
         refine pure_ (i := 9) (N := some 71) (v := ?_) (a' := ?_) #[true, true, true, true, true, true, true, true, true, true, false, false, false, false, false, false, false, false, false, false, false, false, false, false, false, false, false] rfl rfl (any_of HT_.out (by kernel_rfl)) (fun _ _ _ h => h) (Or.inl ⟨by rfl, ?_⟩) ?_ ?_
         rotate_left
         ·
          intro w'
          go_simp
          with_reducible rfl
         rotate_left
         ·
          simp only [Act.put, List.setIfInBounds_toArray, List.set_cons_zero, List.set_cons_succ, i64_w, i32_w]
          rfl
         refine pure_ (i := 10) (N := some 72) (v := ?_) (a' := ?_) #[true, true, true, true, true, true, true, true, true, true, true, false, false, false, false, false, false, false, false, false, false, false, false, false, false, false, false] rfl rfl (any_of HT_.out (by kernel_rfl)) (fun _ _ _ h => h) (Or.inl ⟨by rfl, ?_⟩) ?_ ?_
         rotate_left
         ·
          intro w'
          go_simp
          with_reducible rfl
         rotate_left
         ·
          simp only [Act.put, List.setIfInBounds_toArray, List.set_cons_zero, List.set_cons_succ, i64_w, i32_w]
          rfl
         refine pure_ (i := 11) (N := some 73) (v := ?_) (a' := ?_) #[true, true, true, true, true, true, true, true, true, true, true, true, false, false, false, false, false, false, false, false, false, false, false, false, false, false, false] rfl rfl (any_of HT_.out (by kernel_rfl)) (fun _ _ _ h => h) (Or.inl ⟨by rfl, ?_⟩) ?_ ?_
         rotate_left
         ·
          intro w'
          go_simp
          with_reducible rfl
         rotate_left
         ·
          simp only [Act.put, List.setIfInBounds_toArray, List.set_cons_zero, List.set_cons_succ, i64_w, i32_w]
          rfl
         refine pure_ (i := 13) (N := some 75) (v := ?_) (a' := ?_) #[true, true, true, true, true, true, true, true, true, true, true, true, false, true, false, false, false, false, false, false, false, false, false, false, false, false, false] rfl rfl (any_of HT_.out (by kernel_rfl)) (fun _ _ _ h => h) (Or.inl ⟨by rfl, ?_⟩) ?_ ?_
         rotate_left
         ·
          intro w'
          go_simp
          with_reducible rfl
         rotate_left
         ·
          simp only [Act.put, List.setIfInBounds_toArray, List.set_cons_zero, List.set_cons_succ, i64_w, i32_w]
          rfl
         refine take_ (i := 12) (N := some 74) (v := ?_) (a' := ?_) #[true, true, true, true, true, true, true, true, true, true, true, true, true, true, false, false, false, false, false, false, false, false, false, false, false, false, false] rfl rfl (take_ofW HT_.out HW_.out (by kernel_rfl)) (fun _ _ _ h => h) (Or.inl ⟨by rfl, ?_⟩) hHeld ?_ ?_
         rotate_left
         ·
          rintro w' ⟨s0, s1, s2, s3, s4, s5, s6, s7, s8, s9, s10, s11, s12, s13, s14, s15, s16, s17, s18, s19, s20, s21, s22, s23, s24, s25, s26, s27, s28, s29⟩
          go_simp
          with_reducible rfl
         rotate_left
         ·
          simp only [Act.put, List.setIfInBounds_toArray, List.set_cons_zero, List.set_cons_succ, i64_w, i32_w]
          rfl
         refine take_ (i := 14) (N := some 76) (v := ?_) (a' := ?_) #[true, true, true, true, true, true, true, true, true, true, true, true, true, true, true, false, false, false, false, false, false, false, false, false, false, false, false] rfl rfl (take_ofW HT_.out HW_.out (by kernel_rfl)) (fun _ _ _ h => h) (Or.inl ⟨by rfl, ?_⟩) hHeld ?_ ?_
         rotate_left
         ·
          rintro w' ⟨s0, s1, s2, s3, s4, s5, s6, s7, s8, s9, s10, s11, s12, s13, s14, s15, s16, s17, s18, s19, s20, s21, s22, s23, s24, s25, s26, s27, s28, s29⟩
          go_simp
          with_reducible rfl
         rotate_left
         ·
          simp only [Act.put, List.setIfInBounds_toArray, List.set_cons_zero, List.set_cons_succ, i64_w, i32_w]
          rfl
         refine pure_ (i := 15) (N := some 77) (v := ?_) (a' := ?_) #[true, true, true, true, true, true, true, true, true, true, true, true, true, true, true, true, false, false, false, false, false, false, false, false, false, false, false] rfl rfl (any_of HT_.out (by kernel_rfl)) (fun _ _ _ h => h) (Or.inl ⟨by rfl, ?_⟩) ?_ ?_
         rotate_left
         ·
          intro w'
          go_simp
          with_reducible rfl
         rotate_left
         ·
          simp only [Act.put, List.setIfInBounds_toArray, List.set_cons_zero, List.set_cons_succ, i64_w, i32_w]
          rfl
         refine pure_ (i := 16) (N := some 78) (v := ?_) (a' := ?_) #[true, true, true, true, true, true, true, true, true, true, true, true, true, true, true, true, true, false, false, false, false, false, false, false, false, false, false] rfl rfl (any_of HT_.out (by kernel_rfl)) (fun _ _ _ h => h) (Or.inl ⟨by rfl, ?_⟩) ?_ ?_
         rotate_left
         ·
          intro w'
          go_simp
          with_reducible rfl
         rotate_left
         ·
          simp only [Act.put, List.setIfInBounds_toArray, List.set_cons_zero, List.set_cons_succ, i64_w, i32_w]
          rfl
         refine pure_ (i := 17) (N := some 79) (v := ?_) (a' := ?_) #[true, true, true, true, true, true, true, true, true, true, true, true, true, true, true, true, true, true, false, false, false, false, false, false, false, false, false] rfl rfl (any_of HT_.out (by kernel_rfl)) (fun _ _ _ h => h) (Or.inl ⟨by rfl, ?_⟩) ?_ ?_
         rotate_left
         ·
          intro w'
          go_simp
          with_reducible rfl
         rotate_left
         ·
          simp only [Act.put, List.setIfInBounds_toArray, List.set_cons_zero, List.set_cons_succ, i64_w, i32_w]
          rfl
         refine pure_ (i := 18) (N := some 80) (v := ?_) (a' := ?_) #[true, true, true, true, true, true, true, true, true, true, true, true, true, true, true, true, true, true, true, false, false, false, false, false, false, false, false] rfl rfl (any_of HT_.out (by kernel_rfl)) (fun _ _ _ h => h) (Or.inl ⟨by rfl, ?_⟩) ?_ ?_
         rotate_left
         ·
          intro w'
          go_simp
          with_reducible rfl
         rotate_left
         ·
          simp only [Act.put, List.setIfInBounds_toArray, List.set_cons_zero, List.set_cons_succ, i64_w, i32_w]
          rfl
         refine pure_ (i := 19) (N := some 81) (v := ?_) (a' := ?_) #[true, true, true, true, true, true, true, true, true, true, true, true, true, true, true, true, true, true, true, true, false, false, false, false, false, false, false] rfl rfl (any_of HT_.out (by kernel_rfl)) (fun _ _ _ h => h) (Or.inl ⟨by rfl, ?_⟩) ?_ ?_
         rotate_left
         ·
          intro w'
          go_simp
          with_reducible rfl
         rotate_left
         ·
          simp only [Act.put, List.setIfInBounds_toArray, List.set_cons_zero, List.set_cons_succ, i64_w, i32_w]
          rfl
         refine pure_ (i := 20) (N := some 82) (v := ?_) (a' := ?_) #[true, true, true, true, true, true, true, true, true, true, true, true, true, true, true, true, true, true, true, true, true, false, false, false, false, false, false] rfl rfl (any_of HT_.out (by kernel_rfl)) (fun _ _ _ h => h) (Or.inl ⟨by rfl, ?_⟩) ?_ ?_
         rotate_left
         ·
          intro w'
          go_simp
          with_reducible rfl
         rotate_left
         ·
          simp only [Act.put, List.setIfInBounds_toArray, List.set_cons_zero, List.set_cons_succ, i64_w, i32_w]
          rfl
         refine pure_ (i := 21) (N := some 83) (v := ?_) (a' := ?_) #[true, true, true, true, true, true, true, true, true, true, true, true, true, true, true, true, true, true, true, true, true, true, false, false, false, false, false] rfl rfl (any_of HT_.out (by kernel_rfl)) (fun _ _ _ h => h) (Or.inl ⟨by rfl, ?_⟩) ?_ ?_
         rotate_left
         ·
          intro w'
          go_simp
          with_reducible rfl
         rotate_left
         ·
          simp only [Act.put, List.setIfInBounds_toArray, List.set_cons_zero, List.set_cons_succ, i64_w, i32_w]
          rfl
         refine pure_ (i := 23) (N := some 85) (v := ?_) (a' := ?_) #[true, true, true, true, true, true, true, true, true, true, true, true, true, true, true, true, true, true, true, true, true, true, false, true, false, false, false] rfl rfl (any_of HT_.out (by kernel_rfl)) (fun _ _ _ h => h) (Or.inl ⟨by rfl, ?_⟩) ?_ ?_
         rotate_left
         ·
          intro w'
          go_simp
          with_reducible rfl
         rotate_left
         ·
          simp only [Act.put, List.setIfInBounds_toArray, List.set_cons_zero, List.set_cons_succ, i64_w, i32_w]
          rfl
         refine take_ (i := 22) (N := some 84) (v := ?_) (a' := ?_) #[true, true, true, true, true, true, true, true, true, true, true, true, true, true, true, true, true, true, true, true, true, true, true, true, false, false, false] rfl rfl (take_ofW HT_.out HW_.out (by kernel_rfl)) (fun _ _ _ h => h) (Or.inl ⟨by rfl, ?_⟩) hHeld ?_ ?_
         rotate_left
         ·
          rintro w' ⟨s0, s1, s2, s3, s4, s5, s6, s7, s8, s9, s10, s11, s12, s13, s14, s15, s16, s17, s18, s19, s20, s21, s22, s23, s24, s25, s26, s27, s28, s29⟩
          go_simp
          with_reducible rfl
         rotate_left
         ·
          simp only [Act.put, List.setIfInBounds_toArray, List.set_cons_zero, List.set_cons_succ, i64_w, i32_w]
          rfl
         refine take_ (i := 24) (N := some 86) (v := ?_) (a' := ?_) #[true, true, true, true, true, true, true, true, true, true, true, true, true, true, true, true, true, true, true, true, true, true, true, true, true, false, false] rfl rfl (take_ofW HT_.out HW_.out (by kernel_rfl)) (fun _ _ _ h => h) (Or.inl ⟨by rfl, ?_⟩) hHeld ?_ ?_
         rotate_left
         ·
          rintro w' ⟨s0, s1, s2, s3, s4, s5, s6, s7, s8, s9, s10, s11, s12, s13, s14, s15, s16, s17, s18, s19, s20, s21, s22, s23, s24, s25, s26, s27, s28, s29⟩
          go_simp
          with_reducible rfl
         rotate_left
         ·
          simp only [Act.put, List.setIfInBounds_toArray, List.set_cons_zero, List.set_cons_succ, i64_w, i32_w]
          rfl
         refine pure_ (i := 25) (N := some 87) (v := ?_) (a' := ?_) #[true, true, true, true, true, true, true, true, true, true, true, true, true, true, true, true, true, true, true, true, true, true, true, true, true, true, false] rfl rfl (any_of HT_.out (by kernel_rfl)) (fun _ _ _ h => h) (Or.inl ⟨by rfl, ?_⟩) ?_ ?_
         rotate_left
         ·
          intro w'
          go_simp
          with_reducible rfl
         rotate_left
         ·
          simp only [Act.put, List.setIfInBounds_toArray, List.set_cons_zero, List.set_cons_succ, i64_w, i32_w]
          rfl
         refine pure_ (i := 26) (N := some 88) (v := ?_) (a' := ?_) #[true, true, true, true, true, true, true, true, true, true, true, true, true, true, true, true, true, true, true, true, true, true, true, true, true, true, true] rfl rfl (any_of HT_.out (by kernel_rfl)) (fun _ _ _ h => h) (Or.inl ⟨by rfl, ?_⟩) ?_ ?_
         rotate_left
         ·
          intro w'
          go_simp
          with_reducible rfl
         rotate_left
         ·
          simp only [Act.put, List.setIfInBounds_toArray, List.set_cons_zero, List.set_cons_succ, i64_w, i32_w]
          rfl
         refine done_ (done_of HT_.out (by kernel_rfl)) ?_
         try go_wp2
         go_roundg k1
         case measure => have := HK1.out; omega
         case rel => exact ⟨(wrap64 (x21_1 + 1)), (by first | rfl | (simp; done) | (simp [*]; done)), H', ⟨by have := HK1.out; omega⟩, ⟨by (with_reducible repeat (first | apply Kd.R_alloc | apply Kd.R_drewN | apply Kd.R_drew)); exact HO_20.out⟩, ⟨by (with_reducible repeat (first | refine Zn ?_ _ | refine Zd ?_ | refine Za ?_ _)); exact BK725.out⟩, ⟨by (with_reducible repeat (first | refine Zn ?_ _ | refine Zd ?_ | refine Za ?_ _)); exact BK726.out⟩, ⟨by (with_reducible repeat (first | refine Zn ?_ _ | refine Zd ?_ | refine Za ?_ _)); exact BK737.out⟩, ⟨by (with_reducible repeat (first | refine Zn ?_ _ | refine Zd ?_ | refine Za ?_ _)); exact BK746.out⟩, ⟨by (with_reducible repeat (first | refine Zn ?_ _ | refine Zd ?_ | refine Za ?_ _)); exact BK755.out⟩, ⟨by repeat (first | (with_reducible first | exact HB.out | apply Ya | apply Yn | apply Yd | refine Ys ?_ GE725.out | refine Ys ?_ GE726.out | refine Ys ?_ GE737.out | refine Ys ?_ GE746.out | refine Ys ?_ GE755.out) | exact HB.out)⟩⟩
        ·
         rw [if_neg c52] at H
         have c52b0 : (((rd_T26 y756 x21_1).f1).toList == a1_1.toList) = false := beq_eq_false_iff_ne.mpr c52
         have c52b1 : (((rd_T26 y756 x21_1).f1).toList != a1_1.toList) = true := bne_iff_ne.mpr c52
         exact absurd ((Option.some.inj H).trans HRT_.out) (by decide)
       ·
        rw [if_neg c51] at H
        have c51b0 : (((rd_T26 y756 x21_1).f0).toList == a1_0.toList) = false := beq_eq_false_iff_ne.mpr c51
        have c51b1 : (((rd_T26 y756 x21_1).f0).toList != a1_0.toList) = true := bne_iff_ne.mpr c51
        exact absurd ((Option.some.inj H).trans HRT_.out) (by decide)
      ·
       replace c50 := Bool.eq_false_iff.mpr c50
       subst c50
       have H1 : (some false) = some r := by rw [if_neg (show ¬ (false = true) by decide)] at H; exact H
       clear H
       have H := H1
       clear H1
       exact absurd ((Option.some.inj H).trans HRT_.out) (by decide)
     ·
      rw [if_neg c48] at H
      exact absurd H (by simp)
    ·
     rw [if_neg c47] at H
     have c47b0 : decide (x21_1 < (y756.length : Int)) = false := decide_eq_false c47
     clear c47
     by_cases c56 : t727 = true
     ·
      subst c56
      have H1 : (if t736 = true then (if t745 = true then (if t754 = true then ((saga_Live.f a1_0 a1_1 a1_2 a1_3 a1_4 a1_5 a1_6).bind fun t763 => (if t763 = true then (some true) else (some false))) else (if (t747.toList == a1_0.toList && (t748.toList == a1_1.toList && (t749 == a1_2 && (t750 == a1_3 && (t751 == a1_4 && (t752 == a1_5 && (t753 == a1_6))))))) = true then ((saga_Live.f a1_0 a1_1 a1_2 a1_3 a1_4 a1_5 a1_6).bind fun t764 => (if t764 = true then (some true) else (some false))) else (some false))) else (if (t738.toList == a1_0.toList && (t739.toList == a1_1.toList && (t740 == a1_2 && (t741 == a1_3 && (t742 == a1_4 && (t743 == a1_5 && (t744 == a1_6))))))) = true then (if t754 = true then ((saga_Live.f a1_0 a1_1 a1_2 a1_3 a1_4 a1_5 a1_6).bind fun t765 => (if t765 = true then (some true) else (some false))) else (if (t747.toList == a1_0.toList && (t748.toList == a1_1.toList && (t749 == a1_2 && (t750 == a1_3 && (t751 == a1_4 && (t752 == a1_5 && (t753 == a1_6))))))) = true then ((saga_Live.f a1_0 a1_1 a1_2 a1_3 a1_4 a1_5 a1_6).bind fun t766 => (if t766 = true then (some true) else (some false))) else (some false))) else (some false))) else (if (t729.toList == a1_0.toList && (t730.toList == a1_1.toList && (t731 == a1_2 && (t732 == a1_3 && (t733 == a1_4 && (t734 == a1_5 && (t735 == a1_6))))))) = true then (if t745 = true then (if t754 = true then ((saga_Live.f a1_0 a1_1 a1_2 a1_3 a1_4 a1_5 a1_6).bind fun t767 => (if t767 = true then (some true) else (some false))) else (if (t747.toList == a1_0.toList && (t748.toList == a1_1.toList && (t749 == a1_2 && (t750 == a1_3 && (t751 == a1_4 && (t752 == a1_5 && (t753 == a1_6))))))) = true then ((saga_Live.f a1_0 a1_1 a1_2 a1_3 a1_4 a1_5 a1_6).bind fun t768 => (if t768 = true then (some true) else (some false))) else (some false))) else (if (t738.toList == a1_0.toList && (t739.toList == a1_1.toList && (t740 == a1_2 && (t741 == a1_3 && (t742 == a1_4 && (t743 == a1_5 && (t744 == a1_6))))))) = true then (if t754 = true then ((saga_Live.f a1_0 a1_1 a1_2 a1_3 a1_4 a1_5 a1_6).bind fun t769 => (if t769 = true then (some true) else (some (!t754)))) else (if (t747.toList == a1_0.toList && (t748.toList == a1_1.toList && (t749 == a1_2 && (t750 == a1_3 && (t751 == a1_4 && (t752 == a1_5 && (t753 == a1_6))))))) = true then ((saga_Live.f a1_0 a1_1 a1_2 a1_3 a1_4 a1_5 a1_6).bind fun t770 => (if t770 = true then (some true) else (some (!t754)))) else (some false))) else (some false))) else (some false))) = some r := by rw [if_pos rfl] at H; exact H
      clear H
      have H := H1
      clear H1
      by_cases c57 : t736 = true
      ·
       subst c57
       have H1 : (if t745 = true then (if t754 = true then ((saga_Live.f a1_0 a1_1 a1_2 a1_3 a1_4 a1_5 a1_6).bind fun t763 => (if t763 = true then (some true) else (some false))) else (if (t747.toList == a1_0.toList && (t748.toList == a1_1.toList && (t749 == a1_2 && (t750 == a1_3 && (t751 == a1_4 && (t752 == a1_5 && (t753 == a1_6))))))) = true then ((saga_Live.f a1_0 a1_1 a1_2 a1_3 a1_4 a1_5 a1_6).bind fun t764 => (if t764 = true then (some true) else (some false))) else (some false))) else (if (t738.toList == a1_0.toList && (t739.toList == a1_1.toList && (t740 == a1_2 && (t741 == a1_3 && (t742 == a1_4 && (t743 == a1_5 && (t744 == a1_6))))))) = true then (if t754 = true then ((saga_Live.f a1_0 a1_1 a1_2 a1_3 a1_4 a1_5 a1_6).bind fun t765 => (if t765 = true then (some true) else (some false))) else (if (t747.toList == a1_0.toList && (t748.toList == a1_1.toList && (t749 == a1_2 && (t750 == a1_3 && (t751 == a1_4 && (t752 == a1_5 && (t753 == a1_6))))))) = true then ((saga_Live.f a1_0 a1_1 a1_2 a1_3 a1_4 a1_5 a1_6).bind fun t766 => (if t766 = true then (some true) else (some false))) else (some false))) else (some false))) = some r := by rw [if_pos rfl] at H; exact H
       clear H
       have H := H1
       clear H1
       by_cases c58 : t745 = true
       ·
        subst c58
        have H1 : (if t754 = true then ((saga_Live.f a1_0 a1_1 a1_2 a1_3 a1_4 a1_5 a1_6).bind fun t763 => (if t763 = true then (some true) else (some false))) else (if (t747.toList == a1_0.toList && (t748.toList == a1_1.toList && (t749 == a1_2 && (t750 == a1_3 && (t751 == a1_4 && (t752 == a1_5 && (t753 == a1_6))))))) = true then ((saga_Live.f a1_0 a1_1 a1_2 a1_3 a1_4 a1_5 a1_6).bind fun t764 => (if t764 = true then (some true) else (some false))) else (some false))) = some r := by rw [if_pos rfl] at H; exact H
        clear H
        have H := H1
        clear H1
        by_cases c59 : t754 = true
        ·
         subst c59
         have H1 : ((saga_Live.f a1_0 a1_1 a1_2 a1_3 a1_4 a1_5 a1_6).bind fun t763 => (if t763 = true then (some true) else (some false))) = some r := by rw [if_pos rfl] at H; exact H
         clear H
         have H := H1
         clear H1
         replace H := Option.bind_eq_some_iff.mp H
         obtain ⟨t763, A600, H⟩ := H
         replace H : (if t763 = true then (some true) else (some false)) = some r := H
         have A60 := Aside0.mk A600
         clear A600
         by_cases c61 : t763 = true
         ·
          subst c61
          have H1 : (some true) = some r := by rw [if_pos rfl] at H; exact H
          clear H
          have H := H1
          clear H1
          obtain rfl := Option.some.inj H
          obtain ⟨Ao62, co62, eo62⟩ := Kd.R_slice HO_20.out
          subst eo62
          have hnb63 := NB726_725.out
          have hnc63 := NB725_726.out
          have hnb64 := NB726_737.out
          have hnc64 := NB737_726.out
          have hnb65 := NB726_746.out
          have hnc65 := NB746_726.out
          have hnb66 := NB726_755.out
          have hnc66 := NB755_726.out
          have hcz67_0 : wr.cell? ⟨gb726, 0, none⟩ = some (.string a1_0) := (Zc BK726.out 0).trans rfl
          have hcz67_1 : wr.cell? ⟨gb726, 1, none⟩ = some (.string a1_1) := (Zc BK726.out 1).trans rfl
          have hcz67_2 : wr.cell? ⟨gb726, 2, none⟩ = some (.int .i64 a1_2) := (Zc BK726.out 2).trans rfl
          have hcz67_3 : wr.cell? ⟨gb726, 3, none⟩ = some (.int .i64 a1_3) := (Zc BK726.out 3).trans rfl
          have hcz67_4 : wr.cell? ⟨gb726, 4, none⟩ = some (.int .i64 a1_4) := (Zc BK726.out 4).trans rfl
          have hcz67_5 : wr.cell? ⟨gb726, 5, none⟩ = some (.int .i64 a1_5) := (Zc BK726.out 5).trans rfl
          have hcz67_6 : wr.cell? ⟨gb726, 6, none⟩ = some (.bool a1_6) := (Zc BK726.out 6).trans rfl
          have hfz67_0 := Zf BK726.out 0
          have hfz67_1 := Zf BK726.out 1
          have hfz67_2 := Zf BK726.out 2
          have hfz67_3 := Zf BK726.out 3
          have hfz67_4 := Zf BK726.out 4
          have hfz67_5 := Zf BK726.out 5
          have hfz67_6 := Zf BK726.out 6
          go_wp2_with (first | (go_at_call 20; (with_reducible refine (saga_Live.calls a1_0 a1_1 a1_2 a1_3 a1_4 a1_5 a1_6 true _ A60.out).mono ?_); rintro e w68 ⟨rfl, hb⟩; have n0_ := Aside0.mk (Kd.R_below (by (with_reducible repeat (first | apply Kd.R_alloc | apply Kd.R_drewN | apply Kd.R_drew)); exact HO_20.out) hb); have n1_ := Aside0.mk (Zb (g := gb725) (o := .cells #[.string a0_0, .slice A0_1 l0_1.length c0_1] 24 (0, 0)) (by repeat (first | (with_reducible first | exact BK725.out | refine Zn ?_ _ | refine Zd ?_ | refine Za ?_ _))) hb); have n2_ := Aside0.mk (Zb (g := gb726) (o := .cells #[.string a1_0, .string a1_1, .int .i64 a1_2, .int .i64 a1_3, .int .i64 a1_4, .int .i64 a1_5, .bool a1_6] 26 (0, 0)) (by repeat (first | (with_reducible first | exact BK726.out | refine Zn ?_ _ | refine Zd ?_ | refine Za ?_ _))) hb); have n3_ := Aside0.mk (Zb (g := gb737) (o := .cells #[.string t729, .string t730, .int .i64 t731, .int .i64 t732, .int .i64 t733, .int .i64 t734, .bool t735] 26 (0, 0)) (by repeat (first | (with_reducible first | exact BK737.out | refine Zn ?_ _ | refine Zd ?_ | refine Za ?_ _))) hb); have n4_ := Aside0.mk (Zb (g := gb746) (o := .cells #[.string t738, .string t739, .int .i64 t740, .int .i64 t741, .int .i64 t742, .int .i64 t743, .bool t744] 26 (0, 0)) (by repeat (first | (with_reducible first | exact BK746.out | refine Zn ?_ _ | refine Zd ?_ | refine Za ?_ _))) hb); have n5_ := Aside0.mk (Zb (g := gb755) (o := .cells #[.string t747, .string t748, .int .i64 t749, .int .i64 t750, .int .i64 t751, .int .i64 t752, .bool t753] 26 (0, 0)) (by repeat (first | (with_reducible first | exact BK755.out | refine Zn ?_ _ | refine Zd ?_ | refine Za ?_ _))) hb); have n6_ := Aside0.mk (Yt (by repeat (first | (with_reducible first | exact HB.out | apply Ya | apply Yn | apply Yd | refine Ys ?_ GE725.out | refine Ys ?_ GE726.out | refine Ys ?_ GE737.out | refine Ys ?_ GE746.out | refine Ys ?_ GE755.out) | exact HB.out)) hb); clear HO_20; clear BK725; clear BK726; clear BK737; clear BK746; clear BK755; clear HB; have HO_20 := n0_; have BK725 := n1_; have BK726 := n2_; have BK737 := n3_; have BK746 := n4_; have BK755 := n5_; have HB := n6_; clear n0_ n1_ n2_ n3_ n4_ n5_ n6_; (try clear hb); (try clear hb2); (try clear hk); (try clear hi)))
          go_ret
          exact ⟨by first | rfl | (simp [errW_none, errW_some] <;> rfl) | (simp [*, errW_none, errW_some] <;> rfl), by repeat (first | (with_reducible first | exact HB.out | apply Ya | apply Yn | apply Yd | refine Ys ?_ GE725.out | refine Ys ?_ GE726.out | refine Ys ?_ GE737.out | refine Ys ?_ GE746.out | refine Ys ?_ GE755.out) | exact HB.out)⟩
         ·
          replace c61 := Bool.eq_false_iff.mpr c61
          subst c61
          have H1 : (some false) = some r := by rw [if_neg (show ¬ (false = true) by decide)] at H; exact H
          clear H
          have H := H1
          clear H1
          exact absurd ((Option.some.inj H).trans HRT_.out) (by decide)
        ·
         replace c59 := Bool.eq_false_iff.mpr c59
         subst c59
         have H1 : (if (t747.toList == a1_0.toList && (t748.toList == a1_1.toList && (t749 == a1_2 && (t750 == a1_3 && (t751 == a1_4 && (t752 == a1_5 && (t753 == a1_6))))))) = true then ((saga_Live.f a1_0 a1_1 a1_2 a1_3 a1_4 a1_5 a1_6).bind fun t764 => (if t764 = true then (some true) else (some false))) else (some false)) = some r := by rw [if_neg (show ¬ (false = true) by decide)] at H; exact H
         clear H
         have H := H1
         clear H1
         by_cases c69 : (t747.toList == a1_0.toList && (t748.toList == a1_1.toList && (t749 == a1_2 && (t750 == a1_3 && (t751 == a1_4 && (t752 == a1_5 && (t753 == a1_6))))))) = true
         ·
          rw [if_pos c69] at H
          have c69b0 : (t747.toList == a1_0.toList && (t748.toList == a1_1.toList && (t749 == a1_2 && (t750 == a1_3 && (t751 == a1_4 && (t752 == a1_5 && (t753 == a1_6))))))) = true := c69
          (try (have c69b1 : decide (t747.toList = a1_0.toList && (t748.toList == a1_1.toList && (t749 == a1_2 && (t750 == a1_3 && (t751 == a1_4 && (t752 == a1_5 && (t753 == a1_6))))))) = true := by simpa using c69))
          (try (have c69b2 : (t747.toList == a1_0.toList && (t748.toList == a1_1.toList && (t749 == a1_2 && (t750 == a1_3 && (t751 == a1_4 && (t752 == a1_5 && (t753 == a1_6))))))) = true := by simpa using c69))
          clear c69
          replace H := Option.bind_eq_some_iff.mp H
          obtain ⟨t764, A700, H⟩ := H
          replace H : (if t764 = true then (some true) else (some false)) = some r := H
          have A70 := Aside0.mk A700
          clear A700
          by_cases c71 : t764 = true
          ·
           subst c71
           have H1 : (some true) = some r := by rw [if_pos rfl] at H; exact H
           clear H
           have H := H1
           clear H1
           obtain rfl := Option.some.inj H
           obtain ⟨Ao72, co72, eo72⟩ := Kd.R_slice HO_20.out
           subst eo72
           have hnb73 := NB755_725.out
           have hnc73 := NB725_755.out
           have hnb74 := NB755_726.out
           have hnc74 := NB726_755.out
           have hnb75 := NB755_737.out
           have hnc75 := NB737_755.out
           have hnb76 := NB755_746.out
           have hnc76 := NB746_755.out
           have hcz77_0 : wr.cell? ⟨gb755, 0, none⟩ = some (.string t747) := (Zc BK755.out 0).trans rfl
           have hcz77_1 : wr.cell? ⟨gb755, 1, none⟩ = some (.string t748) := (Zc BK755.out 1).trans rfl
           have hcz77_2 : wr.cell? ⟨gb755, 2, none⟩ = some (.int .i64 t749) := (Zc BK755.out 2).trans rfl
           have hcz77_3 : wr.cell? ⟨gb755, 3, none⟩ = some (.int .i64 t750) := (Zc BK755.out 3).trans rfl
           have hcz77_4 : wr.cell? ⟨gb755, 4, none⟩ = some (.int .i64 t751) := (Zc BK755.out 4).trans rfl
           have hcz77_5 : wr.cell? ⟨gb755, 5, none⟩ = some (.int .i64 t752) := (Zc BK755.out 5).trans rfl
           have hcz77_6 : wr.cell? ⟨gb755, 6, none⟩ = some (.bool t753) := (Zc BK755.out 6).trans rfl
           have hfz77_0 := Zf BK755.out 0
           have hfz77_1 := Zf BK755.out 1
           have hfz77_2 := Zf BK755.out 2
           have hfz77_3 := Zf BK755.out 3
           have hfz77_4 := Zf BK755.out 4
           have hfz77_5 := Zf BK755.out 5
           have hfz77_6 := Zf BK755.out 6
           have hnb78 := NB726_725.out
           have hnc78 := NB725_726.out
           have hnb79 := NB726_737.out
           have hnc79 := NB737_726.out
           have hnb80 := NB726_746.out
           have hnc80 := NB746_726.out
           have hcz81_0 : wr.cell? ⟨gb726, 0, none⟩ = some (.string a1_0) := (Zc BK726.out 0).trans rfl
           have hcz81_1 : wr.cell? ⟨gb726, 1, none⟩ = some (.string a1_1) := (Zc BK726.out 1).trans rfl
           have hcz81_2 : wr.cell? ⟨gb726, 2, none⟩ = some (.int .i64 a1_2) := (Zc BK726.out 2).trans rfl
           have hcz81_3 : wr.cell? ⟨gb726, 3, none⟩ = some (.int .i64 a1_3) := (Zc BK726.out 3).trans rfl
           have hcz81_4 : wr.cell? ⟨gb726, 4, none⟩ = some (.int .i64 a1_4) := (Zc BK726.out 4).trans rfl
           have hcz81_5 : wr.cell? ⟨gb726, 5, none⟩ = some (.int .i64 a1_5) := (Zc BK726.out 5).trans rfl
           have hcz81_6 : wr.cell? ⟨gb726, 6, none⟩ = some (.bool a1_6) := (Zc BK726.out 6).trans rfl
           have hfz81_0 := Zf BK726.out 0
           have hfz81_1 := Zf BK726.out 1
           have hfz81_2 := Zf BK726.out 2
           have hfz81_3 := Zf BK726.out 3
           have hfz81_4 := Zf BK726.out 4
           have hfz81_5 := Zf BK726.out 5
           have hfz81_6 := Zf BK726.out 6
           go_wp2_with (first | (go_at_call 20; (with_reducible refine (saga_Live.calls a1_0 a1_1 a1_2 a1_3 a1_4 a1_5 a1_6 true _ A70.out).mono ?_); rintro e w82 ⟨rfl, hb⟩; have n0_ := Aside0.mk (Kd.R_below (by (with_reducible repeat (first | apply Kd.R_alloc | apply Kd.R_drewN | apply Kd.R_drew)); exact HO_20.out) hb); have n1_ := Aside0.mk (Zb (g := gb725) (o := .cells #[.string a0_0, .slice A0_1 l0_1.length c0_1] 24 (0, 0)) (by repeat (first | (with_reducible first | exact BK725.out | refine Zn ?_ _ | refine Zd ?_ | refine Za ?_ _))) hb); have n2_ := Aside0.mk (Zb (g := gb726) (o := .cells #[.string a1_0, .string a1_1, .int .i64 a1_2, .int .i64 a1_3, .int .i64 a1_4, .int .i64 a1_5, .bool a1_6] 26 (0, 0)) (by repeat (first | (with_reducible first | exact BK726.out | refine Zn ?_ _ | refine Zd ?_ | refine Za ?_ _))) hb); have n3_ := Aside0.mk (Zb (g := gb737) (o := .cells #[.string t729, .string t730, .int .i64 t731, .int .i64 t732, .int .i64 t733, .int .i64 t734, .bool t735] 26 (0, 0)) (by repeat (first | (with_reducible first | exact BK737.out | refine Zn ?_ _ | refine Zd ?_ | refine Za ?_ _))) hb); have n4_ := Aside0.mk (Zb (g := gb746) (o := .cells #[.string t738, .string t739, .int .i64 t740, .int .i64 t741, .int .i64 t742, .int .i64 t743, .bool t744] 26 (0, 0)) (by repeat (first | (with_reducible first | exact BK746.out | refine Zn ?_ _ | refine Zd ?_ | refine Za ?_ _))) hb); have n5_ := Aside0.mk (Zb (g := gb755) (o := .cells #[.string t747, .string t748, .int .i64 t749, .int .i64 t750, .int .i64 t751, .int .i64 t752, .bool t753] 26 (0, 0)) (by repeat (first | (with_reducible first | exact BK755.out | refine Zn ?_ _ | refine Zd ?_ | refine Za ?_ _))) hb); have n6_ := Aside0.mk (Yt (by repeat (first | (with_reducible first | exact HB.out | apply Ya | apply Yn | apply Yd | refine Ys ?_ GE725.out | refine Ys ?_ GE726.out | refine Ys ?_ GE737.out | refine Ys ?_ GE746.out | refine Ys ?_ GE755.out) | exact HB.out)) hb); clear HO_20; clear BK725; clear BK726; clear BK737; clear BK746; clear BK755; clear HB; have HO_20 := n0_; have BK725 := n1_; have BK726 := n2_; have BK737 := n3_; have BK746 := n4_; have BK755 := n5_; have HB := n6_; clear n0_ n1_ n2_ n3_ n4_ n5_ n6_; (try clear hb); (try clear hb2); (try clear hk); (try clear hi)))
           go_ret
           exact ⟨by first | rfl | (simp [errW_none, errW_some] <;> rfl) | (simp [*, errW_none, errW_some] <;> rfl), by repeat (first | (with_reducible first | exact HB.out | apply Ya | apply Yn | apply Yd | refine Ys ?_ GE725.out | refine Ys ?_ GE726.out | refine Ys ?_ GE737.out | refine Ys ?_ GE746.out | refine Ys ?_ GE755.out) | exact HB.out)⟩
          ·
           replace c71 := Bool.eq_false_iff.mpr c71
           subst c71
           have H1 : (some false) = some r := by rw [if_neg (show ¬ (false = true) by decide)] at H; exact H
           clear H
           have H := H1
           clear H1
           exact absurd ((Option.some.inj H).trans HRT_.out) (by decide)
         ·
          rw [if_neg c69] at H
          have c69b0 : (t747.toList == a1_0.toList && (t748.toList == a1_1.toList && (t749 == a1_2 && (t750 == a1_3 && (t751 == a1_4 && (t752 == a1_5 && (t753 == a1_6))))))) = false := by simpa using c69
          (try (have c69b1 : decide (t747.toList = a1_0.toList && (t748.toList == a1_1.toList && (t749 == a1_2 && (t750 == a1_3 && (t751 == a1_4 && (t752 == a1_5 && (t753 == a1_6))))))) = false := by simpa using c69))
          (try (have c69b2 : (t747.toList == a1_0.toList && (t748.toList == a1_1.toList && (t749 == a1_2 && (t750 == a1_3 && (t751 == a1_4 && (t752 == a1_5 && (t753 == a1_6))))))) = false := by simpa using c69))
          (try (have c69b3 : ¬ (t747.toList = a1_0.toList && (t748.toList == a1_1.toList && (t749 == a1_2 && (t750 == a1_3 && (t751 == a1_4 && (t752 == a1_5 && (t753 == a1_6))))))) := by simpa using c69))
          clear c69
          exact absurd ((Option.some.inj H).trans HRT_.out) (by decide)
       ·
        replace c58 := Bool.eq_false_iff.mpr c58
        subst c58
        have H1 : (if (t738.toList == a1_0.toList && (t739.toList == a1_1.toList && (t740 == a1_2 && (t741 == a1_3 && (t742 == a1_4 && (t743 == a1_5 && (t744 == a1_6))))))) = true then (if t754 = true then ((saga_Live.f a1_0 a1_1 a1_2 a1_3 a1_4 a1_5 a1_6).bind fun t765 => (if t765 = true then (some true) else (some false))) else (if (t747.toList == a1_0.toList && (t748.toList == a1_1.toList && (t749 == a1_2 && (t750 == a1_3 && (t751 == a1_4 && (t752 == a1_5 && (t753 == a1_6))))))) = true then ((saga_Live.f a1_0 a1_1 a1_2 a1_3 a1_4 a1_5 a1_6).bind fun t766 => (if t766 = true then (some true) else (some false))) else (some false))) else (some false)) = some r := by rw [if_neg (show ¬ (false = true) by decide)] at H; exact H
        clear H
        have H := H1
        clear H1
        by_cases c83 : (t738.toList == a1_0.toList && (t739.toList == a1_1.toList && (t740 == a1_2 && (t741 == a1_3 && (t742 == a1_4 && (t743 == a1_5 && (t744 == a1_6))))))) = true
        ·
         rw [if_pos c83] at H
         have c83b0 : (t738.toList == a1_0.toList && (t739.toList == a1_1.toList && (t740 == a1_2 && (t741 == a1_3 && (t742 == a1_4 && (t743 == a1_5 && (t744 == a1_6))))))) = true := c83
         (try (have c83b1 : decide (t738.toList = a1_0.toList && (t739.toList == a1_1.toList && (t740 == a1_2 && (t741 == a1_3 && (t742 == a1_4 && (t743 == a1_5 && (t744 == a1_6))))))) = true := by simpa using c83))
         (try (have c83b2 : (t738.toList == a1_0.toList && (t739.toList == a1_1.toList && (t740 == a1_2 && (t741 == a1_3 && (t742 == a1_4 && (t743 == a1_5 && (t744 == a1_6))))))) = true := by simpa using c83))
         clear c83
         by_cases c84 : t754 = true
         ·
          subst c84
          have H1 : ((saga_Live.f a1_0 a1_1 a1_2 a1_3 a1_4 a1_5 a1_6).bind fun t765 => (if t765 = true then (some true) else (some false))) = some r := by rw [if_pos rfl] at H; exact H
          clear H
          have H := H1
          clear H1
          replace H := Option.bind_eq_some_iff.mp H
          obtain ⟨t765, A850, H⟩ := H
          replace H : (if t765 = true then (some true) else (some false)) = some r := H
          have A85 := Aside0.mk A850
          clear A850
          by_cases c86 : t765 = true
          ·
           subst c86
           have H1 : (some true) = some r := by rw [if_pos rfl] at H; exact H
           clear H
           have H := H1
           clear H1
           obtain rfl := Option.some.inj H
           obtain ⟨Ao87, co87, eo87⟩ := Kd.R_slice HO_20.out
           subst eo87
           have hnb88 := NB746_725.out
           have hnc88 := NB725_746.out
           have hnb89 := NB746_726.out
           have hnc89 := NB726_746.out
           have hnb90 := NB746_737.out
           have hnc90 := NB737_746.out
           have hnb91 := NB746_755.out
           have hnc91 := NB755_746.out
           have hcz92_0 : wr.cell? ⟨gb746, 0, none⟩ = some (.string t738) := (Zc BK746.out 0).trans rfl
           have hcz92_1 : wr.cell? ⟨gb746, 1, none⟩ = some (.string t739) := (Zc BK746.out 1).trans rfl
           have hcz92_2 : wr.cell? ⟨gb746, 2, none⟩ = some (.int .i64 t740) := (Zc BK746.out 2).trans rfl
           have hcz92_3 : wr.cell? ⟨gb746, 3, none⟩ = some (.int .i64 t741) := (Zc BK746.out 3).trans rfl
           have hcz92_4 : wr.cell? ⟨gb746, 4, none⟩ = some (.int .i64 t742) := (Zc BK746.out 4).trans rfl
           have hcz92_5 : wr.cell? ⟨gb746, 5, none⟩ = some (.int .i64 t743) := (Zc BK746.out 5).trans rfl
           have hcz92_6 : wr.cell? ⟨gb746, 6, none⟩ = some (.bool t744) := (Zc BK746.out 6).trans rfl
           have hfz92_0 := Zf BK746.out 0
           have hfz92_1 := Zf BK746.out 1
           have hfz92_2 := Zf BK746.out 2
           have hfz92_3 := Zf BK746.out 3
           have hfz92_4 := Zf BK746.out 4
           have hfz92_5 := Zf BK746.out 5
           have hfz92_6 := Zf BK746.out 6
           have hnb93 := NB726_725.out
           have hnc93 := NB725_726.out
           have hnb94 := NB726_737.out
           have hnc94 := NB737_726.out
           have hnb95 := NB726_755.out
           have hnc95 := NB755_726.out
           have hcz96_0 : wr.cell? ⟨gb726, 0, none⟩ = some (.string a1_0) := (Zc BK726.out 0).trans rfl
           have hcz96_1 : wr.cell? ⟨gb726, 1, none⟩ = some (.string a1_1) := (Zc BK726.out 1).trans rfl
           have hcz96_2 : wr.cell? ⟨gb726, 2, none⟩ = some (.int .i64 a1_2) := (Zc BK726.out 2).trans rfl
           have hcz96_3 : wr.cell? ⟨gb726, 3, none⟩ = some (.int .i64 a1_3) := (Zc BK726.out 3).trans rfl
           have hcz96_4 : wr.cell? ⟨gb726, 4, none⟩ = some (.int .i64 a1_4) := (Zc BK726.out 4).trans rfl
           have hcz96_5 : wr.cell? ⟨gb726, 5, none⟩ = some (.int .i64 a1_5) := (Zc BK726.out 5).trans rfl
           have hcz96_6 : wr.cell? ⟨gb726, 6, none⟩ = some (.bool a1_6) := (Zc BK726.out 6).trans rfl
           have hfz96_0 := Zf BK726.out 0
           have hfz96_1 := Zf BK726.out 1
           have hfz96_2 := Zf BK726.out 2
           have hfz96_3 := Zf BK726.out 3
           have hfz96_4 := Zf BK726.out 4
           have hfz96_5 := Zf BK726.out 5
           have hfz96_6 := Zf BK726.out 6
           go_wp2_with (first | (go_at_call 20; (with_reducible refine (saga_Live.calls a1_0 a1_1 a1_2 a1_3 a1_4 a1_5 a1_6 true _ A85.out).mono ?_); rintro e w97 ⟨rfl, hb⟩; have n0_ := Aside0.mk (Kd.R_below (by (with_reducible repeat (first | apply Kd.R_alloc | apply Kd.R_drewN | apply Kd.R_drew)); exact HO_20.out) hb); have n1_ := Aside0.mk (Zb (g := gb725) (o := .cells #[.string a0_0, .slice A0_1 l0_1.length c0_1] 24 (0, 0)) (by repeat (first | (with_reducible first | exact BK725.out | refine Zn ?_ _ | refine Zd ?_ | refine Za ?_ _))) hb); have n2_ := Aside0.mk (Zb (g := gb726) (o := .cells #[.string a1_0, .string a1_1, .int .i64 a1_2, .int .i64 a1_3, .int .i64 a1_4, .int .i64 a1_5, .bool a1_6] 26 (0, 0)) (by repeat (first | (with_reducible first | exact BK726.out | refine Zn ?_ _ | refine Zd ?_ | refine Za ?_ _))) hb); have n3_ := Aside0.mk (Zb (g := gb737) (o := .cells #[.string t729, .string t730, .int .i64 t731, .int .i64 t732, .int .i64 t733, .int .i64 t734, .bool t735] 26 (0, 0)) (by repeat (first | (with_reducible first | exact BK737.out | refine Zn ?_ _ | refine Zd ?_ | refine Za ?_ _))) hb); have n4_ := Aside0.mk (Zb (g := gb746) (o := .cells #[.string t738, .string t739, .int .i64 t740, .int .i64 t741, .int .i64 t742, .int .i64 t743, .bool t744] 26 (0, 0)) (by repeat (first | (with_reducible first | exact BK746.out | refine Zn ?_ _ | refine Zd ?_ | refine Za ?_ _))) hb); have n5_ := Aside0.mk (Zb (g := gb755) (o := .cells #[.string t747, .string t748, .int .i64 t749, .int .i64 t750, .int .i64 t751, .int .i64 t752, .bool t753] 26 (0, 0)) (by repeat (first | (with_reducible first | exact BK755.out | refine Zn ?_ _ | refine Zd ?_ | refine Za ?_ _))) hb); have n6_ := Aside0.mk (Yt (by repeat (first | (with_reducible first | exact HB.out | apply Ya | apply Yn | apply Yd | refine Ys ?_ GE725.out | refine Ys ?_ GE726.out | refine Ys ?_ GE737.out | refine Ys ?_ GE746.out | refine Ys ?_ GE755.out) | exact HB.out)) hb); clear HO_20; clear BK725; clear BK726; clear BK737; clear BK746; clear BK755; clear HB; have HO_20 := n0_; have BK725 := n1_; have BK726 := n2_; have BK737 := n3_; have BK746 := n4_; have BK755 := n5_; have HB := n6_; clear n0_ n1_ n2_ n3_ n4_ n5_ n6_; (try clear hb); (try clear hb2); (try clear hk); (try clear hi)))
           go_ret
           exact ⟨by first | rfl | (simp [errW_none, errW_some] <;> rfl) | (simp [*, errW_none, errW_some] <;> rfl), by repeat (first | (with_reducible first | exact HB.out | apply Ya | apply Yn | apply Yd | refine Ys ?_ GE725.out | refine Ys ?_ GE726.out | refine Ys ?_ GE737.out | refine Ys ?_ GE746.out | refine Ys ?_ GE755.out) | exact HB.out)⟩
          ·
           replace c86 := Bool.eq_false_iff.mpr c86
           subst c86
           have H1 : (some false) = some r := by rw [if_neg (show ¬ (false = true) by decide)] at H; exact H
           clear H
           have H := H1
           clear H1
           exact absurd ((Option.some.inj H).trans HRT_.out) (by decide)
         ·
          replace c84 := Bool.eq_false_iff.mpr c84
          subst c84
          have H1 : (if (t747.toList == a1_0.toList && (t748.toList == a1_1.toList && (t749 == a1_2 && (t750 == a1_3 && (t751 == a1_4 && (t752 == a1_5 && (t753 == a1_6))))))) = true then ((saga_Live.f a1_0 a1_1 a1_2 a1_3 a1_4 a1_5 a1_6).bind fun t766 => (if t766 = true then (some true) else (some false))) else (some false)) = some r := by rw [if_neg (show ¬ (false = true) by decide)] at H; exact H
          clear H
          have H := H1
          clear H1
          by_cases c98 : (t747.toList == a1_0.toList && (t748.toList == a1_1.toList && (t749 == a1_2 && (t750 == a1_3 && (t751 == a1_4 && (t752 == a1_5 && (t753 == a1_6))))))) = true
          ·
           rw [if_pos c98] at H
           have c98b0 : (t747.toList == a1_0.toList && (t748.toList == a1_1.toList && (t749 == a1_2 && (t750 == a1_3 && (t751 == a1_4 && (t752 == a1_5 && (t753 == a1_6))))))) = true := c98
           (try (have c98b1 : decide (t747.toList = a1_0.toList && (t748.toList == a1_1.toList && (t749 == a1_2 && (t750 == a1_3 && (t751 == a1_4 && (t752 == a1_5 && (t753 == a1_6))))))) = true := by simpa using c98))
           (try (have c98b2 : (t747.toList == a1_0.toList && (t748.toList == a1_1.toList && (t749 == a1_2 && (t750 == a1_3 && (t751 == a1_4 && (t752 == a1_5 && (t753 == a1_6))))))) = true := by simpa using c98))
           clear c98
           replace H := Option.bind_eq_some_iff.mp H
           obtain ⟨t766, A990, H⟩ := H
           replace H : (if t766 = true then (some true) else (some false)) = some r := H
           have A99 := Aside0.mk A990
           clear A990
           by_cases c100 : t766 = true
           ·
            subst c100
            have H1 : (some true) = some r := by rw [if_pos rfl] at H; exact H
            clear H
            have H := H1
            clear H1
            obtain rfl := Option.some.inj H
            obtain ⟨Ao101, co101, eo101⟩ := Kd.R_slice HO_20.out
            subst eo101
            have hnb102 := NB746_725.out
            have hnc102 := NB725_746.out
            have hnb103 := NB746_726.out
            have hnc103 := NB726_746.out
            have hnb104 := NB746_737.out
            have hnc104 := NB737_746.out
            have hnb105 := NB746_755.out
            have hnc105 := NB755_746.out
            have hcz106_0 : wr.cell? ⟨gb746, 0, none⟩ = some (.string t738) := (Zc BK746.out 0).trans rfl
            have hcz106_1 : wr.cell? ⟨gb746, 1, none⟩ = some (.string t739) := (Zc BK746.out 1).trans rfl
            have hcz106_2 : wr.cell? ⟨gb746, 2, none⟩ = some (.int .i64 t740) := (Zc BK746.out 2).trans rfl
            have hcz106_3 : wr.cell? ⟨gb746, 3, none⟩ = some (.int .i64 t741) := (Zc BK746.out 3).trans rfl
            have hcz106_4 : wr.cell? ⟨gb746, 4, none⟩ = some (.int .i64 t742) := (Zc BK746.out 4).trans rfl
            have hcz106_5 : wr.cell? ⟨gb746, 5, none⟩ = some (.int .i64 t743) := (Zc BK746.out 5).trans rfl
            have hcz106_6 : wr.cell? ⟨gb746, 6, none⟩ = some (.bool t744) := (Zc BK746.out 6).trans rfl
            have hfz106_0 := Zf BK746.out 0
            have hfz106_1 := Zf BK746.out 1
            have hfz106_2 := Zf BK746.out 2
            have hfz106_3 := Zf BK746.out 3
            have hfz106_4 := Zf BK746.out 4
            have hfz106_5 := Zf BK746.out 5
            have hfz106_6 := Zf BK746.out 6
            have hnb107 := NB726_725.out
            have hnc107 := NB725_726.out
            have hnb108 := NB726_737.out
            have hnc108 := NB737_726.out
            have hnb109 := NB726_755.out
            have hnc109 := NB755_726.out
            have hcz110_0 : wr.cell? ⟨gb726, 0, none⟩ = some (.string a1_0) := (Zc BK726.out 0).trans rfl
            have hcz110_1 : wr.cell? ⟨gb726, 1, none⟩ = some (.string a1_1) := (Zc BK726.out 1).trans rfl
            have hcz110_2 : wr.cell? ⟨gb726, 2, none⟩ = some (.int .i64 a1_2) := (Zc BK726.out 2).trans rfl
            have hcz110_3 : wr.cell? ⟨gb726, 3, none⟩ = some (.int .i64 a1_3) := (Zc BK726.out 3).trans rfl
            have hcz110_4 : wr.cell? ⟨gb726, 4, none⟩ = some (.int .i64 a1_4) := (Zc BK726.out 4).trans rfl
            have hcz110_5 : wr.cell? ⟨gb726, 5, none⟩ = some (.int .i64 a1_5) := (Zc BK726.out 5).trans rfl
            have hcz110_6 : wr.cell? ⟨gb726, 6, none⟩ = some (.bool a1_6) := (Zc BK726.out 6).trans rfl
            have hfz110_0 := Zf BK726.out 0
            have hfz110_1 := Zf BK726.out 1
            have hfz110_2 := Zf BK726.out 2
            have hfz110_3 := Zf BK726.out 3
            have hfz110_4 := Zf BK726.out 4
            have hfz110_5 := Zf BK726.out 5
            have hfz110_6 := Zf BK726.out 6
            have hnb111 := NB755_725.out
            have hnc111 := NB725_755.out
            have hnb112 := NB755_737.out
            have hnc112 := NB737_755.out
            have hcz113_0 : wr.cell? ⟨gb755, 0, none⟩ = some (.string t747) := (Zc BK755.out 0).trans rfl
            have hcz113_1 : wr.cell? ⟨gb755, 1, none⟩ = some (.string t748) := (Zc BK755.out 1).trans rfl
            have hcz113_2 : wr.cell? ⟨gb755, 2, none⟩ = some (.int .i64 t749) := (Zc BK755.out 2).trans rfl
            have hcz113_3 : wr.cell? ⟨gb755, 3, none⟩ = some (.int .i64 t750) := (Zc BK755.out 3).trans rfl
            have hcz113_4 : wr.cell? ⟨gb755, 4, none⟩ = some (.int .i64 t751) := (Zc BK755.out 4).trans rfl
            have hcz113_5 : wr.cell? ⟨gb755, 5, none⟩ = some (.int .i64 t752) := (Zc BK755.out 5).trans rfl
            have hcz113_6 : wr.cell? ⟨gb755, 6, none⟩ = some (.bool t753) := (Zc BK755.out 6).trans rfl
            have hfz113_0 := Zf BK755.out 0
            have hfz113_1 := Zf BK755.out 1
            have hfz113_2 := Zf BK755.out 2
            have hfz113_3 := Zf BK755.out 3
            have hfz113_4 := Zf BK755.out 4
            have hfz113_5 := Zf BK755.out 5
            have hfz113_6 := Zf BK755.out 6
            go_wp2_with (first | (go_at_call 20; (with_reducible refine (saga_Live.calls a1_0 a1_1 a1_2 a1_3 a1_4 a1_5 a1_6 true _ A99.out).mono ?_); rintro e w114 ⟨rfl, hb⟩; have n0_ := Aside0.mk (Kd.R_below (by (with_reducible repeat (first | apply Kd.R_alloc | apply Kd.R_drewN | apply Kd.R_drew)); exact HO_20.out) hb); have n1_ := Aside0.mk (Zb (g := gb725) (o := .cells #[.string a0_0, .slice A0_1 l0_1.length c0_1] 24 (0, 0)) (by repeat (first | (with_reducible first | exact BK725.out | refine Zn ?_ _ | refine Zd ?_ | refine Za ?_ _))) hb); have n2_ := Aside0.mk (Zb (g := gb726) (o := .cells #[.string a1_0, .string a1_1, .int .i64 a1_2, .int .i64 a1_3, .int .i64 a1_4, .int .i64 a1_5, .bool a1_6] 26 (0, 0)) (by repeat (first | (with_reducible first | exact BK726.out | refine Zn ?_ _ | refine Zd ?_ | refine Za ?_ _))) hb); have n3_ := Aside0.mk (Zb (g := gb737) (o := .cells #[.string t729, .string t730, .int .i64 t731, .int .i64 t732, .int .i64 t733, .int .i64 t734, .bool t735] 26 (0, 0)) (by repeat (first | (with_reducible first | exact BK737.out | refine Zn ?_ _ | refine Zd ?_ | refine Za ?_ _))) hb); have n4_ := Aside0.mk (Zb (g := gb746) (o := .cells #[.string t738, .string t739, .int .i64 t740, .int .i64 t741, .int .i64 t742, .int .i64 t743, .bool t744] 26 (0, 0)) (by repeat (first | (with_reducible first | exact BK746.out | refine Zn ?_ _ | refine Zd ?_ | refine Za ?_ _))) hb); have n5_ := Aside0.mk (Zb (g := gb755) (o := .cells #[.string t747, .string t748, .int .i64 t749, .int .i64 t750, .int .i64 t751, .int .i64 t752, .bool t753] 26 (0, 0)) (by repeat (first | (with_reducible first | exact BK755.out | refine Zn ?_ _ | refine Zd ?_ | refine Za ?_ _))) hb); have n6_ := Aside0.mk (Yt (by repeat (first | (with_reducible first | exact HB.out | apply Ya | apply Yn | apply Yd | refine Ys ?_ GE725.out | refine Ys ?_ GE726.out | refine Ys ?_ GE737.out | refine Ys ?_ GE746.out | refine Ys ?_ GE755.out) | exact HB.out)) hb); clear HO_20; clear BK725; clear BK726; clear BK737; clear BK746; clear BK755; clear HB; have HO_20 := n0_; have BK725 := n1_; have BK726 := n2_; have BK737 := n3_; have BK746 := n4_; have BK755 := n5_; have HB := n6_; clear n0_ n1_ n2_ n3_ n4_ n5_ n6_; (try clear hb); (try clear hb2); (try clear hk); (try clear hi)))
            go_ret
            exact ⟨by first | rfl | (simp [errW_none, errW_some] <;> rfl) | (simp [*, errW_none, errW_some] <;> rfl), by repeat (first | (with_reducible first | exact HB.out | apply Ya | apply Yn | apply Yd | refine Ys ?_ GE725.out | refine Ys ?_ GE726.out | refine Ys ?_ GE737.out | refine Ys ?_ GE746.out | refine Ys ?_ GE755.out) | exact HB.out)⟩
           ·
            replace c100 := Bool.eq_false_iff.mpr c100
            subst c100
            have H1 : (some false) = some r := by rw [if_neg (show ¬ (false = true) by decide)] at H; exact H
            clear H
            have H := H1
            clear H1
            exact absurd ((Option.some.inj H).trans HRT_.out) (by decide)
          ·
           rw [if_neg c98] at H
           have c98b0 : (t747.toList == a1_0.toList && (t748.toList == a1_1.toList && (t749 == a1_2 && (t750 == a1_3 && (t751 == a1_4 && (t752 == a1_5 && (t753 == a1_6))))))) = false := by simpa using c98
           (try (have c98b1 : decide (t747.toList = a1_0.toList && (t748.toList == a1_1.toList && (t749 == a1_2 && (t750 == a1_3 && (t751 == a1_4 && (t752 == a1_5 && (t753 == a1_6))))))) = false := by simpa using c98))
           (try (have c98b2 : (t747.toList == a1_0.toList && (t748.toList == a1_1.toList && (t749 == a1_2 && (t750 == a1_3 && (t751 == a1_4 && (t752 == a1_5 && (t753 == a1_6))))))) = false := by simpa using c98))
           (try (have c98b3 : ¬ (t747.toList = a1_0.toList && (t748.toList == a1_1.toList && (t749 == a1_2 && (t750 == a1_3 && (t751 == a1_4 && (t752 == a1_5 && (t753 == a1_6))))))) := by simpa using c98))
           clear c98
           exact absurd ((Option.some.inj H).trans HRT_.out) (by decide)
        ·
         rw [if_neg c83] at H
         have c83b0 : (t738.toList == a1_0.toList && (t739.toList == a1_1.toList && (t740 == a1_2 && (t741 == a1_3 && (t742 == a1_4 && (t743 == a1_5 && (t744 == a1_6))))))) = false := by simpa using c83
         (try (have c83b1 : decide (t738.toList = a1_0.toList && (t739.toList == a1_1.toList && (t740 == a1_2 && (t741 == a1_3 && (t742 == a1_4 && (t743 == a1_5 && (t744 == a1_6))))))) = false := by simpa using c83))
         (try (have c83b2 : (t738.toList == a1_0.toList && (t739.toList == a1_1.toList && (t740 == a1_2 && (t741 == a1_3 && (t742 == a1_4 && (t743 == a1_5 && (t744 == a1_6))))))) = false := by simpa using c83))
         (try (have c83b3 : ¬ (t738.toList = a1_0.toList && (t739.toList == a1_1.toList && (t740 == a1_2 && (t741 == a1_3 && (t742 == a1_4 && (t743 == a1_5 && (t744 == a1_6))))))) := by simpa using c83))
         clear c83
         exact absurd ((Option.some.inj H).trans HRT_.out) (by decide)
      ·
       replace c57 := Bool.eq_false_iff.mpr c57
       subst c57
       have H1 : (if (t729.toList == a1_0.toList && (t730.toList == a1_1.toList && (t731 == a1_2 && (t732 == a1_3 && (t733 == a1_4 && (t734 == a1_5 && (t735 == a1_6))))))) = true then (if t745 = true then (if t754 = true then ((saga_Live.f a1_0 a1_1 a1_2 a1_3 a1_4 a1_5 a1_6).bind fun t767 => (if t767 = true then (some true) else (some false))) else (if (t747.toList == a1_0.toList && (t748.toList == a1_1.toList && (t749 == a1_2 && (t750 == a1_3 && (t751 == a1_4 && (t752 == a1_5 && (t753 == a1_6))))))) = true then ((saga_Live.f a1_0 a1_1 a1_2 a1_3 a1_4 a1_5 a1_6).bind fun t768 => (if t768 = true then (some true) else (some false))) else (some false))) else (if (t738.toList == a1_0.toList && (t739.toList == a1_1.toList && (t740 == a1_2 && (t741 == a1_3 && (t742 == a1_4 && (t743 == a1_5 && (t744 == a1_6))))))) = true then (if t754 = true then ((saga_Live.f a1_0 a1_1 a1_2 a1_3 a1_4 a1_5 a1_6).bind fun t769 => (if t769 = true then (some true) else (some (!t754)))) else (if (t747.toList == a1_0.toList && (t748.toList == a1_1.toList && (t749 == a1_2 && (t750 == a1_3 && (t751 == a1_4 && (t752 == a1_5 && (t753 == a1_6))))))) = true then ((saga_Live.f a1_0 a1_1 a1_2 a1_3 a1_4 a1_5 a1_6).bind fun t770 => (if t770 = true then (some true) else (some (!t754)))) else (some false))) else (some false))) else (some false)) = some r := by rw [if_neg (show ¬ (false = true) by decide)] at H; exact H
       clear H
       have H := H1
       clear H1
       by_cases c115 : (t729.toList == a1_0.toList && (t730.toList == a1_1.toList && (t731 == a1_2 && (t732 == a1_3 && (t733 == a1_4 && (t734 == a1_5 && (t735 == a1_6))))))) = true
       ·
        rw [if_pos c115] at H
        have c115b0 : (t729.toList == a1_0.toList && (t730.toList == a1_1.toList && (t731 == a1_2 && (t732 == a1_3 && (t733 == a1_4 && (t734 == a1_5 && (t735 == a1_6))))))) = true := c115
        (try (have c115b1 : decide (t729.toList = a1_0.toList && (t730.toList == a1_1.toList && (t731 == a1_2 && (t732 == a1_3 && (t733 == a1_4 && (t734 == a1_5 && (t735 == a1_6))))))) = true := by simpa using c115))
        (try (have c115b2 : (t729.toList == a1_0.toList && (t730.toList == a1_1.toList && (t731 == a1_2 && (t732 == a1_3 && (t733 == a1_4 && (t734 == a1_5 && (t735 == a1_6))))))) = true := by simpa using c115))
        clear c115
        by_cases c116 : t745 = true
        ·
         subst c116
         have H1 : (if t754 = true then ((saga_Live.f a1_0 a1_1 a1_2 a1_3 a1_4 a1_5 a1_6).bind fun t767 => (if t767 = true then (some true) else (some false))) else (if (t747.toList == a1_0.toList && (t748.toList == a1_1.toList && (t749 == a1_2 && (t750 == a1_3 && (t751 == a1_4 && (t752 == a1_5 && (t753 == a1_6))))))) = true then ((saga_Live.f a1_0 a1_1 a1_2 a1_3 a1_4 a1_5 a1_6).bind fun t768 => (if t768 = true then (some true) else (some false))) else (some false))) = some r := by rw [if_pos rfl] at H; exact H
         clear H
         have H := H1
         clear H1
         by_cases c117 : t754 = true
         ·
          subst c117
          have H1 : ((saga_Live.f a1_0 a1_1 a1_2 a1_3 a1_4 a1_5 a1_6).bind fun t767 => (if t767 = true then (some true) else (some false))) = some r := by rw [if_pos rfl] at H; exact H
          clear H
          have H := H1
          clear H1
          replace H := Option.bind_eq_some_iff.mp H
          obtain ⟨t767, A1180, H⟩ := H
          replace H : (if t767 = true then (some true) else (some false)) = some r := H
          have A118 := Aside0.mk A1180
          clear A1180
          by_cases c119 : t767 = true
          ·
           subst c119
           have H1 : (some true) = some r := by rw [if_pos rfl] at H; exact H
           clear H
           have H := H1
           clear H1
           obtain rfl := Option.some.inj H
           obtain ⟨Ao120, co120, eo120⟩ := Kd.R_slice HO_20.out
           subst eo120
           have hnb121 := NB737_725.out
           have hnc121 := NB725_737.out
           have hnb122 := NB737_726.out
           have hnc122 := NB726_737.out
           have hnb123 := NB737_746.out
           have hnc123 := NB746_737.out
           have hnb124 := NB737_755.out
           have hnc124 := NB755_737.out
           have hcz125_0 : wr.cell? ⟨gb737, 0, none⟩ = some (.string t729) := (Zc BK737.out 0).trans rfl
           have hcz125_1 : wr.cell? ⟨gb737, 1, none⟩ = some (.string t730) := (Zc BK737.out 1).trans rfl
           have hcz125_2 : wr.cell? ⟨gb737, 2, none⟩ = some (.int .i64 t731) := (Zc BK737.out 2).trans rfl
           have hcz125_3 : wr.cell? ⟨gb737, 3, none⟩ = some (.int .i64 t732) := (Zc BK737.out 3).trans rfl
           have hcz125_4 : wr.cell? ⟨gb737, 4, none⟩ = some (.int .i64 t733) := (Zc BK737.out 4).trans rfl
           have hcz125_5 : wr.cell? ⟨gb737, 5, none⟩ = some (.int .i64 t734) := (Zc BK737.out 5).trans rfl
           have hcz125_6 : wr.cell? ⟨gb737, 6, none⟩ = some (.bool t735) := (Zc BK737.out 6).trans rfl
           have hfz125_0 := Zf BK737.out 0
           have hfz125_1 := Zf BK737.out 1
           have hfz125_2 := Zf BK737.out 2
           have hfz125_3 := Zf BK737.out 3
           have hfz125_4 := Zf BK737.out 4
           have hfz125_5 := Zf BK737.out 5
           have hfz125_6 := Zf BK737.out 6
           have hnb126 := NB726_725.out
           have hnc126 := NB725_726.out
           have hnb127 := NB726_746.out
           have hnc127 := NB746_726.out
           have hnb128 := NB726_755.out
           have hnc128 := NB755_726.out
           have hcz129_0 : wr.cell? ⟨gb726, 0, none⟩ = some (.string a1_0) := (Zc BK726.out 0).trans rfl
           have hcz129_1 : wr.cell? ⟨gb726, 1, none⟩ = some (.string a1_1) := (Zc BK726.out 1).trans rfl
           have hcz129_2 : wr.cell? ⟨gb726, 2, none⟩ = some (.int .i64 a1_2) := (Zc BK726.out 2).trans rfl
           have hcz129_3 : wr.cell? ⟨gb726, 3, none⟩ = some (.int .i64 a1_3) := (Zc BK726.out 3).trans rfl
           have hcz129_4 : wr.cell? ⟨gb726, 4, none⟩ = some (.int .i64 a1_4) := (Zc BK726.out 4).trans rfl
           have hcz129_5 : wr.cell? ⟨gb726, 5, none⟩ = some (.int .i64 a1_5) := (Zc BK726.out 5).trans rfl
           have hcz129_6 : wr.cell? ⟨gb726, 6, none⟩ = some (.bool a1_6) := (Zc BK726.out 6).trans rfl
           have hfz129_0 := Zf BK726.out 0
           have hfz129_1 := Zf BK726.out 1
           have hfz129_2 := Zf BK726.out 2
           have hfz129_3 := Zf BK726.out 3
           have hfz129_4 := Zf BK726.out 4
           have hfz129_5 := Zf BK726.out 5
           have hfz129_6 := Zf BK726.out 6
           go_wp2_with (first | (go_at_call 20; (with_reducible refine (saga_Live.calls a1_0 a1_1 a1_2 a1_3 a1_4 a1_5 a1_6 true _ A118.out).mono ?_); rintro e w130 ⟨rfl, hb⟩; have n0_ := Aside0.mk (Kd.R_below (by (with_reducible repeat (first | apply Kd.R_alloc | apply Kd.R_drewN | apply Kd.R_drew)); exact HO_20.out) hb); have n1_ := Aside0.mk (Zb (g := gb725) (o := .cells #[.string a0_0, .slice A0_1 l0_1.length c0_1] 24 (0, 0)) (by repeat (first | (with_reducible first | exact BK725.out | refine Zn ?_ _ | refine Zd ?_ | refine Za ?_ _))) hb); have n2_ := Aside0.mk (Zb (g := gb726) (o := .cells #[.string a1_0, .string a1_1, .int .i64 a1_2, .int .i64 a1_3, .int .i64 a1_4, .int .i64 a1_5, .bool a1_6] 26 (0, 0)) (by repeat (first | (with_reducible first | exact BK726.out | refine Zn ?_ _ | refine Zd ?_ | refine Za ?_ _))) hb); have n3_ := Aside0.mk (Zb (g := gb737) (o := .cells #[.string t729, .string t730, .int .i64 t731, .int .i64 t732, .int .i64 t733, .int .i64 t734, .bool t735] 26 (0, 0)) (by repeat (first | (with_reducible first | exact BK737.out | refine Zn ?_ _ | refine Zd ?_ | refine Za ?_ _))) hb); have n4_ := Aside0.mk (Zb (g := gb746) (o := .cells #[.string t738, .string t739, .int .i64 t740, .int .i64 t741, .int .i64 t742, .int .i64 t743, .bool t744] 26 (0, 0)) (by repeat (first | (with_reducible first | exact BK746.out | refine Zn ?_ _ | refine Zd ?_ | refine Za ?_ _))) hb); have n5_ := Aside0.mk (Zb (g := gb755) (o := .cells #[.string t747, .string t748, .int .i64 t749, .int .i64 t750, .int .i64 t751, .int .i64 t752, .bool t753] 26 (0, 0)) (by repeat (first | (with_reducible first | exact BK755.out | refine Zn ?_ _ | refine Zd ?_ | refine Za ?_ _))) hb); have n6_ := Aside0.mk (Yt (by repeat (first | (with_reducible first | exact HB.out | apply Ya | apply Yn | apply Yd | refine Ys ?_ GE725.out | refine Ys ?_ GE726.out | refine Ys ?_ GE737.out | refine Ys ?_ GE746.out | refine Ys ?_ GE755.out) | exact HB.out)) hb); clear HO_20; clear BK725; clear BK726; clear BK737; clear BK746; clear BK755; clear HB; have HO_20 := n0_; have BK725 := n1_; have BK726 := n2_; have BK737 := n3_; have BK746 := n4_; have BK755 := n5_; have HB := n6_; clear n0_ n1_ n2_ n3_ n4_ n5_ n6_; (try clear hb); (try clear hb2); (try clear hk); (try clear hi)))
           go_ret
           exact ⟨by first | rfl | (simp [errW_none, errW_some] <;> rfl) | (simp [*, errW_none, errW_some] <;> rfl), by repeat (first | (with_reducible first | exact HB.out | apply Ya | apply Yn | apply Yd | refine Ys ?_ GE725.out | refine Ys ?_ GE726.out | refine Ys ?_ GE737.out | refine Ys ?_ GE746.out | refine Ys ?_ GE755.out) | exact HB.out)⟩
          ·
           replace c119 := Bool.eq_false_iff.mpr c119
           subst c119
           have H1 : (some false) = some r := by rw [if_neg (show ¬ (false = true) by decide)] at H; exact H
           clear H
           have H := H1
           clear H1
           exact absurd ((Option.some.inj H).trans HRT_.out) (by decide)
         ·
          replace c117 := Bool.eq_false_iff.mpr c117
          subst c117
          have H1 : (if (t747.toList == a1_0.toList && (t748.toList == a1_1.toList && (t749 == a1_2 && (t750 == a1_3 && (t751 == a1_4 && (t752 == a1_5 && (t753 == a1_6))))))) = true then ((saga_Live.f a1_0 a1_1 a1_2 a1_3 a1_4 a1_5 a1_6).bind fun t768 => (if t768 = true then (some true) else (some false))) else (some false)) = some r := by rw [if_neg (show ¬ (false = true) by decide)] at H; exact H
          clear H
          have H := H1
          clear H1
          by_cases c131 : (t747.toList == a1_0.toList && (t748.toList == a1_1.toList && (t749 == a1_2 && (t750 == a1_3 && (t751 == a1_4 && (t752 == a1_5 && (t753 == a1_6))))))) = true
          ·
           rw [if_pos c131] at H
           have c131b0 : (t747.toList == a1_0.toList && (t748.toList == a1_1.toList && (t749 == a1_2 && (t750 == a1_3 && (t751 == a1_4 && (t752 == a1_5 && (t753 == a1_6))))))) = true := c131
           (try (have c131b1 : decide (t747.toList = a1_0.toList && (t748.toList == a1_1.toList && (t749 == a1_2 && (t750 == a1_3 && (t751 == a1_4 && (t752 == a1_5 && (t753 == a1_6))))))) = true := by simpa using c131))
           (try (have c131b2 : (t747.toList == a1_0.toList && (t748.toList == a1_1.toList && (t749 == a1_2 && (t750 == a1_3 && (t751 == a1_4 && (t752 == a1_5 && (t753 == a1_6))))))) = true := by simpa using c131))
           clear c131
           replace H := Option.bind_eq_some_iff.mp H
           obtain ⟨t768, A1320, H⟩ := H
           replace H : (if t768 = true then (some true) else (some false)) = some r := H
           have A132 := Aside0.mk A1320
           clear A1320
           by_cases c133 : t768 = true
           ·
            subst c133
            have H1 : (some true) = some r := by rw [if_pos rfl] at H; exact H
            clear H
            have H := H1
            clear H1
            obtain rfl := Option.some.inj H
            obtain ⟨Ao134, co134, eo134⟩ := Kd.R_slice HO_20.out
            subst eo134
            have hnb135 := NB737_725.out
            have hnc135 := NB725_737.out
            have hnb136 := NB737_726.out
            have hnc136 := NB726_737.out
            have hnb137 := NB737_746.out
            have hnc137 := NB746_737.out
            have hnb138 := NB737_755.out
            have hnc138 := NB755_737.out
            have hcz139_0 : wr.cell? ⟨gb737, 0, none⟩ = some (.string t729) := (Zc BK737.out 0).trans rfl
            have hcz139_1 : wr.cell? ⟨gb737, 1, none⟩ = some (.string t730) := (Zc BK737.out 1).trans rfl
            have hcz139_2 : wr.cell? ⟨gb737, 2, none⟩ = some (.int .i64 t731) := (Zc BK737.out 2).trans rfl
            have hcz139_3 : wr.cell? ⟨gb737, 3, none⟩ = some (.int .i64 t732) := (Zc BK737.out 3).trans rfl
            have hcz139_4 : wr.cell? ⟨gb737, 4, none⟩ = some (.int .i64 t733) := (Zc BK737.out 4).trans rfl
            have hcz139_5 : wr.cell? ⟨gb737, 5, none⟩ = some (.int .i64 t734) := (Zc BK737.out 5).trans rfl
            have hcz139_6 : wr.cell? ⟨gb737, 6, none⟩ = some (.bool t735) := (Zc BK737.out 6).trans rfl
            have hfz139_0 := Zf BK737.out 0
            have hfz139_1 := Zf BK737.out 1
            have hfz139_2 := Zf BK737.out 2
            have hfz139_3 := Zf BK737.out 3
            have hfz139_4 := Zf BK737.out 4
            have hfz139_5 := Zf BK737.out 5
            have hfz139_6 := Zf BK737.out 6
            have hnb140 := NB726_725.out
            have hnc140 := NB725_726.out
            have hnb141 := NB726_746.out
            have hnc141 := NB746_726.out
            have hnb142 := NB726_755.out
            have hnc142 := NB755_726.out
            have hcz143_0 : wr.cell? ⟨gb726, 0, none⟩ = some (.string a1_0) := (Zc BK726.out 0).trans rfl
            have hcz143_1 : wr.cell? ⟨gb726, 1, none⟩ = some (.string a1_1) := (Zc BK726.out 1).trans rfl
            have hcz143_2 : wr.cell? ⟨gb726, 2, none⟩ = some (.int .i64 a1_2) := (Zc BK726.out 2).trans rfl
            have hcz143_3 : wr.cell? ⟨gb726, 3, none⟩ = some (.int .i64 a1_3) := (Zc BK726.out 3).trans rfl
            have hcz143_4 : wr.cell? ⟨gb726, 4, none⟩ = some (.int .i64 a1_4) := (Zc BK726.out 4).trans rfl
            have hcz143_5 : wr.cell? ⟨gb726, 5, none⟩ = some (.int .i64 a1_5) := (Zc BK726.out 5).trans rfl
            have hcz143_6 : wr.cell? ⟨gb726, 6, none⟩ = some (.bool a1_6) := (Zc BK726.out 6).trans rfl
            have hfz143_0 := Zf BK726.out 0
            have hfz143_1 := Zf BK726.out 1
            have hfz143_2 := Zf BK726.out 2
            have hfz143_3 := Zf BK726.out 3
            have hfz143_4 := Zf BK726.out 4
            have hfz143_5 := Zf BK726.out 5
            have hfz143_6 := Zf BK726.out 6
            have hnb144 := NB755_725.out
            have hnc144 := NB725_755.out
            have hnb145 := NB755_746.out
            have hnc145 := NB746_755.out
            have hcz146_0 : wr.cell? ⟨gb755, 0, none⟩ = some (.string t747) := (Zc BK755.out 0).trans rfl
            have hcz146_1 : wr.cell? ⟨gb755, 1, none⟩ = some (.string t748) := (Zc BK755.out 1).trans rfl
            have hcz146_2 : wr.cell? ⟨gb755, 2, none⟩ = some (.int .i64 t749) := (Zc BK755.out 2).trans rfl
            have hcz146_3 : wr.cell? ⟨gb755, 3, none⟩ = some (.int .i64 t750) := (Zc BK755.out 3).trans rfl
            have hcz146_4 : wr.cell? ⟨gb755, 4, none⟩ = some (.int .i64 t751) := (Zc BK755.out 4).trans rfl
            have hcz146_5 : wr.cell? ⟨gb755, 5, none⟩ = some (.int .i64 t752) := (Zc BK755.out 5).trans rfl
            have hcz146_6 : wr.cell? ⟨gb755, 6, none⟩ = some (.bool t753) := (Zc BK755.out 6).trans rfl
            have hfz146_0 := Zf BK755.out 0
            have hfz146_1 := Zf BK755.out 1
            have hfz146_2 := Zf BK755.out 2
            have hfz146_3 := Zf BK755.out 3
            have hfz146_4 := Zf BK755.out 4
            have hfz146_5 := Zf BK755.out 5
            have hfz146_6 := Zf BK755.out 6
            go_wp2_with (first | (go_at_call 20; (with_reducible refine (saga_Live.calls a1_0 a1_1 a1_2 a1_3 a1_4 a1_5 a1_6 true _ A132.out).mono ?_); rintro e w147 ⟨rfl, hb⟩; have n0_ := Aside0.mk (Kd.R_below (by (with_reducible repeat (first | apply Kd.R_alloc | apply Kd.R_drewN | apply Kd.R_drew)); exact HO_20.out) hb); have n1_ := Aside0.mk (Zb (g := gb725) (o := .cells #[.string a0_0, .slice A0_1 l0_1.length c0_1] 24 (0, 0)) (by repeat (first | (with_reducible first | exact BK725.out | refine Zn ?_ _ | refine Zd ?_ | refine Za ?_ _))) hb); have n2_ := Aside0.mk (Zb (g := gb726) (o := .cells #[.string a1_0, .string a1_1, .int .i64 a1_2, .int .i64 a1_3, .int .i64 a1_4, .int .i64 a1_5, .bool a1_6] 26 (0, 0)) (by repeat (first | (with_reducible first | exact BK726.out | refine Zn ?_ _ | refine Zd ?_ | refine Za ?_ _))) hb); have n3_ := Aside0.mk (Zb (g := gb737) (o := .cells #[.string t729, .string t730, .int .i64 t731, .int .i64 t732, .int .i64 t733, .int .i64 t734, .bool t735] 26 (0, 0)) (by repeat (first | (with_reducible first | exact BK737.out | refine Zn ?_ _ | refine Zd ?_ | refine Za ?_ _))) hb); have n4_ := Aside0.mk (Zb (g := gb746) (o := .cells #[.string t738, .string t739, .int .i64 t740, .int .i64 t741, .int .i64 t742, .int .i64 t743, .bool t744] 26 (0, 0)) (by repeat (first | (with_reducible first | exact BK746.out | refine Zn ?_ _ | refine Zd ?_ | refine Za ?_ _))) hb); have n5_ := Aside0.mk (Zb (g := gb755) (o := .cells #[.string t747, .string t748, .int .i64 t749, .int .i64 t750, .int .i64 t751, .int .i64 t752, .bool t753] 26 (0, 0)) (by repeat (first | (with_reducible first | exact BK755.out | refine Zn ?_ _ | refine Zd ?_ | refine Za ?_ _))) hb); have n6_ := Aside0.mk (Yt (by repeat (first | (with_reducible first | exact HB.out | apply Ya | apply Yn | apply Yd | refine Ys ?_ GE725.out | refine Ys ?_ GE726.out | refine Ys ?_ GE737.out | refine Ys ?_ GE746.out | refine Ys ?_ GE755.out) | exact HB.out)) hb); clear HO_20; clear BK725; clear BK726; clear BK737; clear BK746; clear BK755; clear HB; have HO_20 := n0_; have BK725 := n1_; have BK726 := n2_; have BK737 := n3_; have BK746 := n4_; have BK755 := n5_; have HB := n6_; clear n0_ n1_ n2_ n3_ n4_ n5_ n6_; (try clear hb); (try clear hb2); (try clear hk); (try clear hi)))
            go_ret
            exact ⟨by first | rfl | (simp [errW_none, errW_some] <;> rfl) | (simp [*, errW_none, errW_some] <;> rfl), by repeat (first | (with_reducible first | exact HB.out | apply Ya | apply Yn | apply Yd | refine Ys ?_ GE725.out | refine Ys ?_ GE726.out | refine Ys ?_ GE737.out | refine Ys ?_ GE746.out | refine Ys ?_ GE755.out) | exact HB.out)⟩
           ·
            replace c133 := Bool.eq_false_iff.mpr c133
            subst c133
            have H1 : (some false) = some r := by rw [if_neg (show ¬ (false = true) by decide)] at H; exact H
            clear H
            have H := H1
            clear H1
            exact absurd ((Option.some.inj H).trans HRT_.out) (by decide)
          ·
           rw [if_neg c131] at H
           have c131b0 : (t747.toList == a1_0.toList && (t748.toList == a1_1.toList && (t749 == a1_2 && (t750 == a1_3 && (t751 == a1_4 && (t752 == a1_5 && (t753 == a1_6))))))) = false := by simpa using c131
           (try (have c131b1 : decide (t747.toList = a1_0.toList && (t748.toList == a1_1.toList && (t749 == a1_2 && (t750 == a1_3 && (t751 == a1_4 && (t752 == a1_5 && (t753 == a1_6))))))) = false := by simpa using c131))
           (try (have c131b2 : (t747.toList == a1_0.toList && (t748.toList == a1_1.toList && (t749 == a1_2 && (t750 == a1_3 && (t751 == a1_4 && (t752 == a1_5 && (t753 == a1_6))))))) = false := by simpa using c131))
           (try (have c131b3 : ¬ (t747.toList = a1_0.toList && (t748.toList == a1_1.toList && (t749 == a1_2 && (t750 == a1_3 && (t751 == a1_4 && (t752 == a1_5 && (t753 == a1_6))))))) := by simpa using c131))
           clear c131
           exact absurd ((Option.some.inj H).trans HRT_.out) (by decide)
        ·
         replace c116 := Bool.eq_false_iff.mpr c116
         subst c116
         have H1 : (if (t738.toList == a1_0.toList && (t739.toList == a1_1.toList && (t740 == a1_2 && (t741 == a1_3 && (t742 == a1_4 && (t743 == a1_5 && (t744 == a1_6))))))) = true then (if t754 = true then ((saga_Live.f a1_0 a1_1 a1_2 a1_3 a1_4 a1_5 a1_6).bind fun t769 => (if t769 = true then (some true) else (some (!t754)))) else (if (t747.toList == a1_0.toList && (t748.toList == a1_1.toList && (t749 == a1_2 && (t750 == a1_3 && (t751 == a1_4 && (t752 == a1_5 && (t753 == a1_6))))))) = true then ((saga_Live.f a1_0 a1_1 a1_2 a1_3 a1_4 a1_5 a1_6).bind fun t770 => (if t770 = true then (some true) else (some (!t754)))) else (some false))) else (some false)) = some r := by rw [if_neg (show ¬ (false = true) by decide)] at H; exact H
         clear H
         have H := H1
         clear H1
         by_cases c148 : (t738.toList == a1_0.toList && (t739.toList == a1_1.toList && (t740 == a1_2 && (t741 == a1_3 && (t742 == a1_4 && (t743 == a1_5 && (t744 == a1_6))))))) = true
         ·
          rw [if_pos c148] at H
          have c148b0 : (t738.toList == a1_0.toList && (t739.toList == a1_1.toList && (t740 == a1_2 && (t741 == a1_3 && (t742 == a1_4 && (t743 == a1_5 && (t744 == a1_6))))))) = true := c148
          (try (have c148b1 : decide (t738.toList = a1_0.toList && (t739.toList == a1_1.toList && (t740 == a1_2 && (t741 == a1_3 && (t742 == a1_4 && (t743 == a1_5 && (t744 == a1_6))))))) = true := by simpa using c148))
          (try (have c148b2 : (t738.toList == a1_0.toList && (t739.toList == a1_1.toList && (t740 == a1_2 && (t741 == a1_3 && (t742 == a1_4 && (t743 == a1_5 && (t744 == a1_6))))))) = true := by simpa using c148))
          clear c148
          by_cases c149 : t754 = true
          ·
           subst c149
           have H1 : ((saga_Live.f a1_0 a1_1 a1_2 a1_3 a1_4 a1_5 a1_6).bind fun t769 => (if t769 = true then (some true) else (some (!true)))) = some r := by rw [if_pos rfl] at H; exact H
           clear H
           have H := H1
           clear H1
           replace H := Option.bind_eq_some_iff.mp H
           obtain ⟨t769, A1500, H⟩ := H
           replace H : (if t769 = true then (some true) else (some (!true))) = some r := H
           have A150 := Aside0.mk A1500
           clear A1500
           by_cases c151 : t769 = true
           ·
            subst c151
            have H1 : (some true) = some r := by rw [if_pos rfl] at H; exact H
            clear H
            have H := H1
            clear H1
            obtain rfl := Option.some.inj H
            obtain ⟨Ao152, co152, eo152⟩ := Kd.R_slice HO_20.out
            subst eo152
            have hnb153 := NB737_725.out
            have hnc153 := NB725_737.out
            have hnb154 := NB737_726.out
            have hnc154 := NB726_737.out
            have hnb155 := NB737_746.out
            have hnc155 := NB746_737.out
            have hnb156 := NB737_755.out
            have hnc156 := NB755_737.out
            have hcz157_0 : wr.cell? ⟨gb737, 0, none⟩ = some (.string t729) := (Zc BK737.out 0).trans rfl
            have hcz157_1 : wr.cell? ⟨gb737, 1, none⟩ = some (.string t730) := (Zc BK737.out 1).trans rfl
            have hcz157_2 : wr.cell? ⟨gb737, 2, none⟩ = some (.int .i64 t731) := (Zc BK737.out 2).trans rfl
            have hcz157_3 : wr.cell? ⟨gb737, 3, none⟩ = some (.int .i64 t732) := (Zc BK737.out 3).trans rfl
            have hcz157_4 : wr.cell? ⟨gb737, 4, none⟩ = some (.int .i64 t733) := (Zc BK737.out 4).trans rfl
            have hcz157_5 : wr.cell? ⟨gb737, 5, none⟩ = some (.int .i64 t734) := (Zc BK737.out 5).trans rfl
            have hcz157_6 : wr.cell? ⟨gb737, 6, none⟩ = some (.bool t735) := (Zc BK737.out 6).trans rfl
            have hfz157_0 := Zf BK737.out 0
            have hfz157_1 := Zf BK737.out 1
            have hfz157_2 := Zf BK737.out 2
            have hfz157_3 := Zf BK737.out 3
            have hfz157_4 := Zf BK737.out 4
            have hfz157_5 := Zf BK737.out 5
            have hfz157_6 := Zf BK737.out 6
            have hnb158 := NB726_725.out
            have hnc158 := NB725_726.out
            have hnb159 := NB726_746.out
            have hnc159 := NB746_726.out
            have hnb160 := NB726_755.out
            have hnc160 := NB755_726.out
            have hcz161_0 : wr.cell? ⟨gb726, 0, none⟩ = some (.string a1_0) := (Zc BK726.out 0).trans rfl
            have hcz161_1 : wr.cell? ⟨gb726, 1, none⟩ = some (.string a1_1) := (Zc BK726.out 1).trans rfl
            have hcz161_2 : wr.cell? ⟨gb726, 2, none⟩ = some (.int .i64 a1_2) := (Zc BK726.out 2).trans rfl
            have hcz161_3 : wr.cell? ⟨gb726, 3, none⟩ = some (.int .i64 a1_3) := (Zc BK726.out 3).trans rfl
            have hcz161_4 : wr.cell? ⟨gb726, 4, none⟩ = some (.int .i64 a1_4) := (Zc BK726.out 4).trans rfl
            have hcz161_5 : wr.cell? ⟨gb726, 5, none⟩ = some (.int .i64 a1_5) := (Zc BK726.out 5).trans rfl
            have hcz161_6 : wr.cell? ⟨gb726, 6, none⟩ = some (.bool a1_6) := (Zc BK726.out 6).trans rfl
            have hfz161_0 := Zf BK726.out 0
            have hfz161_1 := Zf BK726.out 1
            have hfz161_2 := Zf BK726.out 2
            have hfz161_3 := Zf BK726.out 3
            have hfz161_4 := Zf BK726.out 4
            have hfz161_5 := Zf BK726.out 5
            have hfz161_6 := Zf BK726.out 6
            have hnb162 := NB746_725.out
            have hnc162 := NB725_746.out
            have hnb163 := NB746_755.out
            have hnc163 := NB755_746.out
            have hcz164_0 : wr.cell? ⟨gb746, 0, none⟩ = some (.string t738) := (Zc BK746.out 0).trans rfl
            have hcz164_1 : wr.cell? ⟨gb746, 1, none⟩ = some (.string t739) := (Zc BK746.out 1).trans rfl
            have hcz164_2 : wr.cell? ⟨gb746, 2, none⟩ = some (.int .i64 t740) := (Zc BK746.out 2).trans rfl
            have hcz164_3 : wr.cell? ⟨gb746, 3, none⟩ = some (.int .i64 t741) := (Zc BK746.out 3).trans rfl
            have hcz164_4 : wr.cell? ⟨gb746, 4, none⟩ = some (.int .i64 t742) := (Zc BK746.out 4).trans rfl
            have hcz164_5 : wr.cell? ⟨gb746, 5, none⟩ = some (.int .i64 t743) := (Zc BK746.out 5).trans rfl
            have hcz164_6 : wr.cell? ⟨gb746, 6, none⟩ = some (.bool t744) := (Zc BK746.out 6).trans rfl
            have hfz164_0 := Zf BK746.out 0
            have hfz164_1 := Zf BK746.out 1
            have hfz164_2 := Zf BK746.out 2
            have hfz164_3 := Zf BK746.out 3
            have hfz164_4 := Zf BK746.out 4
            have hfz164_5 := Zf BK746.out 5
            have hfz164_6 := Zf BK746.out 6
            go_wp2_with (first | (go_at_call 20; (with_reducible refine (saga_Live.calls a1_0 a1_1 a1_2 a1_3 a1_4 a1_5 a1_6 true _ A150.out).mono ?_); rintro e w165 ⟨rfl, hb⟩; have n0_ := Aside0.mk (Kd.R_below (by (with_reducible repeat (first | apply Kd.R_alloc | apply Kd.R_drewN | apply Kd.R_drew)); exact HO_20.out) hb); have n1_ := Aside0.mk (Zb (g := gb725) (o := .cells #[.string a0_0, .slice A0_1 l0_1.length c0_1] 24 (0, 0)) (by repeat (first | (with_reducible first | exact BK725.out | refine Zn ?_ _ | refine Zd ?_ | refine Za ?_ _))) hb); have n2_ := Aside0.mk (Zb (g := gb726) (o := .cells #[.string a1_0, .string a1_1, .int .i64 a1_2, .int .i64 a1_3, .int .i64 a1_4, .int .i64 a1_5, .bool a1_6] 26 (0, 0)) (by repeat (first | (with_reducible first | exact BK726.out | refine Zn ?_ _ | refine Zd ?_ | refine Za ?_ _))) hb); have n3_ := Aside0.mk (Zb (g := gb737) (o := .cells #[.string t729, .string t730, .int .i64 t731, .int .i64 t732, .int .i64 t733, .int .i64 t734, .bool t735] 26 (0, 0)) (by repeat (first | (with_reducible first | exact BK737.out | refine Zn ?_ _ | refine Zd ?_ | refine Za ?_ _))) hb); have n4_ := Aside0.mk (Zb (g := gb746) (o := .cells #[.string t738, .string t739, .int .i64 t740, .int .i64 t741, .int .i64 t742, .int .i64 t743, .bool t744] 26 (0, 0)) (by repeat (first | (with_reducible first | exact BK746.out | refine Zn ?_ _ | refine Zd ?_ | refine Za ?_ _))) hb); have n5_ := Aside0.mk (Zb (g := gb755) (o := .cells #[.string t747, .string t748, .int .i64 t749, .int .i64 t750, .int .i64 t751, .int .i64 t752, .bool t753] 26 (0, 0)) (by repeat (first | (with_reducible first | exact BK755.out | refine Zn ?_ _ | refine Zd ?_ | refine Za ?_ _))) hb); have n6_ := Aside0.mk (Yt (by repeat (first | (with_reducible first | exact HB.out | apply Ya | apply Yn | apply Yd | refine Ys ?_ GE725.out | refine Ys ?_ GE726.out | refine Ys ?_ GE737.out | refine Ys ?_ GE746.out | refine Ys ?_ GE755.out) | exact HB.out)) hb); clear HO_20; clear BK725; clear BK726; clear BK737; clear BK746; clear BK755; clear HB; have HO_20 := n0_; have BK725 := n1_; have BK726 := n2_; have BK737 := n3_; have BK746 := n4_; have BK755 := n5_; have HB := n6_; clear n0_ n1_ n2_ n3_ n4_ n5_ n6_; (try clear hb); (try clear hb2); (try clear hk); (try clear hi)))
            go_ret
            exact ⟨by first | rfl | (simp [errW_none, errW_some] <;> rfl) | (simp [*, errW_none, errW_some] <;> rfl), by repeat (first | (with_reducible first | exact HB.out | apply Ya | apply Yn | apply Yd | refine Ys ?_ GE725.out | refine Ys ?_ GE726.out | refine Ys ?_ GE737.out | refine Ys ?_ GE746.out | refine Ys ?_ GE755.out) | exact HB.out)⟩
           ·
            replace c151 := Bool.eq_false_iff.mpr c151
            subst c151
            have H1 : (some (!true)) = some r := by rw [if_neg (show ¬ (false = true) by decide)] at H; exact H
            clear H
            have H := H1
            clear H1
            obtain rfl := Option.some.inj H
            obtain ⟨Ao166, co166, eo166⟩ := Kd.R_slice HO_20.out
            subst eo166
            have hnb167 := NB737_725.out
            have hnc167 := NB725_737.out
            have hnb168 := NB737_726.out
            have hnc168 := NB726_737.out
            have hnb169 := NB737_746.out
            have hnc169 := NB746_737.out
            have hnb170 := NB737_755.out
            have hnc170 := NB755_737.out
            have hcz171_0 : wr.cell? ⟨gb737, 0, none⟩ = some (.string t729) := (Zc BK737.out 0).trans rfl
            have hcz171_1 : wr.cell? ⟨gb737, 1, none⟩ = some (.string t730) := (Zc BK737.out 1).trans rfl
            have hcz171_2 : wr.cell? ⟨gb737, 2, none⟩ = some (.int .i64 t731) := (Zc BK737.out 2).trans rfl
            have hcz171_3 : wr.cell? ⟨gb737, 3, none⟩ = some (.int .i64 t732) := (Zc BK737.out 3).trans rfl
            have hcz171_4 : wr.cell? ⟨gb737, 4, none⟩ = some (.int .i64 t733) := (Zc BK737.out 4).trans rfl
            have hcz171_5 : wr.cell? ⟨gb737, 5, none⟩ = some (.int .i64 t734) := (Zc BK737.out 5).trans rfl
            have hcz171_6 : wr.cell? ⟨gb737, 6, none⟩ = some (.bool t735) := (Zc BK737.out 6).trans rfl
            have hfz171_0 := Zf BK737.out 0
            have hfz171_1 := Zf BK737.out 1
            have hfz171_2 := Zf BK737.out 2
            have hfz171_3 := Zf BK737.out 3
            have hfz171_4 := Zf BK737.out 4
            have hfz171_5 := Zf BK737.out 5
            have hfz171_6 := Zf BK737.out 6
            have hnb172 := NB726_725.out
            have hnc172 := NB725_726.out
            have hnb173 := NB726_746.out
            have hnc173 := NB746_726.out
            have hnb174 := NB726_755.out
            have hnc174 := NB755_726.out
            have hcz175_0 : wr.cell? ⟨gb726, 0, none⟩ = some (.string a1_0) := (Zc BK726.out 0).trans rfl
            have hcz175_1 : wr.cell? ⟨gb726, 1, none⟩ = some (.string a1_1) := (Zc BK726.out 1).trans rfl
            have hcz175_2 : wr.cell? ⟨gb726, 2, none⟩ = some (.int .i64 a1_2) := (Zc BK726.out 2).trans rfl
            have hcz175_3 : wr.cell? ⟨gb726, 3, none⟩ = some (.int .i64 a1_3) := (Zc BK726.out 3).trans rfl
            have hcz175_4 : wr.cell? ⟨gb726, 4, none⟩ = some (.int .i64 a1_4) := (Zc BK726.out 4).trans rfl
            have hcz175_5 : wr.cell? ⟨gb726, 5, none⟩ = some (.int .i64 a1_5) := (Zc BK726.out 5).trans rfl
            have hcz175_6 : wr.cell? ⟨gb726, 6, none⟩ = some (.bool a1_6) := (Zc BK726.out 6).trans rfl
            have hfz175_0 := Zf BK726.out 0
            have hfz175_1 := Zf BK726.out 1
            have hfz175_2 := Zf BK726.out 2
            have hfz175_3 := Zf BK726.out 3
            have hfz175_4 := Zf BK726.out 4
            have hfz175_5 := Zf BK726.out 5
            have hfz175_6 := Zf BK726.out 6
            have hnb176 := NB746_725.out
            have hnc176 := NB725_746.out
            have hnb177 := NB746_755.out
            have hnc177 := NB755_746.out
            have hcz178_0 : wr.cell? ⟨gb746, 0, none⟩ = some (.string t738) := (Zc BK746.out 0).trans rfl
            have hcz178_1 : wr.cell? ⟨gb746, 1, none⟩ = some (.string t739) := (Zc BK746.out 1).trans rfl
            have hcz178_2 : wr.cell? ⟨gb746, 2, none⟩ = some (.int .i64 t740) := (Zc BK746.out 2).trans rfl
            have hcz178_3 : wr.cell? ⟨gb746, 3, none⟩ = some (.int .i64 t741) := (Zc BK746.out 3).trans rfl
            have hcz178_4 : wr.cell? ⟨gb746, 4, none⟩ = some (.int .i64 t742) := (Zc BK746.out 4).trans rfl
            have hcz178_5 : wr.cell? ⟨gb746, 5, none⟩ = some (.int .i64 t743) := (Zc BK746.out 5).trans rfl
            have hcz178_6 : wr.cell? ⟨gb746, 6, none⟩ = some (.bool t744) := (Zc BK746.out 6).trans rfl
            have hfz178_0 := Zf BK746.out 0
            have hfz178_1 := Zf BK746.out 1
            have hfz178_2 := Zf BK746.out 2
            have hfz178_3 := Zf BK746.out 3
            have hfz178_4 := Zf BK746.out 4
            have hfz178_5 := Zf BK746.out 5
            have hfz178_6 := Zf BK746.out 6
            go_wp2_with (first | (go_at_call 20; (with_reducible refine (saga_Live.calls a1_0 a1_1 a1_2 a1_3 a1_4 a1_5 a1_6 false _ A150.out).mono ?_); rintro e w179 ⟨rfl, hb⟩; have n0_ := Aside0.mk (Kd.R_below (by (with_reducible repeat (first | apply Kd.R_alloc | apply Kd.R_drewN | apply Kd.R_drew)); exact HO_20.out) hb); have n1_ := Aside0.mk (Zb (g := gb725) (o := .cells #[.string a0_0, .slice A0_1 l0_1.length c0_1] 24 (0, 0)) (by repeat (first | (with_reducible first | exact BK725.out | refine Zn ?_ _ | refine Zd ?_ | refine Za ?_ _))) hb); have n2_ := Aside0.mk (Zb (g := gb726) (o := .cells #[.string a1_0, .string a1_1, .int .i64 a1_2, .int .i64 a1_3, .int .i64 a1_4, .int .i64 a1_5, .bool a1_6] 26 (0, 0)) (by repeat (first | (with_reducible first | exact BK726.out | refine Zn ?_ _ | refine Zd ?_ | refine Za ?_ _))) hb); have n3_ := Aside0.mk (Zb (g := gb737) (o := .cells #[.string t729, .string t730, .int .i64 t731, .int .i64 t732, .int .i64 t733, .int .i64 t734, .bool t735] 26 (0, 0)) (by repeat (first | (with_reducible first | exact BK737.out | refine Zn ?_ _ | refine Zd ?_ | refine Za ?_ _))) hb); have n4_ := Aside0.mk (Zb (g := gb746) (o := .cells #[.string t738, .string t739, .int .i64 t740, .int .i64 t741, .int .i64 t742, .int .i64 t743, .bool t744] 26 (0, 0)) (by repeat (first | (with_reducible first | exact BK746.out | refine Zn ?_ _ | refine Zd ?_ | refine Za ?_ _))) hb); have n5_ := Aside0.mk (Zb (g := gb755) (o := .cells #[.string t747, .string t748, .int .i64 t749, .int .i64 t750, .int .i64 t751, .int .i64 t752, .bool t753] 26 (0, 0)) (by repeat (first | (with_reducible first | exact BK755.out | refine Zn ?_ _ | refine Zd ?_ | refine Za ?_ _))) hb); have n6_ := Aside0.mk (Yt (by repeat (first | (with_reducible first | exact HB.out | apply Ya | apply Yn | apply Yd | refine Ys ?_ GE725.out | refine Ys ?_ GE726.out | refine Ys ?_ GE737.out | refine Ys ?_ GE746.out | refine Ys ?_ GE755.out) | exact HB.out)) hb); clear HO_20; clear BK725; clear BK726; clear BK737; clear BK746; clear BK755; clear HB; have HO_20 := n0_; have BK725 := n1_; have BK726 := n2_; have BK737 := n3_; have BK746 := n4_; have BK755 := n5_; have HB := n6_; clear n0_ n1_ n2_ n3_ n4_ n5_ n6_; (try clear hb); (try clear hb2); (try clear hk); (try clear hi)))
            go_ret
            exact ⟨by first | rfl | (simp [errW_none, errW_some] <;> rfl) | (simp [*, errW_none, errW_some] <;> rfl), by repeat (first | (with_reducible first | exact HB.out | apply Ya | apply Yn | apply Yd | refine Ys ?_ GE725.out | refine Ys ?_ GE726.out | refine Ys ?_ GE737.out | refine Ys ?_ GE746.out | refine Ys ?_ GE755.out) | exact HB.out)⟩
          ·
           replace c149 := Bool.eq_false_iff.mpr c149
           subst c149
           have H1 : (if (t747.toList == a1_0.toList && (t748.toList == a1_1.toList && (t749 == a1_2 && (t750 == a1_3 && (t751 == a1_4 && (t752 == a1_5 && (t753 == a1_6))))))) = true then ((saga_Live.f a1_0 a1_1 a1_2 a1_3 a1_4 a1_5 a1_6).bind fun t770 => (if t770 = true then (some true) else (some (!false)))) else (some false)) = some r := by rw [if_neg (show ¬ (false = true) by decide)] at H; exact H
           clear H
           have H := H1
           clear H1
           by_cases c180 : (t747.toList == a1_0.toList && (t748.toList == a1_1.toList && (t749 == a1_2 && (t750 == a1_3 && (t751 == a1_4 && (t752 == a1_5 && (t753 == a1_6))))))) = true
           ·
            rw [if_pos c180] at H
            have c180b0 : (t747.toList == a1_0.toList && (t748.toList == a1_1.toList && (t749 == a1_2 && (t750 == a1_3 && (t751 == a1_4 && (t752 == a1_5 && (t753 == a1_6))))))) = true := c180
            (try (have c180b1 : decide (t747.toList = a1_0.toList && (t748.toList == a1_1.toList && (t749 == a1_2 && (t750 == a1_3 && (t751 == a1_4 && (t752 == a1_5 && (t753 == a1_6))))))) = true := by simpa using c180))
            (try (have c180b2 : (t747.toList == a1_0.toList && (t748.toList == a1_1.toList && (t749 == a1_2 && (t750 == a1_3 && (t751 == a1_4 && (t752 == a1_5 && (t753 == a1_6))))))) = true := by simpa using c180))
            clear c180
            replace H := Option.bind_eq_some_iff.mp H
            obtain ⟨t770, A1810, H⟩ := H
            replace H : (if t770 = true then (some true) else (some (!false))) = some r := H
            have A181 := Aside0.mk A1810
            clear A1810
            by_cases c182 : t770 = true
            ·
             subst c182
             have H1 : (some true) = some r := by rw [if_pos rfl] at H; exact H
             clear H
             have H := H1
             clear H1
             obtain rfl := Option.some.inj H
             obtain ⟨Ao183, co183, eo183⟩ := Kd.R_slice HO_20.out
             subst eo183
             have hnb184 := NB737_725.out
             have hnc184 := NB725_737.out
             have hnb185 := NB737_726.out
             have hnc185 := NB726_737.out
             have hnb186 := NB737_746.out
             have hnc186 := NB746_737.out
             have hnb187 := NB737_755.out
             have hnc187 := NB755_737.out
             have hcz188_0 : wr.cell? ⟨gb737, 0, none⟩ = some (.string t729) := (Zc BK737.out 0).trans rfl
             have hcz188_1 : wr.cell? ⟨gb737, 1, none⟩ = some (.string t730) := (Zc BK737.out 1).trans rfl
             have hcz188_2 : wr.cell? ⟨gb737, 2, none⟩ = some (.int .i64 t731) := (Zc BK737.out 2).trans rfl
             have hcz188_3 : wr.cell? ⟨gb737, 3, none⟩ = some (.int .i64 t732) := (Zc BK737.out 3).trans rfl
             have hcz188_4 : wr.cell? ⟨gb737, 4, none⟩ = some (.int .i64 t733) := (Zc BK737.out 4).trans rfl
             have hcz188_5 : wr.cell? ⟨gb737, 5, none⟩ = some (.int .i64 t734) := (Zc BK737.out 5).trans rfl
             have hcz188_6 : wr.cell? ⟨gb737, 6, none⟩ = some (.bool t735) := (Zc BK737.out 6).trans rfl
             have hfz188_0 := Zf BK737.out 0
             have hfz188_1 := Zf BK737.out 1
             have hfz188_2 := Zf BK737.out 2
             have hfz188_3 := Zf BK737.out 3
             have hfz188_4 := Zf BK737.out 4
             have hfz188_5 := Zf BK737.out 5
             have hfz188_6 := Zf BK737.out 6
             have hnb189 := NB726_725.out
             have hnc189 := NB725_726.out
             have hnb190 := NB726_746.out
             have hnc190 := NB746_726.out
             have hnb191 := NB726_755.out
             have hnc191 := NB755_726.out
             have hcz192_0 : wr.cell? ⟨gb726, 0, none⟩ = some (.string a1_0) := (Zc BK726.out 0).trans rfl
             have hcz192_1 : wr.cell? ⟨gb726, 1, none⟩ = some (.string a1_1) := (Zc BK726.out 1).trans rfl
             have hcz192_2 : wr.cell? ⟨gb726, 2, none⟩ = some (.int .i64 a1_2) := (Zc BK726.out 2).trans rfl
             have hcz192_3 : wr.cell? ⟨gb726, 3, none⟩ = some (.int .i64 a1_3) := (Zc BK726.out 3).trans rfl
             have hcz192_4 : wr.cell? ⟨gb726, 4, none⟩ = some (.int .i64 a1_4) := (Zc BK726.out 4).trans rfl
             have hcz192_5 : wr.cell? ⟨gb726, 5, none⟩ = some (.int .i64 a1_5) := (Zc BK726.out 5).trans rfl
             have hcz192_6 : wr.cell? ⟨gb726, 6, none⟩ = some (.bool a1_6) := (Zc BK726.out 6).trans rfl
             have hfz192_0 := Zf BK726.out 0
             have hfz192_1 := Zf BK726.out 1
             have hfz192_2 := Zf BK726.out 2
             have hfz192_3 := Zf BK726.out 3
             have hfz192_4 := Zf BK726.out 4
             have hfz192_5 := Zf BK726.out 5
             have hfz192_6 := Zf BK726.out 6
             have hnb193 := NB746_725.out
             have hnc193 := NB725_746.out
             have hnb194 := NB746_755.out
             have hnc194 := NB755_746.out
             have hcz195_0 : wr.cell? ⟨gb746, 0, none⟩ = some (.string t738) := (Zc BK746.out 0).trans rfl
             have hcz195_1 : wr.cell? ⟨gb746, 1, none⟩ = some (.string t739) := (Zc BK746.out 1).trans rfl
             have hcz195_2 : wr.cell? ⟨gb746, 2, none⟩ = some (.int .i64 t740) := (Zc BK746.out 2).trans rfl
             have hcz195_3 : wr.cell? ⟨gb746, 3, none⟩ = some (.int .i64 t741) := (Zc BK746.out 3).trans rfl
             have hcz195_4 : wr.cell? ⟨gb746, 4, none⟩ = some (.int .i64 t742) := (Zc BK746.out 4).trans rfl
             have hcz195_5 : wr.cell? ⟨gb746, 5, none⟩ = some (.int .i64 t743) := (Zc BK746.out 5).trans rfl
             have hcz195_6 : wr.cell? ⟨gb746, 6, none⟩ = some (.bool t744) := (Zc BK746.out 6).trans rfl
             have hfz195_0 := Zf BK746.out 0
             have hfz195_1 := Zf BK746.out 1
             have hfz195_2 := Zf BK746.out 2
             have hfz195_3 := Zf BK746.out 3
             have hfz195_4 := Zf BK746.out 4
             have hfz195_5 := Zf BK746.out 5
             have hfz195_6 := Zf BK746.out 6
             have hnb196 := NB755_725.out
             have hnc196 := NB725_755.out
             have hcz197_0 : wr.cell? ⟨gb755, 0, none⟩ = some (.string t747) := (Zc BK755.out 0).trans rfl
             have hcz197_1 : wr.cell? ⟨gb755, 1, none⟩ = some (.string t748) := (Zc BK755.out 1).trans rfl
             have hcz197_2 : wr.cell? ⟨gb755, 2, none⟩ = some (.int .i64 t749) := (Zc BK755.out 2).trans rfl
             have hcz197_3 : wr.cell? ⟨gb755, 3, none⟩ = some (.int .i64 t750) := (Zc BK755.out 3).trans rfl
             have hcz197_4 : wr.cell? ⟨gb755, 4, none⟩ = some (.int .i64 t751) := (Zc BK755.out 4).trans rfl
             have hcz197_5 : wr.cell? ⟨gb755, 5, none⟩ = some (.int .i64 t752) := (Zc BK755.out 5).trans rfl
             have hcz197_6 : wr.cell? ⟨gb755, 6, none⟩ = some (.bool t753) := (Zc BK755.out 6).trans rfl
             have hfz197_0 := Zf BK755.out 0
             have hfz197_1 := Zf BK755.out 1
             have hfz197_2 := Zf BK755.out 2
             have hfz197_3 := Zf BK755.out 3
             have hfz197_4 := Zf BK755.out 4
             have hfz197_5 := Zf BK755.out 5
             have hfz197_6 := Zf BK755.out 6
             go_wp2_with (first | (go_at_call 20; (with_reducible refine (saga_Live.calls a1_0 a1_1 a1_2 a1_3 a1_4 a1_5 a1_6 true _ A181.out).mono ?_); rintro e w198 ⟨rfl, hb⟩; have n0_ := Aside0.mk (Kd.R_below (by (with_reducible repeat (first | apply Kd.R_alloc | apply Kd.R_drewN | apply Kd.R_drew)); exact HO_20.out) hb); have n1_ := Aside0.mk (Zb (g := gb725) (o := .cells #[.string a0_0, .slice A0_1 l0_1.length c0_1] 24 (0, 0)) (by repeat (first | (with_reducible first | exact BK725.out | refine Zn ?_ _ | refine Zd ?_ | refine Za ?_ _))) hb); have n2_ := Aside0.mk (Zb (g := gb726) (o := .cells #[.string a1_0, .string a1_1, .int .i64 a1_2, .int .i64 a1_3, .int .i64 a1_4, .int .i64 a1_5, .bool a1_6] 26 (0, 0)) (by repeat (first | (with_reducible first | exact BK726.out | refine Zn ?_ _ | refine Zd ?_ | refine Za ?_ _))) hb); have n3_ := Aside0.mk (Zb (g := gb737) (o := .cells #[.string t729, .string t730, .int .i64 t731, .int .i64 t732, .int .i64 t733, .int .i64 t734, .bool t735] 26 (0, 0)) (by repeat (first | (with_reducible first | exact BK737.out | refine Zn ?_ _ | refine Zd ?_ | refine Za ?_ _))) hb); have n4_ := Aside0.mk (Zb (g := gb746) (o := .cells #[.string t738, .string t739, .int .i64 t740, .int .i64 t741, .int .i64 t742, .int .i64 t743, .bool t744] 26 (0, 0)) (by repeat (first | (with_reducible first | exact BK746.out | refine Zn ?_ _ | refine Zd ?_ | refine Za ?_ _))) hb); have n5_ := Aside0.mk (Zb (g := gb755) (o := .cells #[.string t747, .string t748, .int .i64 t749, .int .i64 t750, .int .i64 t751, .int .i64 t752, .bool t753] 26 (0, 0)) (by repeat (first | (with_reducible first | exact BK755.out | refine Zn ?_ _ | refine Zd ?_ | refine Za ?_ _))) hb); have n6_ := Aside0.mk (Yt (by repeat (first | (with_reducible first | exact HB.out | apply Ya | apply Yn | apply Yd | refine Ys ?_ GE725.out | refine Ys ?_ GE726.out | refine Ys ?_ GE737.out | refine Ys ?_ GE746.out | refine Ys ?_ GE755.out) | exact HB.out)) hb); clear HO_20; clear BK725; clear BK726; clear BK737; clear BK746; clear BK755; clear HB; have HO_20 := n0_; have BK725 := n1_; have BK726 := n2_; have BK737 := n3_; have BK746 := n4_; have BK755 := n5_; have HB := n6_; clear n0_ n1_ n2_ n3_ n4_ n5_ n6_; (try clear hb); (try clear hb2); (try clear hk); (try clear hi)))
             go_ret
             exact ⟨by first | rfl | (simp [errW_none, errW_some] <;> rfl) | (simp [*, errW_none, errW_some] <;> rfl), by repeat (first | (with_reducible first | exact HB.out | apply Ya | apply Yn | apply Yd | refine Ys ?_ GE725.out | refine Ys ?_ GE726.out | refine Ys ?_ GE737.out | refine Ys ?_ GE746.out | refine Ys ?_ GE755.out) | exact HB.out)⟩
            ·
             replace c182 := Bool.eq_false_iff.mpr c182
             subst c182
             have H1 : (some (!false)) = some r := by rw [if_neg (show ¬ (false = true) by decide)] at H; exact H
             clear H
             have H := H1
             clear H1
             obtain rfl := Option.some.inj H
             obtain ⟨Ao199, co199, eo199⟩ := Kd.R_slice HO_20.out
             subst eo199
             have hnb200 := NB737_725.out
             have hnc200 := NB725_737.out
             have hnb201 := NB737_726.out
             have hnc201 := NB726_737.out
             have hnb202 := NB737_746.out
             have hnc202 := NB746_737.out
             have hnb203 := NB737_755.out
             have hnc203 := NB755_737.out
             have hcz204_0 : wr.cell? ⟨gb737, 0, none⟩ = some (.string t729) := (Zc BK737.out 0).trans rfl
             have hcz204_1 : wr.cell? ⟨gb737, 1, none⟩ = some (.string t730) := (Zc BK737.out 1).trans rfl
             have hcz204_2 : wr.cell? ⟨gb737, 2, none⟩ = some (.int .i64 t731) := (Zc BK737.out 2).trans rfl
             have hcz204_3 : wr.cell? ⟨gb737, 3, none⟩ = some (.int .i64 t732) := (Zc BK737.out 3).trans rfl
             have hcz204_4 : wr.cell? ⟨gb737, 4, none⟩ = some (.int .i64 t733) := (Zc BK737.out 4).trans rfl
             have hcz204_5 : wr.cell? ⟨gb737, 5, none⟩ = some (.int .i64 t734) := (Zc BK737.out 5).trans rfl
             have hcz204_6 : wr.cell? ⟨gb737, 6, none⟩ = some (.bool t735) := (Zc BK737.out 6).trans rfl
             have hfz204_0 := Zf BK737.out 0
             have hfz204_1 := Zf BK737.out 1
             have hfz204_2 := Zf BK737.out 2
             have hfz204_3 := Zf BK737.out 3
             have hfz204_4 := Zf BK737.out 4
             have hfz204_5 := Zf BK737.out 5
             have hfz204_6 := Zf BK737.out 6
             have hnb205 := NB726_725.out
             have hnc205 := NB725_726.out
             have hnb206 := NB726_746.out
             have hnc206 := NB746_726.out
             have hnb207 := NB726_755.out
             have hnc207 := NB755_726.out
             have hcz208_0 : wr.cell? ⟨gb726, 0, none⟩ = some (.string a1_0) := (Zc BK726.out 0).trans rfl
             have hcz208_1 : wr.cell? ⟨gb726, 1, none⟩ = some (.string a1_1) := (Zc BK726.out 1).trans rfl
             have hcz208_2 : wr.cell? ⟨gb726, 2, none⟩ = some (.int .i64 a1_2) := (Zc BK726.out 2).trans rfl
             have hcz208_3 : wr.cell? ⟨gb726, 3, none⟩ = some (.int .i64 a1_3) := (Zc BK726.out 3).trans rfl
             have hcz208_4 : wr.cell? ⟨gb726, 4, none⟩ = some (.int .i64 a1_4) := (Zc BK726.out 4).trans rfl
             have hcz208_5 : wr.cell? ⟨gb726, 5, none⟩ = some (.int .i64 a1_5) := (Zc BK726.out 5).trans rfl
             have hcz208_6 : wr.cell? ⟨gb726, 6, none⟩ = some (.bool a1_6) := (Zc BK726.out 6).trans rfl
             have hfz208_0 := Zf BK726.out 0
             have hfz208_1 := Zf BK726.out 1
             have hfz208_2 := Zf BK726.out 2
             have hfz208_3 := Zf BK726.out 3
             have hfz208_4 := Zf BK726.out 4
             have hfz208_5 := Zf BK726.out 5
             have hfz208_6 := Zf BK726.out 6
             have hnb209 := NB746_725.out
             have hnc209 := NB725_746.out
             have hnb210 := NB746_755.out
             have hnc210 := NB755_746.out
             have hcz211_0 : wr.cell? ⟨gb746, 0, none⟩ = some (.string t738) := (Zc BK746.out 0).trans rfl
             have hcz211_1 : wr.cell? ⟨gb746, 1, none⟩ = some (.string t739) := (Zc BK746.out 1).trans rfl
             have hcz211_2 : wr.cell? ⟨gb746, 2, none⟩ = some (.int .i64 t740) := (Zc BK746.out 2).trans rfl
             have hcz211_3 : wr.cell? ⟨gb746, 3, none⟩ = some (.int .i64 t741) := (Zc BK746.out 3).trans rfl
             have hcz211_4 : wr.cell? ⟨gb746, 4, none⟩ = some (.int .i64 t742) := (Zc BK746.out 4).trans rfl
             have hcz211_5 : wr.cell? ⟨gb746, 5, none⟩ = some (.int .i64 t743) := (Zc BK746.out 5).trans rfl
             have hcz211_6 : wr.cell? ⟨gb746, 6, none⟩ = some (.bool t744) := (Zc BK746.out 6).trans rfl
             have hfz211_0 := Zf BK746.out 0
             have hfz211_1 := Zf BK746.out 1
             have hfz211_2 := Zf BK746.out 2
             have hfz211_3 := Zf BK746.out 3
             have hfz211_4 := Zf BK746.out 4
             have hfz211_5 := Zf BK746.out 5
             have hfz211_6 := Zf BK746.out 6
             have hnb212 := NB755_725.out
             have hnc212 := NB725_755.out
             have hcz213_0 : wr.cell? ⟨gb755, 0, none⟩ = some (.string t747) := (Zc BK755.out 0).trans rfl
             have hcz213_1 : wr.cell? ⟨gb755, 1, none⟩ = some (.string t748) := (Zc BK755.out 1).trans rfl
             have hcz213_2 : wr.cell? ⟨gb755, 2, none⟩ = some (.int .i64 t749) := (Zc BK755.out 2).trans rfl
             have hcz213_3 : wr.cell? ⟨gb755, 3, none⟩ = some (.int .i64 t750) := (Zc BK755.out 3).trans rfl
             have hcz213_4 : wr.cell? ⟨gb755, 4, none⟩ = some (.int .i64 t751) := (Zc BK755.out 4).trans rfl
             have hcz213_5 : wr.cell? ⟨gb755, 5, none⟩ = some (.int .i64 t752) := (Zc BK755.out 5).trans rfl
             have hcz213_6 : wr.cell? ⟨gb755, 6, none⟩ = some (.bool t753) := (Zc BK755.out 6).trans rfl
             have hfz213_0 := Zf BK755.out 0
             have hfz213_1 := Zf BK755.out 1
             have hfz213_2 := Zf BK755.out 2
             have hfz213_3 := Zf BK755.out 3
             have hfz213_4 := Zf BK755.out 4
             have hfz213_5 := Zf BK755.out 5
             have hfz213_6 := Zf BK755.out 6
             go_wp2_with (first | (go_at_call 20; (with_reducible refine (saga_Live.calls a1_0 a1_1 a1_2 a1_3 a1_4 a1_5 a1_6 false _ A181.out).mono ?_); rintro e w214 ⟨rfl, hb⟩; have n0_ := Aside0.mk (Kd.R_below (by (with_reducible repeat (first | apply Kd.R_alloc | apply Kd.R_drewN | apply Kd.R_drew)); exact HO_20.out) hb); have n1_ := Aside0.mk (Zb (g := gb725) (o := .cells #[.string a0_0, .slice A0_1 l0_1.length c0_1] 24 (0, 0)) (by repeat (first | (with_reducible first | exact BK725.out | refine Zn ?_ _ | refine Zd ?_ | refine Za ?_ _))) hb); have n2_ := Aside0.mk (Zb (g := gb726) (o := .cells #[.string a1_0, .string a1_1, .int .i64 a1_2, .int .i64 a1_3, .int .i64 a1_4, .int .i64 a1_5, .bool a1_6] 26 (0, 0)) (by repeat (first | (with_reducible first | exact BK726.out | refine Zn ?_ _ | refine Zd ?_ | refine Za ?_ _))) hb); have n3_ := Aside0.mk (Zb (g := gb737) (o := .cells #[.string t729, .string t730, .int .i64 t731, .int .i64 t732, .int .i64 t733, .int .i64 t734, .bool t735] 26 (0, 0)) (by repeat (first | (with_reducible first | exact BK737.out | refine Zn ?_ _ | refine Zd ?_ | refine Za ?_ _))) hb); have n4_ := Aside0.mk (Zb (g := gb746) (o := .cells #[.string t738, .string t739, .int .i64 t740, .int .i64 t741, .int .i64 t742, .int .i64 t743, .bool t744] 26 (0, 0)) (by repeat (first | (with_reducible first | exact BK746.out | refine Zn ?_ _ | refine Zd ?_ | refine Za ?_ _))) hb); have n5_ := Aside0.mk (Zb (g := gb755) (o := .cells #[.string t747, .string t748, .int .i64 t749, .int .i64 t750, .int .i64 t751, .int .i64 t752, .bool t753] 26 (0, 0)) (by repeat (first | (with_reducible first | exact BK755.out | refine Zn ?_ _ | refine Zd ?_ | refine Za ?_ _))) hb); have n6_ := Aside0.mk (Yt (by repeat (first | (with_reducible first | exact HB.out | apply Ya | apply Yn | apply Yd | refine Ys ?_ GE725.out | refine Ys ?_ GE726.out | refine Ys ?_ GE737.out | refine Ys ?_ GE746.out | refine Ys ?_ GE755.out) | exact HB.out)) hb); clear HO_20; clear BK725; clear BK726; clear BK737; clear BK746; clear BK755; clear HB; have HO_20 := n0_; have BK725 := n1_; have BK726 := n2_; have BK737 := n3_; have BK746 := n4_; have BK755 := n5_; have HB := n6_; clear n0_ n1_ n2_ n3_ n4_ n5_ n6_; (try clear hb); (try clear hb2); (try clear hk); (try clear hi)))
             go_ret
             exact ⟨by first | rfl | (simp [errW_none, errW_some] <;> rfl) | (simp [*, errW_none, errW_some] <;> rfl), by repeat (first | (with_reducible first | exact HB.out | apply Ya | apply Yn | apply Yd | refine Ys ?_ GE725.out | refine Ys ?_ GE726.out | refine Ys ?_ GE737.out | refine Ys ?_ GE746.out | refine Ys ?_ GE755.out) | exact HB.out)⟩
           ·
            rw [if_neg c180] at H
            have c180b0 : (t747.toList == a1_0.toList && (t748.toList == a1_1.toList && (t749 == a1_2 && (t750 == a1_3 && (t751 == a1_4 && (t752 == a1_5 && (t753 == a1_6))))))) = false := by simpa using c180
            (try (have c180b1 : decide (t747.toList = a1_0.toList && (t748.toList == a1_1.toList && (t749 == a1_2 && (t750 == a1_3 && (t751 == a1_4 && (t752 == a1_5 && (t753 == a1_6))))))) = false := by simpa using c180))
            (try (have c180b2 : (t747.toList == a1_0.toList && (t748.toList == a1_1.toList && (t749 == a1_2 && (t750 == a1_3 && (t751 == a1_4 && (t752 == a1_5 && (t753 == a1_6))))))) = false := by simpa using c180))
            (try (have c180b3 : ¬ (t747.toList = a1_0.toList && (t748.toList == a1_1.toList && (t749 == a1_2 && (t750 == a1_3 && (t751 == a1_4 && (t752 == a1_5 && (t753 == a1_6))))))) := by simpa using c180))
            clear c180
            exact absurd ((Option.some.inj H).trans HRT_.out) (by decide)
         ·
          rw [if_neg c148] at H
          have c148b0 : (t738.toList == a1_0.toList && (t739.toList == a1_1.toList && (t740 == a1_2 && (t741 == a1_3 && (t742 == a1_4 && (t743 == a1_5 && (t744 == a1_6))))))) = false := by simpa using c148
          (try (have c148b1 : decide (t738.toList = a1_0.toList && (t739.toList == a1_1.toList && (t740 == a1_2 && (t741 == a1_3 && (t742 == a1_4 && (t743 == a1_5 && (t744 == a1_6))))))) = false := by simpa using c148))
          (try (have c148b2 : (t738.toList == a1_0.toList && (t739.toList == a1_1.toList && (t740 == a1_2 && (t741 == a1_3 && (t742 == a1_4 && (t743 == a1_5 && (t744 == a1_6))))))) = false := by simpa using c148))
          (try (have c148b3 : ¬ (t738.toList = a1_0.toList && (t739.toList == a1_1.toList && (t740 == a1_2 && (t741 == a1_3 && (t742 == a1_4 && (t743 == a1_5 && (t744 == a1_6))))))) := by simpa using c148))
          clear c148
          exact absurd ((Option.some.inj H).trans HRT_.out) (by decide)
       ·
        rw [if_neg c115] at H
        have c115b0 : (t729.toList == a1_0.toList && (t730.toList == a1_1.toList && (t731 == a1_2 && (t732 == a1_3 && (t733 == a1_4 && (t734 == a1_5 && (t735 == a1_6))))))) = false := by simpa using c115
        (try (have c115b1 : decide (t729.toList = a1_0.toList && (t730.toList == a1_1.toList && (t731 == a1_2 && (t732 == a1_3 && (t733 == a1_4 && (t734 == a1_5 && (t735 == a1_6))))))) = false := by simpa using c115))
        (try (have c115b2 : (t729.toList == a1_0.toList && (t730.toList == a1_1.toList && (t731 == a1_2 && (t732 == a1_3 && (t733 == a1_4 && (t734 == a1_5 && (t735 == a1_6))))))) = false := by simpa using c115))
        (try (have c115b3 : ¬ (t729.toList = a1_0.toList && (t730.toList == a1_1.toList && (t731 == a1_2 && (t732 == a1_3 && (t733 == a1_4 && (t734 == a1_5 && (t735 == a1_6))))))) := by simpa using c115))
        clear c115
        exact absurd ((Option.some.inj H).trans HRT_.out) (by decide)
     ·
      replace c56 := Bool.eq_false_iff.mpr c56
      subst c56
      have H1 : (some false) = some r := by rw [if_neg (show ¬ (false = true) by decide)] at H; exact H
      clear H
      have H := H1
      clear H1
      exact absurd ((Option.some.inj H).trans HRT_.out) (by decide)
 ·
  replace c9 := Bool.eq_false_iff.mpr c9
  subst c9
  have H1 : (some t727) = some r := by rw [if_neg (show ¬ (false = true) by decide)] at H; exact H
  clear H
  have H := H1
  clear H1
  obtain rfl := Option.some.inj H
  go_enter Try.func12, Try.ntmps12
  go_wp2_with (first | ((with_reducible refine gate_dst (N := 6) rfl ?_); refine box_event ?hg (N := 6) ?hd (cs := #[.string a0_0, .slice A0_1 l0_1.length c0_1]) (t := 24) ?hr ?_; (case hd => rfl); (case hg => rfl); (case hr => first | (go_simp; done) | (go_simp; rfl)); intro gb725 hg w215 hbox hb; have n0_ := Aside0.mk (Yt (by repeat (first | (with_reducible first | exact HB.out | apply Ya | apply Yn | apply Yd) | exact HB.out)) hb); have n1_ := Aside0.mk (hbox); have n2_ := Aside0.mk ((by rw [hg]; exact (below_size (by repeat (first | (with_reducible first | exact HB.out | apply Ya | apply Yn | apply Yd) | exact HB.out))) : w.heap.size ≤ gb725)); have n3_ := Aside0.mk ((by rw [hg]; exact (below_size (by repeat (first | (with_reducible first | exact HB.out | apply Ya | apply Yn | apply Yd) | exact HB.out))) : w.heap.size ≤ gb725)); clear HB; have HB := n0_; have BK725 := n1_; have GW725 := n2_; have GE725 := n3_; clear n0_ n1_ n2_ n3_; clear hb hbox hg) | ((with_reducible refine gate_dst (N := 7) rfl ?_); refine box_event ?hg (N := 7) ?hd (cs := #[.string a1_0, .string a1_1, .int .i64 a1_2, .int .i64 a1_3, .int .i64 a1_4, .int .i64 a1_5, .bool a1_6]) (t := 26) ?hr ?_; (case hd => rfl); (case hg => rfl); (case hr => first | (go_simp; done) | (go_simp; rfl)); intro gb726 hg w216 hbox hb; have n0_ := Aside0.mk (Zb (g := gb725) (o := .cells #[.string a0_0, .slice A0_1 l0_1.length c0_1] 24 (0, 0)) (by repeat (first | (with_reducible first | exact BK725.out | refine Zn ?_ _ | refine Zd ?_ | refine Za ?_ _))) hb); have n1_ := Aside0.mk (Yt (by repeat (first | (with_reducible first | exact HB.out | apply Ya | apply Yn | apply Yd | refine Ys ?_ GE725.out) | exact HB.out)) hb); have n2_ := Aside0.mk (hbox); have n3_ := Aside0.mk ((by rw [hg]; exact (below_size (by repeat (first | (with_reducible first | exact HB.out | apply Ya | apply Yn | apply Yd | refine Ys ?_ GE725.out) | exact HB.out))) : w.heap.size ≤ gb726)); have n4_ := Aside0.mk ((by rw [hg]; exact (below_size (by repeat (first | (with_reducible first | exact HB.out | apply Ya | apply Yn | apply Yd | refine Ys ?_ GE725.out) | exact HB.out))) : w.heap.size ≤ gb726)); have n5_ := Aside0.mk ((by rw [hg]; exact Nat.ne_of_lt (blk_lt (g := gb725) (o := .cells #[.string a0_0, .slice A0_1 l0_1.length c0_1] 24 (0, 0)) (by repeat (first | (with_reducible first | exact BK725.out | refine Zn ?_ _ | refine Zd ?_ | refine Za ?_ _)))) : gb725 ≠ gb726)); have n6_ := Aside0.mk ((by rw [hg]; exact Nat.ne_of_gt (blk_lt (g := gb725) (o := .cells #[.string a0_0, .slice A0_1 l0_1.length c0_1] 24 (0, 0)) (by repeat (first | (with_reducible first | exact BK725.out | refine Zn ?_ _ | refine Zd ?_ | refine Za ?_ _)))) : gb726 ≠ gb725)); clear BK725; clear HB; have BK725 := n0_; have HB := n1_; have BK726 := n2_; have GW726 := n3_; have GE726 := n4_; have NB725_726 := n5_; have NB726_725 := n6_; clear n0_ n1_ n2_ n3_ n4_ n5_ n6_; clear hb hbox hg) | ((with_reducible refine gate_callee (f := 13) rfl ?_); refine goesL_ (some 22) rfl rfl Try.func13 (by kernel_rfl) rfl #[] rfl (by (try simp only [List.map_toArray, List.map_cons, List.map_nil]); first | done | rfl | (simp only [List.length_drop, List.length_take]; rfl)) ?_; (with_reducible refine (palinodelaw19_examples.calls k  t727 _ A7.out).mono ?_); rintro e w217 ⟨rfl, hb⟩; refine ⟨_, rfl, ?_⟩; have n0_ := Aside0.mk (Zb (g := gb725) (o := .cells #[.string a0_0, .slice A0_1 l0_1.length c0_1] 24 (0, 0)) (by repeat (first | (with_reducible first | exact BK725.out | refine Zn ?_ _ | refine Zd ?_ | refine Za ?_ _))) hb); have n1_ := Aside0.mk (Zb (g := gb726) (o := .cells #[.string a1_0, .string a1_1, .int .i64 a1_2, .int .i64 a1_3, .int .i64 a1_4, .int .i64 a1_5, .bool a1_6] 26 (0, 0)) (by repeat (first | (with_reducible first | exact BK726.out | refine Zn ?_ _ | refine Zd ?_ | refine Za ?_ _))) hb); have n2_ := Aside0.mk (Yt (by repeat (first | (with_reducible first | exact HB.out | apply Ya | apply Yn | apply Yd | refine Ys ?_ GE725.out | refine Ys ?_ GE726.out) | exact HB.out)) hb); clear BK725; clear BK726; clear HB; have BK725 := n0_; have BK726 := n1_; have HB := n2_; clear n0_ n1_ n2_; (try clear hb); (try clear hb2); (try clear hk); (try clear hi); have hnb218 := NB725_726.out; have hnc218 := NB726_725.out; have hcz219_0 : w217.cell? ⟨gb725, 0, none⟩ = some (.string a0_0) := (Zc BK725.out 0).trans rfl; have hcz219_1 : w217.cell? ⟨gb725, 1, none⟩ = some (.slice A0_1 l0_1.length c0_1) := (Zc BK725.out 1).trans rfl; have hfz219_0 := Zf BK725.out 0; have hfz219_1 := Zf BK725.out 1; have hcz220_0 : w217.cell? ⟨gb726, 0, none⟩ = some (.string a1_0) := (Zc BK726.out 0).trans rfl; have hcz220_1 : w217.cell? ⟨gb726, 1, none⟩ = some (.string a1_1) := (Zc BK726.out 1).trans rfl; have hcz220_2 : w217.cell? ⟨gb726, 2, none⟩ = some (.int .i64 a1_2) := (Zc BK726.out 2).trans rfl; have hcz220_3 : w217.cell? ⟨gb726, 3, none⟩ = some (.int .i64 a1_3) := (Zc BK726.out 3).trans rfl; have hcz220_4 : w217.cell? ⟨gb726, 4, none⟩ = some (.int .i64 a1_4) := (Zc BK726.out 4).trans rfl; have hcz220_5 : w217.cell? ⟨gb726, 5, none⟩ = some (.int .i64 a1_5) := (Zc BK726.out 5).trans rfl; have hcz220_6 : w217.cell? ⟨gb726, 6, none⟩ = some (.bool a1_6) := (Zc BK726.out 6).trans rfl; have hfz220_0 := Zf BK726.out 0; have hfz220_1 := Zf BK726.out 1; have hfz220_2 := Zf BK726.out 2; have hfz220_3 := Zf BK726.out 3; have hfz220_4 := Zf BK726.out 4; have hfz220_5 := Zf BK726.out 5; have hfz220_6 := Zf BK726.out 6) | ((with_reducible refine gate_callee (f := 18) rfl ?_); refine goesL_ (some 25) rfl rfl Try.func18 (by kernel_rfl) rfl #[.agg #[.string a0_0, .slice A0_1 l0_1.length c0_1], .agg #[.string a1_0, .string a1_1, .int .i64 a1_2, .int .i64 a1_3, .int .i64 a1_4, .int .i64 a1_5, .bool a1_6]] rfl (by (try simp only [List.map_toArray, List.map_cons, List.map_nil]); first | done | rfl | (simp only [List.length_drop, List.length_take]; rfl)) ?_; (with_reducible refine (saga_Right.calls k a0_0 _ _ l0_1 a1_0 a1_1 a1_2 a1_3 a1_4 a1_5 a1_6 false _ ?side1 ?side2 A8.out).mono ?_); (case side1 => repeat (first | exact (Kd.C_below HR0_1.out HB.out) | (with_reducible refine Kd.C_alloc ?_ _) | (with_reducible refine Kd.C_drewN ?_ _) | (with_reducible refine Kd.C_drew ?_))); (case side2 => exact HC0_1.out); rintro e w221 ⟨rfl, hb⟩; refine ⟨_, rfl, ?_⟩; have n0_ := Aside0.mk (Zb (g := gb725) (o := .cells #[.string a0_0, .slice A0_1 l0_1.length c0_1] 24 (0, 0)) (by repeat (first | (with_reducible first | exact BK725.out | refine Zn ?_ _ | refine Zd ?_ | refine Za ?_ _))) hb); have n1_ := Aside0.mk (Zb (g := gb726) (o := .cells #[.string a1_0, .string a1_1, .int .i64 a1_2, .int .i64 a1_3, .int .i64 a1_4, .int .i64 a1_5, .bool a1_6] 26 (0, 0)) (by repeat (first | (with_reducible first | exact BK726.out | refine Zn ?_ _ | refine Zd ?_ | refine Za ?_ _))) hb); have n2_ := Aside0.mk (Yt (by repeat (first | (with_reducible first | exact HB.out | apply Ya | apply Yn | apply Yd | refine Ys ?_ GE725.out | refine Ys ?_ GE726.out) | exact HB.out)) hb); clear BK725; clear BK726; clear HB; have BK725 := n0_; have BK726 := n1_; have HB := n2_; clear n0_ n1_ n2_; (try clear hb); (try clear hb2); (try clear hk); (try clear hi)))
  go_ret
  exact ⟨by first | rfl | (simp [errW_none, errW_some] <;> rfl) | (simp [*, errW_none, errW_some] <;> rfl), by repeat (first | (with_reducible first | exact HB.out | apply Ya | apply Yn | apply Yd | refine Ys ?_ GE725.out | refine Ys ?_ GE726.out) | exact HB.out)⟩

/-- THE ONE PURE STATEMENT of palinodelaw19_SagaRight. -/
def palinodelaw19_SagaRight.Pure : Prop := (∀ k_ r_, palinodelaw19_examples.f k_ = some r_ → r_ = true) ∧ ∀ (a0_0 : ByteArray) (l0_1 : List (S53)) (a1_0 : ByteArray) (a1_1 : ByteArray) (a1_2 : Int) (a1_3 : Int) (a1_4 : Int) (a1_5 : Int) (a1_6 : Bool) (a2 : Int) (a3 : Int) (a4 : Int) (a5 : Int), a0_0.size ≤ 140737488351232 → (l0_1.length ≤ maxLen ∧ l0_1.length * 16 ≤ 140737488351232 ∧ ∀ x_ ∈ l0_1, V53 x_) → a1_0.size ≤ 140737488351232 → a1_1.size ≤ 140737488351232 → (Lit.int .i64 a1_2).wf = true → (Lit.int .i64 a1_3).wf = true → (Lit.int .i64 a1_4).wf = true → (Lit.int .i64 a1_5).wf = true → (Lit.int .i64 a2).wf = true → (Lit.int .i64 a3).wf = true → (Lit.int .i64 a4).wf = true → (Lit.int .i64 a5).wf = true → ∃ k, palinodelaw19_SagaRight.f k a0_0 l0_1 a1_0 a1_1 a1_2 a1_3 a1_4 a1_5 a1_6 a2 a3 a4 a5 = some true
theorem palinodelaw19_SagaRight.walk (P : palinodelaw19_SagaRight.Pure) (a0_0 : ByteArray) (A0_1 : Option Addr) (c0_1 : Nat) (l0_1 : List (S53)) (a1_0 : ByteArray) (a1_1 : ByteArray) (a1_2 : Int) (a1_3 : Int) (a1_4 : Int) (a1_5 : Int) (a1_6 : Bool) (a2 : Int) (a3 : Int) (a4 : Int) (a5 : Int) (w : World) (v0_0 : a0_0.size ≤ 140737488351232) (hr0_1 : Kd.C k53 w A0_1 l0_1.length l0_1) (hc0_1 : l0_1.length ≤ c0_1) (v0_1 : (l0_1.length ≤ maxLen ∧ l0_1.length * 16 ≤ 140737488351232 ∧ ∀ x_ ∈ l0_1, V53 x_)) (v1_0 : a1_0.size ≤ 140737488351232) (v1_1 : a1_1.size ≤ 140737488351232) (v1_2 : (Lit.int .i64 a1_2).wf = true) (v1_3 : (Lit.int .i64 a1_3).wf = true) (v1_4 : (Lit.int .i64 a1_4).wf = true) (v1_5 : (Lit.int .i64 a1_5).wf = true) (v2 : (Lit.int .i64 a2).wf = true) (v3 : (Lit.int .i64 a3).wf = true) (v4 : (Lit.int .i64 a4).wf = true) (v5 : (Lit.int .i64 a5).wf = true) :
  Calls Try.prog 12 #[.agg #[.string a0_0, .slice A0_1 l0_1.length c0_1], .agg #[.string a1_0, .string a1_1, .int .i64 a1_2, .int .i64 a1_3, .int .i64 a1_4, .int .i64 a1_5, .bool a1_6], .int .i64 a2, .int .i64 a3, .int .i64 a4, .int .i64 a5] w fun e w' => e = .returned (.bool true) ∧ Below w.heap.size w w' := by
 obtain ⟨k, h⟩ := P.2 a0_0 l0_1 a1_0 a1_1 a1_2 a1_3 a1_4 a1_5 a1_6 a2 a3 a4 a5 v0_0 v0_1 v1_0 v1_1 v1_2 v1_3 v1_4 v1_5 v2 v3 v4 v5
 refine (palinodelaw19_SagaRight.calls k a0_0 A0_1 c0_1 l0_1 a1_0 a1_1 a1_2 a1_3 a1_4 a1_5 a1_6 a2 a3 a4 a5 true w hr0_1 hc0_1 h ⟨P.1⟩).mono ?_
 rintro e w' ⟨rfl, hd⟩
 exact ⟨rfl, hd⟩

end Go.Proofs.Ytfhlpkcapohnoaa.Print
