-- Printed out of the translation by a program of this session's own. Not trusted: Lean checks it.
import Derived.Test.YtnmlnngmfagmfaaPrint0
import Derived.Test.YtnmlnngmfagmfaaXSet2
import Derived.Test.YtnmlnngmfagmfaaPrint2
import Derived.Test.YtnmlnngmfagmfaaPrint6
namespace Go.Proofs.Ytnmlnngmfagmfaa.Print
open Go.RowKit Go.Proofs.YtnmlnngmfagmfaaW.PrintWords Go.Proofs.YtnmlnngmfagmfaaW.PrintLast Go.Proofs.YtnmlnngmfagmfaaW.PrintMore Go.Proofs.YtnmlnngmfagmfaaX
attribute [local go_sem] max2_int min2_int max_two min_two max_three min_three max_four min_four   -- for this text's walks alone
set_option linter.unusedVariables false
set_option linter.unusedSimpArgs false
attribute [local go_sem] cell_set2

/-! ### palinodelaw18_DefineSpoils: function 6 -/
mutual
def palinodelaw18_DefineSpoils.j0 : Nat → Int → Int → Bool → Bool → ByteArray → List (S43) → Option (Bool)
 | 0, _, _, _, _, _, _ => none
 | k + 1, x1, x2, x7, x19, x258000, x258001 => if x19 = true then (some x7) else (if x1 < 0 then (palinodelaw18_DefineSpoils.j1 k (wrap64 (-(wrap64 (x1 + 1)))) x2 x7 x258000 x258001) else (palinodelaw18_DefineSpoils.j1 k x1 x2 x7 x258000 x258001))
def palinodelaw18_DefineSpoils.j1 : Nat → Int → Int → Bool → ByteArray → List (S43) → Option (Bool)
 | 0, _, _, _, _, _ => none
 | k + 1, x1, x2, x7, x258000, x258001 => if x2 < 0 then (palinodelaw18_DefineSpoils.j2 k x1 (wrap64 (-(wrap64 (x2 + 1)))) x7 x258000 x258001) else (palinodelaw18_DefineSpoils.j2 k x1 x2 x7 x258000 x258001)
def palinodelaw18_DefineSpoils.j2 : Nat → Int → Int → Bool → ByteArray → List (S43) → Option (Bool)
 | 0, _, _, _, _, _ => none
 | k + 1, x1, x2, x7, x258000, x258001 => if ([] : List (S43)).length + x258001.length < 8796093022208 then ((some (([] : List (S43)) ++ x258001 : List (S43))).bind fun y260 => (if (y260.length : Int) = 0 then (none) else (if (Int.tmod x2 6) = 0 then (if x258000.size + 1 ≤ 9223372036854775807 then (if x7 = true then ((define_Right.f k (x258000 ++ (⟨#[95]⟩ : ByteArray)) y260).bind fun t264 => (if t264 = true then (some false) else ((define_Tries.f k (x258000 ++ (⟨#[95]⟩ : ByteArray)) y260).bind fun t265 => (some (t265 == 0))))) else (some false)) else (none)) else (if (Int.tmod x2 6) = 1 then (if 0 ≤ (Int.tmod x1 (y260.length : Int)) then (if (Int.tmod x1 (y260.length : Int)) < (y260.length : Int) then ((some (y260.set ((Int.tmod x1 (y260.length : Int)) : Int).toNat (⟨6, (rd_T43 y260 (Int.tmod x1 (y260.length : Int))).f1⟩ : S43) : List (S43))).bind fun y266 => (if x7 = true then ((define_Right.f k x258000 y266).bind fun t267 => (if t267 = true then (some false) else ((define_Tries.f k x258000 y266).bind fun t268 => (some (t268 == 0))))) else (some false))) else (none)) else (none)) else (if (Int.tmod x2 6) = 2 then (if 0 ≤ (Int.tmod x1 (y260.length : Int)) then (if (Int.tmod x1 (y260.length : Int)) < (y260.length : Int) then ((some (y260.set ((Int.tmod x1 (y260.length : Int)) : Int).toNat (⟨(rd_T43 y260 (Int.tmod x1 (y260.length : Int))).f0, 0⟩ : S43) : List (S43))).bind fun y269 => (if x7 = true then ((define_Right.f k x258000 y269).bind fun t270 => (if t270 = true then (some false) else ((define_Tries.f k x258000 y269).bind fun t271 => (some (t271 == 0))))) else (some false))) else (none)) else (none)) else (if (Int.tmod x2 6) = 3 then (if 0 ≤ (Int.tmod x1 (y260.length : Int)) then (if (Int.tmod x1 (y260.length : Int)) < (y260.length : Int) then ((some (y260.set ((Int.tmod x1 (y260.length : Int)) : Int).toNat (⟨(rd_T43 y260 (Int.tmod x1 (y260.length : Int))).f0, 10001⟩ : S43) : List (S43))).bind fun y272 => (if x7 = true then ((define_Right.f k x258000 y272).bind fun t273 => (if t273 = true then (some false) else ((define_Tries.f k x258000 y272).bind fun t274 => (some (t274 == 0))))) else (some false))) else (none)) else (none)) else (if (Int.tmod x2 6) = 4 then (if x7 = true then ((define_Right.f k x258000 ([] : List (S43))).bind fun t275 => (if t275 = true then (some false) else ((define_Tries.f k x258000 ([] : List (S43))).bind fun t276 => (some (t276 == 0))))) else (some false)) else (if 0 ≤ (Int.tmod x1 (y260.length : Int)) then (if (Int.tmod x1 (y260.length : Int)) < (y260.length : Int) then ((some (y260.set ((Int.tmod x1 (y260.length : Int)) : Int).toNat (⟨(-1), (rd_T43 y260 (Int.tmod x1 (y260.length : Int))).f1⟩ : S43) : List (S43))).bind fun y277 => (if x7 = true then ((define_Right.f k x258000 y277).bind fun t278 => (if t278 = true then (some false) else ((define_Tries.f k x258000 y277).bind fun t279 => (some (t279 == 0))))) else (some false))) else (none)) else (none))))))))) else (none)
end
def palinodelaw18_DefineSpoils.f (k : Nat) (a0_0 : ByteArray) (l0_1 : List (S43)) (a1 : Int) (a2 : Int) : Option (Bool) := (palinodelaw18_examples.f k).bind fun t258 => ((define_Right.f k a0_0 l0_1).bind fun t259 => (if t259 = true then (palinodelaw18_DefineSpoils.j0 k a1 a2 t258 ((l0_1.length : Int) == 0) a0_0 l0_1) else (palinodelaw18_DefineSpoils.j0 k a1 a2 t258 true a0_0 l0_1)))
theorem palinodelaw18_DefineSpoils.mono_l : ∀ k, (∀ y0 y1 y2 y3 y4 y5, LeO (palinodelaw18_DefineSpoils.j0 k y0 y1 y2 y3 y4 y5) (palinodelaw18_DefineSpoils.j0 (k + 1) y0 y1 y2 y3 y4 y5)) ∧ (∀ y0 y1 y2 y3 y4, LeO (palinodelaw18_DefineSpoils.j1 k y0 y1 y2 y3 y4) (palinodelaw18_DefineSpoils.j1 (k + 1) y0 y1 y2 y3 y4)) ∧ (∀ y0 y1 y2 y3 y4, LeO (palinodelaw18_DefineSpoils.j2 k y0 y1 y2 y3 y4) (palinodelaw18_DefineSpoils.j2 (k + 1) y0 y1 y2 y3 y4))
 | 0 => ⟨fun _ _ _ _ _ _ r h => by simp [palinodelaw18_DefineSpoils.j0] at h, fun _ _ _ _ _ r h => by simp [palinodelaw18_DefineSpoils.j1] at h, fun _ _ _ _ _ r h => by simp [palinodelaw18_DefineSpoils.j2] at h⟩
 | k + 1 => by
  obtain ⟨ih0, ih1, ih2⟩ := palinodelaw18_DefineSpoils.mono_l k
  refine ⟨?_, ?_, ?_⟩
  ·
   intro y0 y1 y2 y3 y4 y5
   unfold palinodelaw18_DefineSpoils.j0
   repeat' first
   | (with_reducible exact ih0 _ _ _ _ _ _)
   | (with_reducible exact ih1 _ _ _ _ _)
   | (with_reducible exact ih2 _ _ _ _ _)
   | (with_reducible exact define_Right.mono _ _ _)
   | (with_reducible exact define_Tries.mono _ _ _)
   | (with_reducible exact palinodelaw18_examples.mono _)
   | (with_reducible exact LeO.refl _)
   | (with_reducible exact LeO.none _)
   | (with_reducible refine LeO.ite ?_ ?_)
   | (with_reducible refine LeO.bind ?_ (fun _ => ?_))
   | exact ih0 _ _ _ _ _ _
   | exact ih1 _ _ _ _ _
   | exact ih2 _ _ _ _ _
   | exact define_Right.mono _ _ _
   | exact define_Tries.mono _ _ _
   | exact palinodelaw18_examples.mono _
   | exact LeO.none _
   | refine LeO.ite ?_ ?_
   | refine LeO.bind ?_ (fun _ => ?_)
  ·
   intro y0 y1 y2 y3 y4
   unfold palinodelaw18_DefineSpoils.j1
   repeat' first
   | (with_reducible exact ih0 _ _ _ _ _ _)
   | (with_reducible exact ih1 _ _ _ _ _)
   | (with_reducible exact ih2 _ _ _ _ _)
   | (with_reducible exact define_Right.mono _ _ _)
   | (with_reducible exact define_Tries.mono _ _ _)
   | (with_reducible exact palinodelaw18_examples.mono _)
   | (with_reducible exact LeO.refl _)
   | (with_reducible exact LeO.none _)
   | (with_reducible refine LeO.ite ?_ ?_)
   | (with_reducible refine LeO.bind ?_ (fun _ => ?_))
   | exact ih0 _ _ _ _ _ _
   | exact ih1 _ _ _ _ _
   | exact ih2 _ _ _ _ _
   | exact define_Right.mono _ _ _
   | exact define_Tries.mono _ _ _
   | exact palinodelaw18_examples.mono _
   | exact LeO.none _
   | refine LeO.ite ?_ ?_
   | refine LeO.bind ?_ (fun _ => ?_)
  ·
   intro y0 y1 y2 y3 y4
   unfold palinodelaw18_DefineSpoils.j2
   repeat' first
   | (with_reducible exact ih0 _ _ _ _ _ _)
   | (with_reducible exact ih1 _ _ _ _ _)
   | (with_reducible exact ih2 _ _ _ _ _)
   | (with_reducible exact define_Right.mono _ _ _)
   | (with_reducible exact define_Tries.mono _ _ _)
   | (with_reducible exact palinodelaw18_examples.mono _)
   | (with_reducible exact LeO.refl _)
   | (with_reducible exact LeO.none _)
   | (with_reducible refine LeO.ite ?_ ?_)
   | (with_reducible refine LeO.bind ?_ (fun _ => ?_))
   | exact ih0 _ _ _ _ _ _
   | exact ih1 _ _ _ _ _
   | exact ih2 _ _ _ _ _
   | exact define_Right.mono _ _ _
   | exact define_Tries.mono _ _ _
   | exact palinodelaw18_examples.mono _
   | exact LeO.none _
   | refine LeO.ite ?_ ?_
   | refine LeO.bind ?_ (fun _ => ?_)
theorem palinodelaw18_DefineSpoils.mono : ∀ a0 a1 a2 a3 k, LeO (palinodelaw18_DefineSpoils.f k a0 a1 a2 a3) (palinodelaw18_DefineSpoils.f (k + 1) a0 a1 a2 a3) := by
 intro a0 a1 a2 a3 k
 obtain ⟨ih0, ih1, ih2⟩ := palinodelaw18_DefineSpoils.mono_l k
 unfold palinodelaw18_DefineSpoils.f
 repeat' first
   | (with_reducible exact ih0 _ _ _ _ _ _)
   | (with_reducible exact ih1 _ _ _ _ _)
   | (with_reducible exact ih2 _ _ _ _ _)
   | (with_reducible exact define_Right.mono _ _ _)
   | (with_reducible exact define_Tries.mono _ _ _)
   | (with_reducible exact palinodelaw18_examples.mono _)
   | (with_reducible exact LeO.refl _)
   | (with_reducible exact LeO.none _)
   | (with_reducible refine LeO.ite ?_ ?_)
   | (with_reducible refine LeO.bind ?_ (fun _ => ?_))
   | exact ih0 _ _ _ _ _ _
   | exact ih1 _ _ _ _ _
   | exact ih2 _ _ _ _ _
   | exact define_Right.mono _ _ _
   | exact define_Tries.mono _ _ _
   | exact palinodelaw18_examples.mono _
   | exact LeO.none _
   | refine LeO.ite ?_ ?_
   | refine LeO.bind ?_ (fun _ => ?_)
def palinodelaw18_DefineSpoils.T8 : Bool × List (List Nat × List Nat) := (true, [([], []), ([0], [0]), ([], []), ([2], [2]), ([3], [3]), ([1, 4], [1, 4]), ([], []), ([6, 5, 4, 0, 1, 2, 3, 4, 5, 6], [5, 6])])
def palinodelaw18_DefineSpoils.B8 : List Nat := [0, 1, 0, 4, 12, 31, 0, 127]
theorem palinodelaw18_DefineSpoils.tab8 : rtab .any (opsOf Try.f6 8) = palinodelaw18_DefineSpoils.T8 := by kernel_rfl
theorem palinodelaw18_DefineSpoils.bits8 : waitsOk palinodelaw18_DefineSpoils.T8.2 palinodelaw18_DefineSpoils.B8 = true := by kernel_rfl
set_option maxHeartbeats 8000000 in
set_option maxRecDepth 100000 in
theorem palinodelaw18_DefineSpoils.calls (k : Nat) (a0_0 : ByteArray) (A0_1 : Option Addr) (c0_1 : Nat) (l0_1 : List (S43)) (a1 : Int) (a2 : Int) (r : Bool) (w : World) (hr0_1 : Kd.C k43 w A0_1 l0_1.length l0_1) (hc0_1 : l0_1.length ≤ c0_1) (h : palinodelaw18_DefineSpoils.f k a0_0 l0_1 a1 a2 = some r) (HEX_ : Aside0 (∀ k_ r_, palinodelaw18_examples.f k_ = some r_ → r_ = true)) (HRT_ : Aside0 (r = true) := by first | exact ⟨rfl⟩ | assumption) :
  Calls Try.prog 6 #[.agg #[.string a0_0, .slice A0_1 l0_1.length c0_1], .int .i64 a1, .int .i64 a2] w fun e w' => e = .returned (.bool r) ∧ Below w.heap.size w w' := by
 have hu24 := Try.underlying24
 have HR0_1 := Aside0.mk hr0_1
 have HC0_1 := Aside0.mk hc0_1
 clear hr0_1 hc0_1
 have HB := Aside0.mk (Below.refl w.heap.size w)
 have H : ((palinodelaw18_examples.f k).bind fun t258 => ((define_Right.f k a0_0 l0_1).bind fun t259 => (if t259 = true then (palinodelaw18_DefineSpoils.j0 k a1 a2 t258 ((l0_1.length : Int) == 0) a0_0 l0_1) else (palinodelaw18_DefineSpoils.j0 k a1 a2 t258 true a0_0 l0_1)))) = some r := h
 clear h
 replace H := Option.bind_eq_some_iff.mp H
 obtain ⟨t258, A40, H⟩ := H
 replace H : ((define_Right.f k a0_0 l0_1).bind fun t259 => (if t259 = true then (palinodelaw18_DefineSpoils.j0 k a1 a2 t258 ((l0_1.length : Int) == 0) a0_0 l0_1) else (palinodelaw18_DefineSpoils.j0 k a1 a2 t258 true a0_0 l0_1))) = some r := H
 have A4 := Aside0.mk A40
 have HTA4_ : Aside0 (t258 = true) := ⟨HEX_.out _ _ A40⟩
 clear A40
 have HC5 := Aside0.mk H
 clear H
 go_enter Try.func6, Try.ntmps6
 go_upto_region 2 with (first | ((with_reducible refine gate_dst (N := 3) rfl ?_); (try (refine gate_guard (by rfl) ?_; dsimp only)); refine box_event ?hg (N := 3) ?hd (cs := #[.string a0_0, .slice A0_1 l0_1.length c0_1]) (t := 24) ?hr ?_; (case hd => rfl); (case hg => rfl); (case hr => first | (go_simp; done) | (go_simp; rfl)); intro gb257 hg w6 hbox hb; have n0_ := Aside0.mk (Yv HB hb); have n1_ := Aside0.mk (hbox); have n2_ := Aside0.mk (Yg HB hg); have n3_ := Aside0.mk (Yg HB hg); clear HB; have HB := n0_; have BK257 := n1_; have GW257 := n2_; have GE257 := n3_; clear n0_ n1_ n2_ n3_; clear hb hbox hg) | ((with_reducible refine gate_callee (f := 8) rfl ?_); refine goesL_ (some 10) rfl rfl Try.func8 (by kernel_rfl) rfl #[] rfl (by (try simp only [List.map_toArray, List.map_cons, List.map_nil]); first | done | rfl | (simp only [List.length_drop, List.length_take]; rfl)) ?_; (with_reducible refine (palinodelaw18_examples.calls k  t258 _ A4.out).mono ?_); rintro e w7 ⟨rfl, hb⟩; refine ⟨_, rfl, ?_⟩; have n0_ := Aside0.mk (Zv BK257 hb); have n1_ := Aside0.mk (Yv HB hb); clear BK257; clear HB; have BK257 := n0_; have HB := n1_; clear n0_ n1_; (try clear hb); (try clear hb2); (try clear hk); (try clear hi)))
 (try simp only [Act.put, List.setIfInBounds_toArray, List.set_cons_zero, List.set_cons_succ])
 go_cut [19] (fun v19 wc => ∃ (kq : Nat) (x19_4 : Bool), v19 = .bool x19_4 ∧ Aside0 (palinodelaw18_DefineSpoils.j0 kq a1 a2 t258 x19_4 a0_0 l0_1 = some r) ∧ Aside0 (kq ≤ k) ∧ Aside0 (wc.heap[gb257]? = some (.cells #[.string a0_0, (.slice A0_1 l0_1.length c0_1)] 24 (0, 0))) ∧ Aside0 (Below w.heap.size w wc))
 case first =>
  have H := HC5.out
  clear HC5
  replace H := Option.bind_eq_some_iff.mp H
  obtain ⟨t259, A80, H⟩ := H
  replace H : (if t259 = true then (palinodelaw18_DefineSpoils.j0 k a1 a2 t258 ((l0_1.length : Int) == 0) a0_0 l0_1) else (palinodelaw18_DefineSpoils.j0 k a1 a2 t258 true a0_0 l0_1)) = some r := H
  have A8 := Aside0.mk A80
  clear A80
  by_cases c9 : t259 = true
  ·
   subst c9
   have H1 : (palinodelaw18_DefineSpoils.j0 k a1 a2 t258 ((l0_1.length : Int) == 0) a0_0 l0_1) = some r := by rw [if_pos rfl] at H; exact H
   clear H
   have H := H1
   clear H1
   have H' := Aside0.mk H
   clear H
   obtain ⟨⟨hcz10_0, hcz10_1⟩, hfz10_0, hfz10_1⟩ := Zk2 BK257
   go_wp2_with (first | ((with_reducible refine gate_callee (f := 11) rfl ?_); refine goesL_ (some 12) rfl rfl Try.func11 (by kernel_rfl) rfl #[.agg #[.string a0_0, .slice A0_1 l0_1.length c0_1]] rfl (by (try simp only [List.map_toArray, List.map_cons, List.map_nil]); first | done | rfl | (simp only [List.length_drop, List.length_take]; rfl)) ?_; (with_reducible refine (define_Right.calls k a0_0 _ _ l0_1 true _ ?side1 ?side2 A8.out).mono ?_); (case side1 => repeat (first | exact (Kd.C_below HR0_1.out HB.out) | (with_reducible refine Kd.C_alloc ?_ _) | (with_reducible refine Kd.C_drewN ?_ _) | (with_reducible refine Kd.C_drew ?_))); (case side2 => exact HC0_1.out); rintro e w11 ⟨rfl, hb⟩; refine ⟨_, rfl, ?_⟩; have n0_ := Aside0.mk (Zv BK257 hb); have n1_ := Aside0.mk (Yv HB hb); clear BK257; clear HB; have BK257 := n0_; have HB := n1_; clear n0_ n1_; (try clear hb); (try clear hb2); (try clear hk); (try clear hi); obtain ⟨⟨hcz12_0, hcz12_1⟩, hfz12_0, hfz12_1⟩ := Zk2 BK257))
   go_meet
   case rel => exact ⟨_, (((l0_1.length : Int) == 0)), (by first | rfl | (simp; done) | (simp [*]; done)), H', ⟨by first | omega | exact Nat.le_refl _⟩, ⟨by (with_reducible repeat (first | refine Zn ?_ _ | refine Zd ?_ | refine Za ?_ _)); exact BK257.out⟩, ⟨Yr HB⟩⟩
  ·
   replace c9 := Bool.eq_false_iff.mpr c9
   subst c9
   have H1 : (palinodelaw18_DefineSpoils.j0 k a1 a2 t258 true a0_0 l0_1) = some r := by rw [if_neg (show ¬ (false = true) by decide)] at H; exact H
   clear H
   have H := H1
   clear H1
   have H' := Aside0.mk H
   clear H
   obtain ⟨⟨hcz13_0, hcz13_1⟩, hfz13_0, hfz13_1⟩ := Zk2 BK257
   go_wp2_with (first | ((with_reducible refine gate_callee (f := 11) rfl ?_); refine goesL_ (some 12) rfl rfl Try.func11 (by kernel_rfl) rfl #[.agg #[.string a0_0, .slice A0_1 l0_1.length c0_1]] rfl (by (try simp only [List.map_toArray, List.map_cons, List.map_nil]); first | done | rfl | (simp only [List.length_drop, List.length_take]; rfl)) ?_; (with_reducible refine (define_Right.calls k a0_0 _ _ l0_1 false _ ?side1 ?side2 A8.out).mono ?_); (case side1 => repeat (first | exact (Kd.C_below HR0_1.out HB.out) | (with_reducible refine Kd.C_alloc ?_ _) | (with_reducible refine Kd.C_drewN ?_ _) | (with_reducible refine Kd.C_drew ?_))); (case side2 => exact HC0_1.out); rintro e w14 ⟨rfl, hb⟩; refine ⟨_, rfl, ?_⟩; have n0_ := Aside0.mk (Zv BK257 hb); have n1_ := Aside0.mk (Yv HB hb); clear BK257; clear HB; have BK257 := n0_; have HB := n1_; clear n0_ n1_; (try clear hb); (try clear hb2); (try clear hk); (try clear hi)))
   go_meet
   case rel => exact ⟨_, (true), (by first | rfl | (simp; done) | (simp [*]; done)), H', ⟨by first | omega | exact Nat.le_refl _⟩, ⟨by (with_reducible repeat (first | refine Zn ?_ _ | refine Zd ?_ | refine Za ?_ _)); exact BK257.out⟩, ⟨Yr HB⟩⟩
 case rest =>
  clear HC5
  try clear c1
  try clear p2
  try clear c6
  try clear c8
  try clear c9
  try clear c11
  try clear hcz10_0
  try clear hcz10_1
  try clear hcz12_0
  try clear hcz12_1
  try clear hcz13_0
  try clear hcz13_1
  try clear hfz10_0
  try clear hfz10_1
  try clear hfz12_0
  try clear hfz12_1
  try clear hfz13_0
  try clear hfz13_1
  obtain ⟨kq, x19_4, rfl, HA, HJ4, BK257, HB⟩ := hcut
  cases kq with
  | zero => exact absurd HA.out (by simp [palinodelaw18_DefineSpoils.j0])
  | succ kj4 =>
   have H := HA.out
   clear HA
   simp only [palinodelaw18_DefineSpoils.j0] at H
   by_cases c15 : x19_4 = true
   ·
    subst c15
    have H1 : (some t258) = some r := by rw [if_pos rfl] at H; exact H
    clear H
    have H := H1
    clear H1
    obtain rfl := Option.some.inj H
    go_wp2
    go_ret
    exact ⟨by first | rfl | (simp [errW_none, errW_some] <;> rfl) | (simp [*, errW_none, errW_some] <;> rfl), Yr HB⟩
   ·
    replace c15 := Bool.eq_false_iff.mpr c15
    subst c15
    have H1 : (if a1 < 0 then (palinodelaw18_DefineSpoils.j1 kj4 (wrap64 (-(wrap64 (a1 + 1)))) a2 t258 a0_0 l0_1) else (palinodelaw18_DefineSpoils.j1 kj4 a1 a2 t258 a0_0 l0_1)) = some r := by rw [if_neg (show ¬ (false = true) by decide)] at H; exact H
    clear H
    have H := H1
    clear H1
    have HC16 := Aside0.mk H
    clear H
    go_upto_if 22 with (fail)
    go_cut [1] (fun v1 wc => ∃ (kq : Nat) (x1_15 : Int), v1 = .int .i64 x1_15 ∧ Aside0 (palinodelaw18_DefineSpoils.j1 kq x1_15 a2 t258 a0_0 l0_1 = some r) ∧ Aside0 (kq ≤ kj4) ∧ Aside0 (wc.heap[gb257]? = some (.cells #[.string a0_0, (.slice A0_1 l0_1.length c0_1)] 24 (0, 0))) ∧ Aside0 (Below w.heap.size w wc))
    case first =>
     have H := HC16.out
     clear HC16
     by_cases c17 : a1 < 0
     ·
      rw [if_pos c17] at H
      have c17b0 : decide (a1 < 0) = true := decide_eq_true c17
      clear c17
      (first | rw [c17b0] | (simp only [i64_w, i32_w]; rw [c17b0]) | skip)
      have H' := Aside0.mk H
      clear H
      go_wp2
      go_meet
      case rel => exact ⟨_, (wrap64 (-(wrap64 (a1 + 1)))), (by first | rfl | (simp; done) | (simp [*]; done)), H', ⟨by have := HJ4.out; first | omega | exact Nat.le_refl _⟩, ⟨by (with_reducible repeat (first | refine Zn ?_ _ | refine Zd ?_ | refine Za ?_ _)); exact BK257.out⟩, ⟨Yr HB⟩⟩
     ·
      rw [if_neg c17] at H
      have c17b0 : decide (a1 < 0) = false := decide_eq_false c17
      clear c17
      (first | rw [c17b0] | (simp only [i64_w, i32_w]; rw [c17b0]) | skip)
      have H' := Aside0.mk H
      clear H
      go_wp2
      go_meet
      case rel => exact ⟨_, (a1), (by first | rfl | (simp; done) | (simp [*]; done)), H', ⟨by have := HJ4.out; first | omega | exact Nat.le_refl _⟩, ⟨by (with_reducible repeat (first | refine Zn ?_ _ | refine Zd ?_ | refine Za ?_ _)); exact BK257.out⟩, ⟨Yr HB⟩⟩
    case rest =>
     clear HC16
     try clear c1
     try clear p2
     try clear c6
     try clear p6
     try clear c8
     try clear c9
     try clear c11
     try clear c15
     try clear c17
     try clear c17b0
     try clear hcz10_0
     try clear hcz10_1
     try clear hcz12_0
     try clear hcz12_1
     try clear hcz13_0
     try clear hcz13_1
     try clear hfz10_0
     try clear hfz10_1
     try clear hfz12_0
     try clear hfz12_1
     try clear hfz13_0
     try clear hfz13_1
     try clear p2
     obtain ⟨kq, x1_15, rfl, HA, HJ15, BK257, HB⟩ := hcut
     cases kq with
     | zero => exact absurd HA.out (by simp [palinodelaw18_DefineSpoils.j1])
     | succ kj15 =>
      have H := HA.out
      clear HA
      simp only [palinodelaw18_DefineSpoils.j1] at H
      have HC18 := Aside0.mk H
      clear H
      go_upto_if 27 with (fail)
      go_cut [2] (fun v2 wc => ∃ (kq : Nat) (x2_17 : Int), v2 = .int .i64 x2_17 ∧ Aside0 (palinodelaw18_DefineSpoils.j2 kq x1_15 x2_17 t258 a0_0 l0_1 = some r) ∧ Aside0 (kq ≤ kj15) ∧ Aside0 (wc.heap[gb257]? = some (.cells #[.string a0_0, (.slice A0_1 l0_1.length c0_1)] 24 (0, 0))) ∧ Aside0 (Below w.heap.size w wc))
      case first =>
       have H := HC18.out
       clear HC18
       by_cases c19 : a2 < 0
       ·
        rw [if_pos c19] at H
        have c19b0 : decide (a2 < 0) = true := decide_eq_true c19
        clear c19
        (first | rw [c19b0] | (simp only [i64_w, i32_w]; rw [c19b0]) | skip)
        have H' := Aside0.mk H
        clear H
        go_wp2
        go_meet
        case rel => exact ⟨_, (wrap64 (-(wrap64 (a2 + 1)))), (by first | rfl | (simp; done) | (simp [*]; done)), H', ⟨by have := HJ4.out; have := HJ15.out; first | omega | exact Nat.le_refl _⟩, ⟨by (with_reducible repeat (first | refine Zn ?_ _ | refine Zd ?_ | refine Za ?_ _)); exact BK257.out⟩, ⟨Yr HB⟩⟩
       ·
        rw [if_neg c19] at H
        have c19b0 : decide (a2 < 0) = false := decide_eq_false c19
        clear c19
        (first | rw [c19b0] | (simp only [i64_w, i32_w]; rw [c19b0]) | skip)
        have H' := Aside0.mk H
        clear H
        go_wp2
        go_meet
        case rel => exact ⟨_, (a2), (by first | rfl | (simp; done) | (simp [*]; done)), H', ⟨by have := HJ4.out; have := HJ15.out; first | omega | exact Nat.le_refl _⟩, ⟨by (with_reducible repeat (first | refine Zn ?_ _ | refine Zd ?_ | refine Za ?_ _)); exact BK257.out⟩, ⟨Yr HB⟩⟩
      case rest =>
       clear HC18
       try clear c1
       try clear p2
       try clear c6
       try clear p6
       try clear c8
       try clear c9
       try clear c11
       try clear c15
       try clear c17
       try clear c17b0
       try clear c19
       try clear c19b0
       try clear hcz10_0
       try clear hcz10_1
       try clear hcz12_0
       try clear hcz12_1
       try clear hcz13_0
       try clear hcz13_1
       try clear hfz10_0
       try clear hfz10_1
       try clear hfz12_0
       try clear hfz12_1
       try clear hfz13_0
       try clear hfz13_1
       try clear p2
       try clear p6
       obtain ⟨kq, x2_17, rfl, HA, HJ17, BK257, HB⟩ := hcut
       cases kq with
       | zero => exact absurd HA.out (by simp [palinodelaw18_DefineSpoils.j2])
       | succ kj17 =>
        have H := HA.out
        clear HA
        simp only [palinodelaw18_DefineSpoils.j2] at H
        by_cases c20 : ([] : List (S43)).length + l0_1.length < 8796093022208
        ·
         rw [if_pos c20] at H
         have LMc20 := Aside0.mk c20
         clear c20
         obtain ⟨y260, hy260⟩ : ∃ y_ : List (S43), y_ = (([] : List (S43)) ++ l0_1) := ⟨_, rfl⟩
         replace H : (if (y260.length : Int) = 0 then (none) else (if (Int.tmod x2_17 6) = 0 then (if a0_0.size + 1 ≤ 9223372036854775807 then (if t258 = true then ((define_Right.f kj17 (a0_0 ++ (⟨#[95]⟩ : ByteArray)) y260).bind fun t264 => (if t264 = true then (some false) else ((define_Tries.f kj17 (a0_0 ++ (⟨#[95]⟩ : ByteArray)) y260).bind fun t265 => (some (t265 == 0))))) else (some false)) else (none)) else (if (Int.tmod x2_17 6) = 1 then (if 0 ≤ (Int.tmod x1_15 (y260.length : Int)) then (if (Int.tmod x1_15 (y260.length : Int)) < (y260.length : Int) then ((some (y260.set ((Int.tmod x1_15 (y260.length : Int)) : Int).toNat (⟨6, (rd_T43 y260 (Int.tmod x1_15 (y260.length : Int))).f1⟩ : S43) : List (S43))).bind fun y266 => (if t258 = true then ((define_Right.f kj17 a0_0 y266).bind fun t267 => (if t267 = true then (some false) else ((define_Tries.f kj17 a0_0 y266).bind fun t268 => (some (t268 == 0))))) else (some false))) else (none)) else (none)) else (if (Int.tmod x2_17 6) = 2 then (if 0 ≤ (Int.tmod x1_15 (y260.length : Int)) then (if (Int.tmod x1_15 (y260.length : Int)) < (y260.length : Int) then ((some (y260.set ((Int.tmod x1_15 (y260.length : Int)) : Int).toNat (⟨(rd_T43 y260 (Int.tmod x1_15 (y260.length : Int))).f0, 0⟩ : S43) : List (S43))).bind fun y269 => (if t258 = true then ((define_Right.f kj17 a0_0 y269).bind fun t270 => (if t270 = true then (some false) else ((define_Tries.f kj17 a0_0 y269).bind fun t271 => (some (t271 == 0))))) else (some false))) else (none)) else (none)) else (if (Int.tmod x2_17 6) = 3 then (if 0 ≤ (Int.tmod x1_15 (y260.length : Int)) then (if (Int.tmod x1_15 (y260.length : Int)) < (y260.length : Int) then ((some (y260.set ((Int.tmod x1_15 (y260.length : Int)) : Int).toNat (⟨(rd_T43 y260 (Int.tmod x1_15 (y260.length : Int))).f0, 10001⟩ : S43) : List (S43))).bind fun y272 => (if t258 = true then ((define_Right.f kj17 a0_0 y272).bind fun t273 => (if t273 = true then (some false) else ((define_Tries.f kj17 a0_0 y272).bind fun t274 => (some (t274 == 0))))) else (some false))) else (none)) else (none)) else (if (Int.tmod x2_17 6) = 4 then (if t258 = true then ((define_Right.f kj17 a0_0 ([] : List (S43))).bind fun t275 => (if t275 = true then (some false) else ((define_Tries.f kj17 a0_0 ([] : List (S43))).bind fun t276 => (some (t276 == 0))))) else (some false)) else (if 0 ≤ (Int.tmod x1_15 (y260.length : Int)) then (if (Int.tmod x1_15 (y260.length : Int)) < (y260.length : Int) then ((some (y260.set ((Int.tmod x1_15 (y260.length : Int)) : Int).toNat (⟨(-1), (rd_T43 y260 (Int.tmod x1_15 (y260.length : Int))).f1⟩ : S43) : List (S43))).bind fun y277 => (if t258 = true then ((define_Right.f kj17 a0_0 y277).bind fun t278 => (if t278 = true then (some false) else ((define_Tries.f kj17 a0_0 y277).bind fun t279 => (some (t279 == 0))))) else (some false))) else (none)) else (none)))))))) = some r := by first | (rw [hy260]; with_reducible exact H) | (have H2_ := (Option.bind_some _ _).symm.trans H; rw [hy260]; with_reducible exact H2_) | (have H2_ := (Option.bind_some _ _).symm.trans H; with_reducible exact H2_) | with_reducible exact H | (rw [hy260]; exact H) | exact H
         have Ny260 := Aside0.mk hy260
         clear hy260
         by_cases c21 : (y260.length : Int) = 0
         ·
          rw [if_pos c21] at H
          exact absurd H (by simp)
         ·
          rw [if_neg c21] at H
          have c21b0 : ((y260.length : Int) == 0) = false := beq_eq_false_iff_ne.mpr c21
          have c21b1 : ((y260.length : Int) != 0) = true := bne_iff_ne.mpr c21
          have c21b2 : ¬ (y260 = []) := fun h_ => c21 (by rw [h_]; rfl)
          by_cases c22 : (Int.tmod x2_17 6) = 0
          ·
           rw [if_pos c22] at H
           have c22b0 : ((Int.tmod x2_17 6) == 0) = true := beq_iff_eq.mpr c22
           have c22b1 : ((Int.tmod x2_17 6) != 0) = false := bne_eq_false_iff_eq.mpr c22
           clear c22
           by_cases c23 : a0_0.size + 1 ≤ 9223372036854775807
           ·
            rw [if_pos c23] at H
            have c23b0 := eq_true c23
            have c23b1 : decide (a0_0.size + 1 ≤ 9223372036854775807) = true := decide_eq_true c23
            try have c23b2 : (9223372036854775807 < a0_0.size + 1) = False := eq_false (Nat.not_lt.2 c23)
            by_cases c24 : t258 = true
            ·
             subst c24
             have H1 : ((define_Right.f kj17 (a0_0 ++ (⟨#[95]⟩ : ByteArray)) y260).bind fun t264 => (if t264 = true then (some false) else ((define_Tries.f kj17 (a0_0 ++ (⟨#[95]⟩ : ByteArray)) y260).bind fun t265 => (some (t265 == 0))))) = some r := by rw [if_pos rfl] at H; exact H
             clear H
             have H := H1
             clear H1
             replace H := Option.bind_eq_some_iff.mp H
             obtain ⟨t264, A250, H⟩ := H
             replace H : (if t264 = true then (some false) else ((define_Tries.f kj17 (a0_0 ++ (⟨#[95]⟩ : ByteArray)) y260).bind fun t265 => (some (t265 == 0)))) = some r := H
             have A25 := Aside0.mk A250
             clear A250
             by_cases c26 : t264 = true
             ·
              subst c26
              have H1 : (some false) = some r := by rw [if_pos rfl] at H; exact H
              clear H
              have H := H1
              clear H1
              exact absurd ((Option.some.inj H).trans HRT_.out) (by decide)
             ·
              replace c26 := Bool.eq_false_iff.mpr c26
              subst c26
              have H1 : ((define_Tries.f kj17 (a0_0 ++ (⟨#[95]⟩ : ByteArray)) y260).bind fun t265 => (some (t265 == 0))) = some r := by rw [if_neg (show ¬ (false = true) by decide)] at H; exact H
              clear H
              have H := H1
              clear H1
              replace H := Option.bind_eq_some_iff.mp H
              obtain ⟨t265, A270, H⟩ := H
              replace H : (some (t265 == 0)) = some r := H
              have A27 := Aside0.mk A270
              clear A270
              obtain rfl := Option.some.inj H
              try go_wp2
              have n0_ := Aside0.mk (Zd BK257.out)
              have n1_ := Aside0.mk (Yd HB.out)
              clear BK257
              clear HB
              have BK257 := n0_
              have HB := n1_
              clear n0_ n1_
              refine start_ (n := 8) (S := fun w' => w'.cell? ⟨gb257, 0, none⟩ = some (.string a0_0) ∧ w'.cell? ⟨gb257, 1, none⟩ = some (.slice A0_1 l0_1.length c0_1)) (ds := []) #[false, false, false, false, false, false, false, false] (by kernel_rfl) rfl rfl ⟨(Zc BK257.out 0).trans rfl, (Zc BK257.out 1).trans rfl⟩ (fun hHeld => ?_); refine with_tabW palinodelaw18_DefineSpoils.tab8 palinodelaw18_DefineSpoils.bits8 (fun HT_ HW_ => ?_)
              generalize wc.drew = w28 at BK257 HB hHeld ⊢
              refine pure_ (i := 0) (N := some 31) (v := ?_) (a' := ?_) #[true, false, false, false, false, false, false, false] rfl rfl (any_of HT_.out (by kernel_rfl)) (fun _ _ _ h => h) (Or.inl ⟨by rfl, ?_⟩) ?_ ?_
              rotate_left
              ·
               intro w'
               go_simp
               with_reducible rfl
              rotate_left
              ·
               simp only [Act.put, List.setIfInBounds_toArray, List.set_cons_zero, List.set_cons_succ, i64_w, i32_w]
               rfl
              refine pure_ (i := 2) (N := some 33) (v := ?_) (a' := ?_) #[true, false, true, false, false, false, false, false] rfl rfl (any_of HT_.out (by kernel_rfl)) (fun _ _ _ h => h) (Or.inl ⟨by rfl, ?_⟩) ?_ ?_
              rotate_left
              ·
               intro w'
               go_simp
               with_reducible rfl
              rotate_left
              ·
               simp only [Act.put, List.setIfInBounds_toArray, List.set_cons_zero, List.set_cons_succ, i64_w, i32_w]
               rfl
              refine take_ (i := 1) (N := some 32) (v := ?_) (a' := ?_) #[true, true, true, false, false, false, false, false] rfl rfl (take_ofW HT_.out HW_.out (by kernel_rfl)) (fun _ _ _ h => h) (Or.inl ⟨by rfl, ?_⟩) hHeld ?_ ?_
              rotate_left
              ·
               rintro w' ⟨s0, s1⟩
               go_simp
               with_reducible rfl
              rotate_left
              ·
               simp only [Act.put, List.setIfInBounds_toArray, List.set_cons_zero, List.set_cons_succ, i64_w, i32_w]
               rfl
              refine take_ (i := 3) (N := some 34) (v := ?_) (a' := ?_) #[true, true, true, true, false, false, false, false] rfl rfl (take_ofW HT_.out HW_.out (by kernel_rfl)) (fun _ _ _ h => h) (Or.inl ⟨by rfl, ?_⟩) hHeld ?_ ?_
              rotate_left
              ·
               rintro w' ⟨s0, s1⟩
               go_simp
               with_reducible rfl
              rotate_left
              ·
               simp only [Act.put, List.setIfInBounds_toArray, List.set_cons_zero, List.set_cons_succ, i64_w, i32_w]
               rfl
              refine join_ (σ := Value × Nat) 1 #[true, true, true, true, true, true, true, false] (fun s_ => [(35, s_.1), (8, .pointer (some ⟨s_.2, 0, none⟩)), (36, .agg #[.string a0_0, s_.1])]) (fun s_ w' => (w'.cell? ⟨gb257, 0, none⟩ = some (.string a0_0) ∧ w'.cell? ⟨gb257, 1, none⟩ = some (.slice A0_1 l0_1.length c0_1)) ∧ (Kd.R k43 43 w' w.heap.size (fun _ => True) s_.1 y260) ∧ (w'.heap[gb257]? = some (.cells #[.string a0_0, .slice A0_1 l0_1.length c0_1] 24 (0, 0))) ∧ (w'.heap[s_.2]? = some (.cells #[.string (⟨#[]⟩ : ByteArray), .slice none 0 0] 24 (0, 0))) ∧ (w.heap.size ≤ s_.2) ∧ (w.heap.size ≤ s_.2) ∧ (gb257 ≠ s_.2) ∧ (s_.2 ≠ gb257) ∧ (Below w.heap.size w w')) ?_ ?_
              rotate_left
              ·
               intro hCont
               refine two_ (i := 4) (j := 6) (Ni := some 35) (Nj := some 8) #[true, true, true, true, true, false, false, false] #[true, true, true, true, false, false, true, false] rfl rfl rfl rfl (two_of HT_.out (by kernel_rfl)) (by decide) (by decide) (fun K hK => ?_) (fun K hK => ?_)
               ·
                skip
                refine Kd.R_append_rows_step k43 (w0 := w) w.heap.size (by rfl) (.const (.slice none 0 0)) (.tmp 34) 22 43 (.agg #[(.int .i64 0), (.int .i64 0)]) 16 rfl Try.underlying22 info43 rfl (by decide) (by omega) (.slice none 0 0) ([] : List (S43)) l0_1 _ _ _ (fun _ => True) (fun _ => False) rfl rfl ?aO ?aR (fun _ _ h => h) (fun _ h => h.elim) ?aF ?aB ?aS ?aL ?_
                (case aR => repeat (first | exact (Kd.C_below HR0_1.out HB.out) | (with_reducible refine Kd.C_alloc ?_ _) | (with_reducible refine Kd.C_drewN ?_ _) | (with_reducible refine Kd.C_drew ?_)))
                (case aB => exact (Yr HB))
                (case aF => exact (fun _ _ => trivial))
                (case aO => exact ((Kd.R_nil _ _ _ _ (fun _ => True))))
                (case aS => exact (below_size (Yr HB)))
                (case aL => have := LMc20.out; omega)
                intro v261 w29 ho hb hg hat
                rw [← Ny260.out] at ho
                have n0_ := Aside0.mk (blk_grown (g := gb257) (o := .cells #[.string a0_0, .slice A0_1 l0_1.length c0_1] 24 (0, 0)) (Zr BK257) hg (by simp [Value.ownBlock]))
                have n1_ := Aside0.mk (hb)
                have n2_ := Aside0.mk (ho)
                clear BK257
                clear HB
                have BK257 := n0_
                have HB := n1_
                have HO262 := n2_
                clear n0_ n1_ n2_
                clear ho hb hg hat
                obtain ⟨Ao30, co30, eo30⟩ := Kd.R_slice HO262.out
                (first | subst eo30 | (injection eo30 with f1_ f2_ f3_; have f4_ := f1_.symm; have f5_ := f3_.symm; clear f1_ f2_ f3_; subst f4_; subst f5_))
                refine hK.out _ _ ⟨(Zc BK257.out 0).trans rfl, (Zc BK257.out 1).trans rfl⟩ (fun hHeld => ?_)
                clear hK K
                refine norm_ (a' := ?_) ?_ ?_
                rotate_left
                ·
                 show Act.put _ (some 35) _ = _
                 simp only [Act.put, List.setIfInBounds_toArray, List.set_cons_zero, List.set_cons_succ, i64_w, i32_w]
                 rfl
                refine pure_ (i := 5) (N := some 36) (v := ?_) (a' := ?_) #[true, true, true, true, true, true, false, false] rfl rfl (any_of HT_.out (by kernel_rfl)) (fun _ _ _ h => h) (Or.inl ⟨by rfl, ?_⟩) ?_ ?_
                rotate_left
                ·
                 intro w'
                 go_simp
                 with_reducible rfl
                rotate_left
                ·
                 simp only [Act.put, List.setIfInBounds_toArray, List.set_cons_zero, List.set_cons_succ, i64_w, i32_w]
                 rfl
                refine one_ (i := 6) (N := some 8) #[true, true, true, true, true, true, true, false] rfl rfl (one_of HT_.out (by kernel_rfl)) (by decide) (fun K hK => ?_)
                refine box_step ?hg (N := 8) ?hd (cs := #[.string (⟨#[]⟩ : ByteArray), .slice none 0 0]) (t := 24) ?hr ?_; (case hd => rfl); (case hg => rfl); (case hr => first | (go_simp; done) | (go_simp; rfl))
                intro gb263 hg w31 hbox hb
                have n0_ := Aside0.mk (Kd.R_below (by (with_reducible repeat (first | apply Kd.R_alloc | apply Kd.R_drewN | apply Kd.R_drew)); exact HO262.out) hb)
                have n1_ := Aside0.mk (Zv BK257 hb)
                have n2_ := Aside0.mk (Yv HB hb)
                have n3_ := Aside0.mk (hbox)
                have n4_ := Aside0.mk (Yg HB hg)
                have n5_ := Aside0.mk (Yg HB hg)
                have n6_ := Aside0.mk (Zl BK257 hg)
                have n7_ := Aside0.mk (Zg BK257 hg)
                clear HO262
                clear BK257
                clear HB
                have HO262 := n0_
                have BK257 := n1_
                have HB := n2_
                have BK263 := n3_
                have GW263 := n4_
                have GE263 := n5_
                have NB257_263 := n6_
                have NB263_257 := n7_
                clear n0_ n1_ n2_ n3_ n4_ n5_ n6_ n7_
                clear hb hbox hg
                refine hK.out _ _ ⟨(Zc BK257.out 0).trans rfl, (Zc BK257.out 1).trans rfl⟩ (fun hHeld => ?_)
                clear hK K
                refine norm_ (a' := ?_) ?_ ?_
                rotate_left
                ·
                 show Act.put _ (some 8) _ = _
                 simp only [Act.put, List.setIfInBounds_toArray, List.set_cons_zero, List.set_cons_succ, i64_w, i32_w]
                 rfl
                exact norm_ (by simp only [putAll, Act.put, List.setIfInBounds_toArray, List.set_cons_zero, List.set_cons_succ]) (hCont (.slice Ao30 y260.length co30, gb263) _ ⟨hHeld, (by (with_reducible repeat (first | apply Kd.R_alloc | apply Kd.R_drewN | apply Kd.R_drew)); exact HO262.out), (Zr BK257), (Zr BK263), GW263.out, GE263.out, NB257_263.out, NB263_257.out, (Yr HB)⟩)
               ·
                skip
                refine box_step ?hg (N := 8) ?hd (cs := #[.string (⟨#[]⟩ : ByteArray), .slice none 0 0]) (t := 24) ?hr ?_; (case hd => rfl); (case hg => rfl); (case hr => first | (go_simp; done) | (go_simp; rfl))
                intro gb263 hg w29 hbox hb
                have n0_ := Aside0.mk (Zv BK257 hb)
                have n1_ := Aside0.mk (Yv HB hb)
                have n2_ := Aside0.mk (hbox)
                have n3_ := Aside0.mk (Yg HB hg)
                have n4_ := Aside0.mk (Yg HB hg)
                have n5_ := Aside0.mk (Zl BK257 hg)
                have n6_ := Aside0.mk (Zg BK257 hg)
                clear BK257
                clear HB
                have BK257 := n0_
                have HB := n1_
                have BK263 := n2_
                have GW263 := n3_
                have GE263 := n4_
                have NB257_263 := n5_
                have NB263_257 := n6_
                clear n0_ n1_ n2_ n3_ n4_ n5_ n6_
                clear hb hbox hg
                refine hK.out _ _ ⟨(Zc BK257.out 0).trans rfl, (Zc BK257.out 1).trans rfl⟩ (fun hHeld => ?_)
                clear hK K
                refine norm_ (a' := ?_) ?_ ?_
                rotate_left
                ·
                 show Act.put _ (some 8) _ = _
                 simp only [Act.put, List.setIfInBounds_toArray, List.set_cons_zero, List.set_cons_succ, i64_w, i32_w]
                 rfl
                refine one_ (i := 4) (N := some 35) #[true, true, true, true, true, false, true, false] rfl rfl (one_of HT_.out (by kernel_rfl)) (by decide) (fun K hK => ?_)
                refine Kd.R_append_rows_step k43 (w0 := w) w.heap.size (by rfl) (.const (.slice none 0 0)) (.tmp 34) 22 43 (.agg #[(.int .i64 0), (.int .i64 0)]) 16 rfl Try.underlying22 info43 rfl (by decide) (by omega) (.slice none 0 0) ([] : List (S43)) l0_1 _ _ _ (fun _ => True) (fun _ => False) rfl rfl ?aO ?aR (fun _ _ h => h) (fun _ h => h.elim) ?aF ?aB ?aS ?aL ?_
                (case aR => repeat (first | exact (Kd.C_below HR0_1.out HB.out) | (with_reducible refine Kd.C_alloc ?_ _) | (with_reducible refine Kd.C_drewN ?_ _) | (with_reducible refine Kd.C_drew ?_)))
                (case aB => exact (Yr HB))
                (case aF => exact (fun _ _ => trivial))
                (case aO => exact ((Kd.R_nil _ _ _ _ (fun _ => True))))
                (case aS => exact (below_size (Yr HB)))
                (case aL => have := LMc20.out; omega)
                intro v261 w30 ho hb hg hat
                rw [← Ny260.out] at ho
                have n0_ := Aside0.mk (blk_grown (g := gb257) (o := .cells #[.string a0_0, .slice A0_1 l0_1.length c0_1] 24 (0, 0)) (Zr BK257) hg (by simp [Value.ownBlock]))
                have n1_ := Aside0.mk (blk_grown (g := gb263) (o := .cells #[.string (⟨#[]⟩ : ByteArray), .slice none 0 0] 24 (0, 0)) (Zr BK263) hg (by simp [Value.ownBlock]))
                have n2_ := Aside0.mk (hb)
                have n3_ := Aside0.mk (ho)
                clear BK257
                clear BK263
                clear HB
                have BK257 := n0_
                have BK263 := n1_
                have HB := n2_
                have HO262 := n3_
                clear n0_ n1_ n2_ n3_
                clear ho hb hg hat
                obtain ⟨Ao31, co31, eo31⟩ := Kd.R_slice HO262.out
                (first | subst eo31 | (injection eo31 with f1_ f2_ f3_; have f4_ := f1_.symm; have f5_ := f3_.symm; clear f1_ f2_ f3_; subst f4_; subst f5_))
                refine hK.out _ _ ⟨(Zc BK257.out 0).trans rfl, (Zc BK257.out 1).trans rfl⟩ (fun hHeld => ?_)
                clear hK K
                refine norm_ (a' := ?_) ?_ ?_
                rotate_left
                ·
                 show Act.put _ (some 35) _ = _
                 simp only [Act.put, List.setIfInBounds_toArray, List.set_cons_zero, List.set_cons_succ, i64_w, i32_w]
                 rfl
                refine pure_ (i := 5) (N := some 36) (v := ?_) (a' := ?_) #[true, true, true, true, true, true, true, false] rfl rfl (any_of HT_.out (by kernel_rfl)) (fun _ _ _ h => h) (Or.inl ⟨by rfl, ?_⟩) ?_ ?_
                rotate_left
                ·
                 intro w'
                 go_simp
                 with_reducible rfl
                rotate_left
                ·
                 simp only [Act.put, List.setIfInBounds_toArray, List.set_cons_zero, List.set_cons_succ, i64_w, i32_w]
                 rfl
                exact norm_ (by simp only [putAll, Act.put, List.setIfInBounds_toArray, List.set_cons_zero, List.set_cons_succ]) (hCont (.slice Ao31 y260.length co31, gb263) _ ⟨hHeld, (by (with_reducible repeat (first | apply Kd.R_alloc | apply Kd.R_drewN | apply Kd.R_drew)); exact HO262.out), (Zr BK257), (Zr BK263), GW263.out, GE263.out, NB257_263.out, NB263_257.out, (Yr HB)⟩)
              rintro ⟨v261, gb263⟩ w32 ⟨hS_, h0_, h1_, h2_, h3_, h4_, h5_, h6_, h7_⟩
              have n0_ : Aside0 (Kd.R k43 43 w32 w.heap.size (fun _ => True) v261 y260) := ⟨h0_⟩
              have n1_ : Aside0 (w32.heap[gb257]? = some (.cells #[.string a0_0, .slice A0_1 l0_1.length c0_1] 24 (0, 0))) := ⟨h1_⟩
              have n2_ : Aside0 (w32.heap[gb263]? = some (.cells #[.string (⟨#[]⟩ : ByteArray), .slice none 0 0] 24 (0, 0))) := ⟨h2_⟩
              have n3_ : Aside0 (w.heap.size ≤ gb263) := ⟨h3_⟩
              have n4_ : Aside0 (w.heap.size ≤ gb263) := ⟨h4_⟩
              have n5_ : Aside0 (gb257 ≠ gb263) := ⟨h5_⟩
              have n6_ : Aside0 (gb263 ≠ gb257) := ⟨h6_⟩
              have n7_ : Aside0 (Below w.heap.size w w32) := ⟨h7_⟩
              clear BK257
              clear HB
              clear h0_ h1_ h2_ h3_ h4_ h5_ h6_ h7_
              have HO262 := n0_
              have BK257 := n1_
              have BK263 := n2_
              have GW263 := n3_
              have GE263 := n4_
              have NB257_263 := n5_
              have NB263_257 := n6_
              have HB := n7_
              clear n0_ n1_ n2_ n3_ n4_ n5_ n6_ n7_
              have hHeld : w32.cell? ⟨gb257, 0, none⟩ = some (.string a0_0) ∧ w32.cell? ⟨gb257, 1, none⟩ = some (.slice A0_1 l0_1.length c0_1) := hS_
              obtain ⟨Ao33, co33, eo33⟩ := Kd.R_slice HO262.out
              (first | subst eo33 | (injection eo33 with f1_ f2_ f3_; have f4_ := f1_.symm; have f5_ := f3_.symm; clear f1_ f2_ f3_; subst f4_; subst f5_))
              refine norm_ (a' := ?_) ?_ ?_
              rotate_left
              ·
               simp only [putAll, Act.put, List.setIfInBounds_toArray, List.set_cons_zero, List.set_cons_succ]
               rfl
              refine one_ (i := 7) (N := none) #[true, true, true, true, true, true, true, true] rfl rfl (one_of HT_.out (by kernel_rfl)) (by decide) (fun K hK => ?_)
              have hs34 : w32.cell? ⟨gb263, 0, none⟩ = some (.string (⟨#[]⟩ : ByteArray)) := (Zc BK263.out 0).trans rfl
              have hfs34 := Zf BK263.out 0
              have hns34_0 := NB257_263.out
              have hms34_0 := NB263_257.out
              have hs35 : w32.cell? ⟨gb263, 1, none⟩ = some (.slice none 0 0) := (Zc BK263.out 1).trans rfl
              have hfs35 := Zf BK263.out 1
              have hns35_0 := NB257_263.out
              have hms35_0 := NB263_257.out
              refine skip_ (w1 := ?_) (by rfl) rfl ?_ ?_
              rotate_left
              ·
               go_simp
               rfl
              refine hK.out _ _ ⟨((cell_far (p := ⟨gb263, _, none⟩) NB257_263.out _).trans (((cell_far (p := ⟨gb263, _, none⟩) NB257_263.out _).trans (hHeld.1)))), ((cell_far (p := ⟨gb263, _, none⟩) NB257_263.out _).trans (((cell_far (p := ⟨gb263, _, none⟩) NB257_263.out _).trans (hHeld.2))))⟩ (fun hHeld => ?_)
              clear hK K
              refine done_ (done_of HT_.out (by kernel_rfl)) ?_
              have hnb36 := NB263_257.out
              have hnc36 := NB257_263.out
              obtain ⟨⟨hcz37_0, hcz37_1⟩, hfz37_0, hfz37_1⟩ := Zk2 BK263
              try go_wp2_with (first | (go_at_call 11; (with_reducible refine (define_Right.calls kj17 (a0_0 ++ (⟨#[95]⟩ : ByteArray)) _ _ y260 false _ ?side1 ?side2 A25.out).mono ?_); (case side1 => refine (Kd.R_reads' (e := 43) (base := w.heap.size) (ok := fun k_ => True) (n := y260.length) (c := co33) ?_).2.2; exact (by (with_reducible repeat (first | apply Kd.R_alloc | apply Kd.R_drewN | apply Kd.R_drew)); exact (Kd.R_mono (Kd.R_far (p := ⟨gb263, 0, none⟩) (Kd.R_far (p := ⟨gb263, 1, none⟩) (Kd.R_far (p := ⟨gb263, 0, none⟩) (Kd.R_types HO262.out BK263.out (by decide)) (fun _ hk => hk.2) (.string a0_0)) (fun _ hk => hk.2) (.slice Ao33 y260.length co33)) (fun _ hk => hk.2) (.string (a0_0 ++ (⟨#[95]⟩ : ByteArray)))) (fun _ h_ => h_.1)))); (case side2 => exact (Kd.R_reads' HO262.out).2.1); rintro e w38 ⟨rfl, hb⟩; have n0_ := Aside0.mk (Kd.R_below (by (with_reducible repeat (first | apply Kd.R_alloc | apply Kd.R_drewN | apply Kd.R_drew)); exact (Kd.R_mono (Kd.R_far (p := ⟨gb263, 0, none⟩) (Kd.R_far (p := ⟨gb263, 1, none⟩) (Kd.R_far (p := ⟨gb263, 0, none⟩) (Kd.R_types HO262.out BK263.out (by decide)) (fun _ hk => hk.2) (.string a0_0)) (fun _ hk => hk.2) (.slice Ao33 y260.length co33)) (fun _ hk => hk.2) (.string (a0_0 ++ (⟨#[95]⟩ : ByteArray)))) (fun _ h_ => h_.1))) hb); have n1_ := Aside0.mk (Zv BK257 hb); have n2_ := Aside0.mk (Zb (g := gb263) (o := .cells #[.string (a0_0 ++ (⟨#[95]⟩ : ByteArray)), .slice Ao33 y260.length co33] 24 (0, 0)) (by (with_reducible repeat (first | refine Zn ?_ _ | refine Zd ?_ | refine Za ?_ _)); refine Zp (cs := #[.string a0_0, .slice Ao33 y260.length co33]) ?_ 0 _ rfl; (with_reducible repeat (first | refine Zn ?_ _ | refine Zd ?_ | refine Za ?_ _)); refine Zp (cs := #[.string a0_0, .slice none 0 0]) ?_ 1 _ rfl; (with_reducible repeat (first | refine Zn ?_ _ | refine Zd ?_ | refine Za ?_ _)); refine Zp (cs := #[.string (⟨#[]⟩ : ByteArray), .slice none 0 0]) ?_ 0 _ rfl; (with_reducible repeat (first | refine Zn ?_ _ | refine Zd ?_ | refine Za ?_ _)); exact BK263.out) hb); have n3_ := Aside0.mk (Yv HB hb); clear HO262; clear BK257; clear BK263; clear HB; have HO262 := n0_; have BK257 := n1_; have BK263 := n2_; have HB := n3_; clear n0_ n1_ n2_ n3_; (try clear hb); (try clear hb2); (try clear hk); (try clear hi); obtain ⟨⟨hcz39_0, hcz39_1⟩, hfz39_0, hfz39_1⟩ := Zk2 BK263) | (go_at_call 13; (with_reducible refine (define_Tries.calls kj17 (a0_0 ++ (⟨#[95]⟩ : ByteArray)) _ _ y260 t265 _ ?side1 ?side2 A27.out).mono ?_); (case side1 => repeat (first | exact (Kd.R_reads' HO262.out).2.2 | (with_reducible refine Kd.C_alloc ?_ _) | (with_reducible refine Kd.C_drewN ?_ _) | (with_reducible refine Kd.C_drew ?_))); (case side2 => exact (Kd.R_reads' HO262.out).2.1); rintro e w40 ⟨rfl, hb⟩; have n0_ := Aside0.mk (Kd.R_below (by (with_reducible repeat (first | apply Kd.R_alloc | apply Kd.R_drewN | apply Kd.R_drew)); exact HO262.out) hb); have n1_ := Aside0.mk (Zv BK257 hb); have n2_ := Aside0.mk (Zv BK263 hb); have n3_ := Aside0.mk (Yv HB hb); clear HO262; clear BK257; clear BK263; clear HB; have HO262 := n0_; have BK257 := n1_; have BK263 := n2_; have HB := n3_; clear n0_ n1_ n2_ n3_; (try clear hb); (try clear hb2); (try clear hk); (try clear hi)))
              go_ret
              exact ⟨by first | rfl | (simp [errW_none, errW_some] <;> rfl) | (simp [*, errW_none, errW_some] <;> rfl), Yr HB⟩
            ·
             replace c24 := Bool.eq_false_iff.mpr c24
             subst c24
             have H1 : (some false) = some r := by rw [if_neg (show ¬ (false = true) by decide)] at H; exact H
             clear H
             have H := H1
             clear H1
             exact absurd ((Option.some.inj H).trans HRT_.out) (by decide)
           ·
            rw [if_neg c23] at H
            exact absurd H (by simp)
          ·
           rw [if_neg c22] at H
           have c22b0 : ((Int.tmod x2_17 6) == 0) = false := beq_eq_false_iff_ne.mpr c22
           have c22b1 : ((Int.tmod x2_17 6) != 0) = true := bne_iff_ne.mpr c22
           by_cases c41 : (Int.tmod x2_17 6) = 1
           ·
            rw [if_pos c41] at H
            have c41b0 : ((Int.tmod x2_17 6) == 1) = true := beq_iff_eq.mpr c41
            have c41b1 : ((Int.tmod x2_17 6) != 1) = false := bne_eq_false_iff_eq.mpr c41
            clear c41
            obtain ⟨ji42, hji42⟩ : ∃ j_ : Int, (Int.tmod x1_15 (y260.length : Int)) = j_ := ⟨_, rfl⟩
            replace H : (if 0 ≤ (ji42) then (if (ji42) < (y260.length : Int) then ((some (y260.set ((ji42) : Int).toNat (⟨6, (rd_T43 y260 (ji42)).f1⟩ : S43) : List (S43))).bind fun y266 => (if t258 = true then ((define_Right.f kj17 a0_0 y266).bind fun t267 => (if t267 = true then (some false) else ((define_Tries.f kj17 a0_0 y266).bind fun t268 => (some (t268 == 0))))) else (some false))) else (none)) else (none)) = some r := by first | (rw [hji42] at H; exact H) | (simp only [hji42] at H ⊢; exact H)
            by_cases c43 : 0 ≤ (ji42)
            ·
             rw [if_pos c43] at H
             have c43b0 : decide (0 ≤ (ji42)) = true := decide_eq_true c43
             clear c43
             by_cases c44 : (ji42) < (y260.length : Int)
             ·
              rw [if_pos c44] at H
              have c44b0 : decide ((ji42) < (y260.length : Int)) = true := decide_eq_true c44
              clear c44
              obtain ⟨y266, hy266⟩ : ∃ y_ : List (S43), y_ = (y260.set ((ji42) : Int).toNat (⟨6, (rd_T43 y260 (ji42)).f1⟩ : S43)) := ⟨_, rfl⟩
              replace H : (if t258 = true then ((define_Right.f kj17 a0_0 y266).bind fun t267 => (if t267 = true then (some false) else ((define_Tries.f kj17 a0_0 y266).bind fun t268 => (some (t268 == 0))))) else (some false)) = some r := by first | (rw [hy266]; with_reducible exact H) | (have H2_ := (Option.bind_some _ _).symm.trans H; rw [hy266]; with_reducible exact H2_) | (have H2_ := (Option.bind_some _ _).symm.trans H; with_reducible exact H2_) | with_reducible exact H | (rw [hy266]; exact H) | exact H
              have Ny266 := Aside0.mk hy266
              clear hy266
              by_cases c46 : t258 = true
              ·
               subst c46
               have H1 : ((define_Right.f kj17 a0_0 y266).bind fun t267 => (if t267 = true then (some false) else ((define_Tries.f kj17 a0_0 y266).bind fun t268 => (some (t268 == 0))))) = some r := by rw [if_pos rfl] at H; exact H
               clear H
               have H := H1
               clear H1
               replace H := Option.bind_eq_some_iff.mp H
               obtain ⟨t267, A470, H⟩ := H
               replace H : (if t267 = true then (some false) else ((define_Tries.f kj17 a0_0 y266).bind fun t268 => (some (t268 == 0)))) = some r := H
               have A47 := Aside0.mk A470
               clear A470
               by_cases c48 : t267 = true
               ·
                subst c48
                have H1 : (some false) = some r := by rw [if_pos rfl] at H; exact H
                clear H
                have H := H1
                clear H1
                exact absurd ((Option.some.inj H).trans HRT_.out) (by decide)
               ·
                replace c48 := Bool.eq_false_iff.mpr c48
                subst c48
                have H1 : ((define_Tries.f kj17 a0_0 y266).bind fun t268 => (some (t268 == 0))) = some r := by rw [if_neg (show ¬ (false = true) by decide)] at H; exact H
                clear H
                have H := H1
                clear H1
                replace H := Option.bind_eq_some_iff.mp H
                obtain ⟨t268, A490, H⟩ := H
                replace H : (some (t268 == 0)) = some r := H
                have A49 := Aside0.mk A490
                clear A490
                obtain rfl := Option.some.inj H
                try go_wp2
                have n0_ := Aside0.mk (Zd BK257.out)
                have n1_ := Aside0.mk (Yd HB.out)
                clear BK257
                clear HB
                have BK257 := n0_
                have HB := n1_
                clear n0_ n1_
                refine start_ (n := 8) (S := fun w' => w'.cell? ⟨gb257, 0, none⟩ = some (.string a0_0) ∧ w'.cell? ⟨gb257, 1, none⟩ = some (.slice A0_1 l0_1.length c0_1)) (ds := []) #[false, false, false, false, false, false, false, false] (by kernel_rfl) rfl rfl ⟨(Zc BK257.out 0).trans rfl, (Zc BK257.out 1).trans rfl⟩ (fun hHeld => ?_); refine with_tabW palinodelaw18_DefineSpoils.tab8 palinodelaw18_DefineSpoils.bits8 (fun HT_ HW_ => ?_)
                generalize wc.drew = w50 at BK257 HB hHeld ⊢
                refine pure_ (i := 0) (N := some 31) (v := ?_) (a' := ?_) #[true, false, false, false, false, false, false, false] rfl rfl (any_of HT_.out (by kernel_rfl)) (fun _ _ _ h => h) (Or.inl ⟨by rfl, ?_⟩) ?_ ?_
                rotate_left
                ·
                 intro w'
                 go_simp
                 with_reducible rfl
                rotate_left
                ·
                 simp only [Act.put, List.setIfInBounds_toArray, List.set_cons_zero, List.set_cons_succ, i64_w, i32_w]
                 rfl
                refine pure_ (i := 2) (N := some 33) (v := ?_) (a' := ?_) #[true, false, true, false, false, false, false, false] rfl rfl (any_of HT_.out (by kernel_rfl)) (fun _ _ _ h => h) (Or.inl ⟨by rfl, ?_⟩) ?_ ?_
                rotate_left
                ·
                 intro w'
                 go_simp
                 with_reducible rfl
                rotate_left
                ·
                 simp only [Act.put, List.setIfInBounds_toArray, List.set_cons_zero, List.set_cons_succ, i64_w, i32_w]
                 rfl
                refine take_ (i := 1) (N := some 32) (v := ?_) (a' := ?_) #[true, true, true, false, false, false, false, false] rfl rfl (take_ofW HT_.out HW_.out (by kernel_rfl)) (fun _ _ _ h => h) (Or.inl ⟨by rfl, ?_⟩) hHeld ?_ ?_
                rotate_left
                ·
                 rintro w' ⟨s0, s1⟩
                 go_simp
                 with_reducible rfl
                rotate_left
                ·
                 simp only [Act.put, List.setIfInBounds_toArray, List.set_cons_zero, List.set_cons_succ, i64_w, i32_w]
                 rfl
                refine take_ (i := 3) (N := some 34) (v := ?_) (a' := ?_) #[true, true, true, true, false, false, false, false] rfl rfl (take_ofW HT_.out HW_.out (by kernel_rfl)) (fun _ _ _ h => h) (Or.inl ⟨by rfl, ?_⟩) hHeld ?_ ?_
                rotate_left
                ·
                 rintro w' ⟨s0, s1⟩
                 go_simp
                 with_reducible rfl
                rotate_left
                ·
                 simp only [Act.put, List.setIfInBounds_toArray, List.set_cons_zero, List.set_cons_succ, i64_w, i32_w]
                 rfl
                refine join_ (σ := Value × Nat) 1 #[true, true, true, true, true, true, true, false] (fun s_ => [(35, s_.1), (8, .pointer (some ⟨s_.2, 0, none⟩)), (36, .agg #[.string a0_0, s_.1])]) (fun s_ w' => (w'.cell? ⟨gb257, 0, none⟩ = some (.string a0_0) ∧ w'.cell? ⟨gb257, 1, none⟩ = some (.slice A0_1 l0_1.length c0_1)) ∧ (Kd.R k43 43 w' w.heap.size (fun _ => True) s_.1 y260) ∧ (w'.heap[gb257]? = some (.cells #[.string a0_0, .slice A0_1 l0_1.length c0_1] 24 (0, 0))) ∧ (w'.heap[s_.2]? = some (.cells #[.string (⟨#[]⟩ : ByteArray), .slice none 0 0] 24 (0, 0))) ∧ (w.heap.size ≤ s_.2) ∧ (w.heap.size ≤ s_.2) ∧ (gb257 ≠ s_.2) ∧ (s_.2 ≠ gb257) ∧ (Below w.heap.size w w')) ?_ ?_
                rotate_left
                ·
                 intro hCont
                 refine two_ (i := 4) (j := 6) (Ni := some 35) (Nj := some 8) #[true, true, true, true, true, false, false, false] #[true, true, true, true, false, false, true, false] rfl rfl rfl rfl (two_of HT_.out (by kernel_rfl)) (by decide) (by decide) (fun K hK => ?_) (fun K hK => ?_)
                 ·
                  skip
                  refine Kd.R_append_rows_step k43 (w0 := w) w.heap.size (by rfl) (.const (.slice none 0 0)) (.tmp 34) 22 43 (.agg #[(.int .i64 0), (.int .i64 0)]) 16 rfl Try.underlying22 info43 rfl (by decide) (by omega) (.slice none 0 0) ([] : List (S43)) l0_1 _ _ _ (fun _ => True) (fun _ => False) rfl rfl ?aO ?aR (fun _ _ h => h) (fun _ h => h.elim) ?aF ?aB ?aS ?aL ?_
                  (case aR => repeat (first | exact (Kd.C_below HR0_1.out HB.out) | (with_reducible refine Kd.C_alloc ?_ _) | (with_reducible refine Kd.C_drewN ?_ _) | (with_reducible refine Kd.C_drew ?_)))
                  (case aB => exact (Yr HB))
                  (case aF => exact (fun _ _ => trivial))
                  (case aO => exact ((Kd.R_nil _ _ _ _ (fun _ => True))))
                  (case aS => exact (below_size (Yr HB)))
                  (case aL => have := LMc20.out; omega)
                  intro v261 w51 ho hb hg hat
                  rw [← Ny260.out] at ho
                  have n0_ := Aside0.mk (blk_grown (g := gb257) (o := .cells #[.string a0_0, .slice A0_1 l0_1.length c0_1] 24 (0, 0)) (Zr BK257) hg (by simp [Value.ownBlock]))
                  have n1_ := Aside0.mk (hb)
                  have n2_ := Aside0.mk (ho)
                  clear BK257
                  clear HB
                  have BK257 := n0_
                  have HB := n1_
                  have HO262 := n2_
                  clear n0_ n1_ n2_
                  clear ho hb hg hat
                  obtain ⟨Ao52, co52, eo52⟩ := Kd.R_slice HO262.out
                  (first | subst eo52 | (injection eo52 with f1_ f2_ f3_; have f4_ := f1_.symm; have f5_ := f3_.symm; clear f1_ f2_ f3_; subst f4_; subst f5_))
                  refine hK.out _ _ ⟨(Zc BK257.out 0).trans rfl, (Zc BK257.out 1).trans rfl⟩ (fun hHeld => ?_)
                  clear hK K
                  refine norm_ (a' := ?_) ?_ ?_
                  rotate_left
                  ·
                   show Act.put _ (some 35) _ = _
                   simp only [Act.put, List.setIfInBounds_toArray, List.set_cons_zero, List.set_cons_succ, i64_w, i32_w]
                   rfl
                  refine pure_ (i := 5) (N := some 36) (v := ?_) (a' := ?_) #[true, true, true, true, true, true, false, false] rfl rfl (any_of HT_.out (by kernel_rfl)) (fun _ _ _ h => h) (Or.inl ⟨by rfl, ?_⟩) ?_ ?_
                  rotate_left
                  ·
                   intro w'
                   go_simp
                   with_reducible rfl
                  rotate_left
                  ·
                   simp only [Act.put, List.setIfInBounds_toArray, List.set_cons_zero, List.set_cons_succ, i64_w, i32_w]
                   rfl
                  refine one_ (i := 6) (N := some 8) #[true, true, true, true, true, true, true, false] rfl rfl (one_of HT_.out (by kernel_rfl)) (by decide) (fun K hK => ?_)
                  refine box_step ?hg (N := 8) ?hd (cs := #[.string (⟨#[]⟩ : ByteArray), .slice none 0 0]) (t := 24) ?hr ?_; (case hd => rfl); (case hg => rfl); (case hr => first | (go_simp; done) | (go_simp; rfl))
                  intro gb263 hg w53 hbox hb
                  have n0_ := Aside0.mk (Kd.R_below (by (with_reducible repeat (first | apply Kd.R_alloc | apply Kd.R_drewN | apply Kd.R_drew)); exact HO262.out) hb)
                  have n1_ := Aside0.mk (Zv BK257 hb)
                  have n2_ := Aside0.mk (Yv HB hb)
                  have n3_ := Aside0.mk (hbox)
                  have n4_ := Aside0.mk (Yg HB hg)
                  have n5_ := Aside0.mk (Yg HB hg)
                  have n6_ := Aside0.mk (Zl BK257 hg)
                  have n7_ := Aside0.mk (Zg BK257 hg)
                  clear HO262
                  clear BK257
                  clear HB
                  have HO262 := n0_
                  have BK257 := n1_
                  have HB := n2_
                  have BK263 := n3_
                  have GW263 := n4_
                  have GE263 := n5_
                  have NB257_263 := n6_
                  have NB263_257 := n7_
                  clear n0_ n1_ n2_ n3_ n4_ n5_ n6_ n7_
                  clear hb hbox hg
                  refine hK.out _ _ ⟨(Zc BK257.out 0).trans rfl, (Zc BK257.out 1).trans rfl⟩ (fun hHeld => ?_)
                  clear hK K
                  refine norm_ (a' := ?_) ?_ ?_
                  rotate_left
                  ·
                   show Act.put _ (some 8) _ = _
                   simp only [Act.put, List.setIfInBounds_toArray, List.set_cons_zero, List.set_cons_succ, i64_w, i32_w]
                   rfl
                  exact norm_ (by simp only [putAll, Act.put, List.setIfInBounds_toArray, List.set_cons_zero, List.set_cons_succ]) (hCont (.slice Ao52 y260.length co52, gb263) _ ⟨hHeld, (by (with_reducible repeat (first | apply Kd.R_alloc | apply Kd.R_drewN | apply Kd.R_drew)); exact HO262.out), (Zr BK257), (Zr BK263), GW263.out, GE263.out, NB257_263.out, NB263_257.out, (Yr HB)⟩)
                 ·
                  skip
                  refine box_step ?hg (N := 8) ?hd (cs := #[.string (⟨#[]⟩ : ByteArray), .slice none 0 0]) (t := 24) ?hr ?_; (case hd => rfl); (case hg => rfl); (case hr => first | (go_simp; done) | (go_simp; rfl))
                  intro gb263 hg w51 hbox hb
                  have n0_ := Aside0.mk (Zv BK257 hb)
                  have n1_ := Aside0.mk (Yv HB hb)
                  have n2_ := Aside0.mk (hbox)
                  have n3_ := Aside0.mk (Yg HB hg)
                  have n4_ := Aside0.mk (Yg HB hg)
                  have n5_ := Aside0.mk (Zl BK257 hg)
                  have n6_ := Aside0.mk (Zg BK257 hg)
                  clear BK257
                  clear HB
                  have BK257 := n0_
                  have HB := n1_
                  have BK263 := n2_
                  have GW263 := n3_
                  have GE263 := n4_
                  have NB257_263 := n5_
                  have NB263_257 := n6_
                  clear n0_ n1_ n2_ n3_ n4_ n5_ n6_
                  clear hb hbox hg
                  refine hK.out _ _ ⟨(Zc BK257.out 0).trans rfl, (Zc BK257.out 1).trans rfl⟩ (fun hHeld => ?_)
                  clear hK K
                  refine norm_ (a' := ?_) ?_ ?_
                  rotate_left
                  ·
                   show Act.put _ (some 8) _ = _
                   simp only [Act.put, List.setIfInBounds_toArray, List.set_cons_zero, List.set_cons_succ, i64_w, i32_w]
                   rfl
                  refine one_ (i := 4) (N := some 35) #[true, true, true, true, true, false, true, false] rfl rfl (one_of HT_.out (by kernel_rfl)) (by decide) (fun K hK => ?_)
                  refine Kd.R_append_rows_step k43 (w0 := w) w.heap.size (by rfl) (.const (.slice none 0 0)) (.tmp 34) 22 43 (.agg #[(.int .i64 0), (.int .i64 0)]) 16 rfl Try.underlying22 info43 rfl (by decide) (by omega) (.slice none 0 0) ([] : List (S43)) l0_1 _ _ _ (fun _ => True) (fun _ => False) rfl rfl ?aO ?aR (fun _ _ h => h) (fun _ h => h.elim) ?aF ?aB ?aS ?aL ?_
                  (case aR => repeat (first | exact (Kd.C_below HR0_1.out HB.out) | (with_reducible refine Kd.C_alloc ?_ _) | (with_reducible refine Kd.C_drewN ?_ _) | (with_reducible refine Kd.C_drew ?_)))
                  (case aB => exact (Yr HB))
                  (case aF => exact (fun _ _ => trivial))
                  (case aO => exact ((Kd.R_nil _ _ _ _ (fun _ => True))))
                  (case aS => exact (below_size (Yr HB)))
                  (case aL => have := LMc20.out; omega)
                  intro v261 w52 ho hb hg hat
                  rw [← Ny260.out] at ho
                  have n0_ := Aside0.mk (blk_grown (g := gb257) (o := .cells #[.string a0_0, .slice A0_1 l0_1.length c0_1] 24 (0, 0)) (Zr BK257) hg (by simp [Value.ownBlock]))
                  have n1_ := Aside0.mk (blk_grown (g := gb263) (o := .cells #[.string (⟨#[]⟩ : ByteArray), .slice none 0 0] 24 (0, 0)) (Zr BK263) hg (by simp [Value.ownBlock]))
                  have n2_ := Aside0.mk (hb)
                  have n3_ := Aside0.mk (ho)
                  clear BK257
                  clear BK263
                  clear HB
                  have BK257 := n0_
                  have BK263 := n1_
                  have HB := n2_
                  have HO262 := n3_
                  clear n0_ n1_ n2_ n3_
                  clear ho hb hg hat
                  obtain ⟨Ao53, co53, eo53⟩ := Kd.R_slice HO262.out
                  (first | subst eo53 | (injection eo53 with f1_ f2_ f3_; have f4_ := f1_.symm; have f5_ := f3_.symm; clear f1_ f2_ f3_; subst f4_; subst f5_))
                  refine hK.out _ _ ⟨(Zc BK257.out 0).trans rfl, (Zc BK257.out 1).trans rfl⟩ (fun hHeld => ?_)
                  clear hK K
                  refine norm_ (a' := ?_) ?_ ?_
                  rotate_left
                  ·
                   show Act.put _ (some 35) _ = _
                   simp only [Act.put, List.setIfInBounds_toArray, List.set_cons_zero, List.set_cons_succ, i64_w, i32_w]
                   rfl
                  refine pure_ (i := 5) (N := some 36) (v := ?_) (a' := ?_) #[true, true, true, true, true, true, true, false] rfl rfl (any_of HT_.out (by kernel_rfl)) (fun _ _ _ h => h) (Or.inl ⟨by rfl, ?_⟩) ?_ ?_
                  rotate_left
                  ·
                   intro w'
                   go_simp
                   with_reducible rfl
                  rotate_left
                  ·
                   simp only [Act.put, List.setIfInBounds_toArray, List.set_cons_zero, List.set_cons_succ, i64_w, i32_w]
                   rfl
                  exact norm_ (by simp only [putAll, Act.put, List.setIfInBounds_toArray, List.set_cons_zero, List.set_cons_succ]) (hCont (.slice Ao53 y260.length co53, gb263) _ ⟨hHeld, (by (with_reducible repeat (first | apply Kd.R_alloc | apply Kd.R_drewN | apply Kd.R_drew)); exact HO262.out), (Zr BK257), (Zr BK263), GW263.out, GE263.out, NB257_263.out, NB263_257.out, (Yr HB)⟩)
                rintro ⟨v261, gb263⟩ w54 ⟨hS_, h0_, h1_, h2_, h3_, h4_, h5_, h6_, h7_⟩
                have n0_ : Aside0 (Kd.R k43 43 w54 w.heap.size (fun _ => True) v261 y260) := ⟨h0_⟩
                have n1_ : Aside0 (w54.heap[gb257]? = some (.cells #[.string a0_0, .slice A0_1 l0_1.length c0_1] 24 (0, 0))) := ⟨h1_⟩
                have n2_ : Aside0 (w54.heap[gb263]? = some (.cells #[.string (⟨#[]⟩ : ByteArray), .slice none 0 0] 24 (0, 0))) := ⟨h2_⟩
                have n3_ : Aside0 (w.heap.size ≤ gb263) := ⟨h3_⟩
                have n4_ : Aside0 (w.heap.size ≤ gb263) := ⟨h4_⟩
                have n5_ : Aside0 (gb257 ≠ gb263) := ⟨h5_⟩
                have n6_ : Aside0 (gb263 ≠ gb257) := ⟨h6_⟩
                have n7_ : Aside0 (Below w.heap.size w w54) := ⟨h7_⟩
                clear BK257
                clear HB
                clear h0_ h1_ h2_ h3_ h4_ h5_ h6_ h7_
                have HO262 := n0_
                have BK257 := n1_
                have BK263 := n2_
                have GW263 := n3_
                have GE263 := n4_
                have NB257_263 := n5_
                have NB263_257 := n6_
                have HB := n7_
                clear n0_ n1_ n2_ n3_ n4_ n5_ n6_ n7_
                have hHeld : w54.cell? ⟨gb257, 0, none⟩ = some (.string a0_0) ∧ w54.cell? ⟨gb257, 1, none⟩ = some (.slice A0_1 l0_1.length c0_1) := hS_
                obtain ⟨Ao55, co55, eo55⟩ := Kd.R_slice HO262.out
                (first | subst eo55 | (injection eo55 with f1_ f2_ f3_; have f4_ := f1_.symm; have f5_ := f3_.symm; clear f1_ f2_ f3_; subst f4_; subst f5_))
                refine norm_ (a' := ?_) ?_ ?_
                rotate_left
                ·
                 simp only [putAll, Act.put, List.setIfInBounds_toArray, List.set_cons_zero, List.set_cons_succ]
                 rfl
                refine one_ (i := 7) (N := none) #[true, true, true, true, true, true, true, true] rfl rfl (one_of HT_.out (by kernel_rfl)) (by decide) (fun K hK => ?_)
                have hs56 : w54.cell? ⟨gb263, 0, none⟩ = some (.string (⟨#[]⟩ : ByteArray)) := (Zc BK263.out 0).trans rfl
                have hfs56 := Zf BK263.out 0
                have hns56_0 := NB257_263.out
                have hms56_0 := NB263_257.out
                have hs57 : w54.cell? ⟨gb263, 1, none⟩ = some (.slice none 0 0) := (Zc BK263.out 1).trans rfl
                have hfs57 := Zf BK263.out 1
                have hns57_0 := NB257_263.out
                have hms57_0 := NB263_257.out
                refine skip_ (w1 := ?_) (by rfl) rfl ?_ ?_
                rotate_left
                ·
                 go_simp
                 rfl
                refine hK.out _ _ ⟨((cell_far (p := ⟨gb263, _, none⟩) NB257_263.out _).trans (((cell_far (p := ⟨gb263, _, none⟩) NB257_263.out _).trans (hHeld.1)))), ((cell_far (p := ⟨gb263, _, none⟩) NB257_263.out _).trans (((cell_far (p := ⟨gb263, _, none⟩) NB257_263.out _).trans (hHeld.2))))⟩ (fun hHeld => ?_)
                clear hK K
                refine done_ (done_of HT_.out (by kernel_rfl)) ?_
                have n0_ : Aside0 (Kd.R k43 43 ((w54.setCell ⟨gb263, 0, none⟩ (.string a0_0)).setCell ⟨gb263, 1, none⟩ (.slice Ao55 y260.length co55)) w.heap.size (fun _ => True) (.slice Ao55 y260.length co55) y260) := ⟨by (with_reducible repeat (first | apply Kd.R_alloc | apply Kd.R_drewN | apply Kd.R_drew)); exact Kd.R_mono (Kd.R_far (p := ⟨gb263, 1, none⟩) (Kd.R_far (p := ⟨gb263, 0, none⟩) (Kd.R_types HO262.out BK263.out (by decide)) (fun _ hk => hk.2) (.string a0_0)) (fun _ hk => hk.2) (.slice Ao55 y260.length co55)) (fun _ hk => trivial)⟩
                have n1_ : Aside0 (((w54.setCell ⟨gb263, 0, none⟩ (.string a0_0)).setCell ⟨gb263, 1, none⟩ (.slice Ao55 y260.length co55)).heap[gb257]? = some (.cells #[.string a0_0, .slice A0_1 l0_1.length c0_1] 24 (0, 0))) := ⟨by (with_reducible repeat (first | refine Zn ?_ _ | refine Zd ?_ | refine Za ?_ _)); refine Zq ?_ NB257_263.out _; (with_reducible repeat (first | refine Zn ?_ _ | refine Zd ?_ | refine Za ?_ _)); refine Zq ?_ NB257_263.out _; (with_reducible repeat (first | refine Zn ?_ _ | refine Zd ?_ | refine Za ?_ _)); exact BK257.out⟩
                have n2_ : Aside0 (((w54.setCell ⟨gb263, 0, none⟩ (.string a0_0)).setCell ⟨gb263, 1, none⟩ (.slice Ao55 y260.length co55)).heap[gb263]? = some (.cells #[.string a0_0, .slice Ao55 y260.length co55] 24 (0, 0))) := ⟨by (with_reducible repeat (first | refine Zn ?_ _ | refine Zd ?_ | refine Za ?_ _)); refine Zp (cs := #[.string a0_0, .slice none 0 0]) ?_ 1 _ rfl; (with_reducible repeat (first | refine Zn ?_ _ | refine Zd ?_ | refine Za ?_ _)); refine Zp (cs := #[.string (⟨#[]⟩ : ByteArray), .slice none 0 0]) ?_ 0 _ rfl; (with_reducible repeat (first | refine Zn ?_ _ | refine Zd ?_ | refine Za ?_ _)); exact BK263.out⟩
                have n3_ : Aside0 (Below w.heap.size w ((w54.setCell ⟨gb263, 0, none⟩ (.string a0_0)).setCell ⟨gb263, 1, none⟩ (.slice Ao55 y260.length co55))) := ⟨Yr HB⟩
                (try clear HO262)
                (try clear BK257)
                (try clear BK263)
                (try clear HB)
                generalize ((w54.setCell ⟨gb263, 0, none⟩ (.string a0_0)).setCell ⟨gb263, 1, none⟩ (.slice Ao55 y260.length co55)) = w58 at n0_ n1_ n2_ n3_ ⊢
                have HO262 := n0_
                have BK257 := n1_
                have BK263 := n2_
                have HB := n3_
                clear n0_ n1_ n2_ n3_
                have hnb59 := NB263_257.out
                have hnc59 := NB257_263.out
                obtain ⟨⟨hcz60_0, hcz60_1⟩, hfz60_0, hfz60_1⟩ := Zk2 BK263
                have p45 : 0 ≤ ((ji42) : Int) := of_decide_eq_true (by first | (with_reducible assumption) | assumption)
                have q45 : ((ji42) : Int) < ((y260.length : Int) : Int) := of_decide_eq_true (by first | (with_reducible assumption) | assumption)
                obtain ⟨go45, co45, eo45, gb45, gl45, cl45, HG45⟩ := Kd.R_form HO262.out (by omega)
                (first | cases eo45 | (injection eo45 with ea_ en_ ec_; (first | subst ea_ | (injection ea_ with ea_; subst ea_)); subst ec_; clear en_))
                have GB45 := Aside0.mk gb45
                have GG45 := Aside0.mk HG45
                clear gb45 gl45 HG45
                obtain ⟨ce45, hcl45, hM45, hcc45, hfr45⟩ := Kd.R_elem HO262.out z43 ((ji42) : Int) p45 q45
                obtain rfl := k43_openM hM45
                have hx45_0 : w58.cell? ⟨go45, ((ji42) : Int).toNat * 2, none⟩ = some (.int .i64 ((rd_T43 y260 (ji42)).f0)) := hcc45 0 _ rfl
                have hx45_1 : w58.cell? ⟨go45, ((ji42) : Int).toNat * 2 + 1, none⟩ = some (.int .i64 ((rd_T43 y260 (ji42)).f1)) := hcc45 1 _ rfl
                have hf45_0 : w58.frozen? ⟨go45, ((ji42) : Int).toNat * 2, none⟩ = false := hfr45 0
                have hf45_1 : w58.frozen? ⟨go45, ((ji42) : Int).toNat * 2 + 1, none⟩ = false := hfr45 1
                clear hcl45 hcc45 hfr45 hM45
                replace p45 := eq_true p45
                replace q45 := eq_true q45
                have HX61 := Aside0.mk (show Kd.R k43 43 w58 w.heap.size (fun _ => True) (.slice (some ⟨go45, 0, none⟩) y260.length co55) y260 from (by (with_reducible repeat (first | apply Kd.R_alloc | apply Kd.R_drewN | apply Kd.R_drew)); exact HO262.out))
                obtain ⟨ce61, hcl61, hM61, hcc61, hfr61⟩ := Kd.R_elem HX61.out z43 ((ji42) : Int) (of_decide_eq_true (by first | (with_reducible assumption) | assumption)) (by have h_ : ((ji42) : Int) < ((y260.length : Int) : Int) := of_decide_eq_true (by first | (with_reducible assumption) | assumption); first | exact h_ | (have e_ := (Kd.R_reads' HO262.out).1; omega) | simpa using h_)
                obtain rfl := k43_openM hM61
                have HP61 := Kd.R_seg HX61.out ((ji42) : Int) (of_decide_eq_true (by first | (with_reducible assumption) | assumption)) (by have h_ : ((ji42) : Int) < ((y260.length : Int) : Int) := of_decide_eq_true (by first | (with_reducible assumption) | assumption); first | exact h_ | (have e_ := (Kd.R_reads' HO262.out).1; omega) | simpa using h_) (seg := [.int .i64 6]) (j := 0) hcl61 hcc61 (show 1 ≤ 2 from by decide) (x' := (⟨6, (rd_T43 y260 (ji42)).f1⟩ : S43)) (k43_mkM _ _ _ (⟨6, (rd_T43 y260 (ji42)).f1⟩ : S43) ) (fun _ hk => hk)
                have hx61_0 := hcc61 0 _ rfl
                (try simp only [show (k43).sz = 2 from rfl, Nat.mul_one, Nat.add_zero] at hx61_0)
                have hf61_0 := hfr61 0
                (try simp only [show (k43).sz = 2 from rfl, Nat.mul_one, Nat.add_zero] at hf61_0)
                clear hcl61 hcc61 hfr61 hM61
                try go_wp2_with (first | ((with_reducible refine gate_store (t := 3) (p := 61) rfl ?_); refine store_event (t := 3) (p := 61) (v := ?vo_w62) (w1 := (w58.setCell ⟨go45, ((ji42) : Int).toNat * 2, none⟩ (.int .i64 6))) ?hg ?ho ?hn ?hr ?_; (case ho => rfl); (case hg => rfl); (case hn => rfl); (case hr => first | (go_simp; done) | (go_simp; rfl)); intro w62 hw; have hg : w58.grownBy w62 (some go45) := (by rw [hw]; exact HP61.2); have hp_ : Kd.R k43 43 w62 w.heap.size (fun _ => True) (.slice (some ⟨go45, 0, none⟩) y260.length co55) y266 := (by rw [hw, Ny266.out]; exact HP61.1); clear HP61; have n0_ := Aside0.mk (blk_grown (g := gb257) (o := .cells #[.string a0_0, .slice A0_1 l0_1.length c0_1] 24 (0, 0)) (Zr BK257) hg (Kd.R_ne HO262.out BK257.out (by decide))); have n1_ := Aside0.mk (hp_); have n2_ := Aside0.mk (blk_grown (g := gb263) (o := .cells #[.string a0_0, .slice (some ⟨go45, 0, none⟩) y260.length co55] 24 (0, 0)) (Zr BK263) hg (Kd.R_ne HO262.out BK263.out (by decide))); have n3_ := Aside0.mk ((by rw [hw]; exact Ys (HB.out) GB45.out : Below w.heap.size w w62)); clear BK257; clear HO262; clear BK263; clear HB; have BK257 := n0_; have HO262 := n1_; have BK263 := n2_; have HB := n3_; clear n0_ n1_ n2_ n3_; clear hg hw hp_; obtain ⟨⟨hcz63_0, hcz63_1⟩, hfz63_0, hfz63_1⟩ := Zk2 BK263) | (go_at_call 11; refine calls_of_args (args' := #[.agg #[.string a0_0, .slice (some ⟨go45, 0, none⟩) y266.length co55]]) (by first | (rw [show y266.length = y260.length from (Kd.R_reads' HO262.out).1.symm] <;> rfl) | rfl) ?_; (with_reducible refine (define_Right.calls kj17 a0_0 _ _ y266 false _ ?side1 ?side2 A47.out).mono ?_); (case side1 => repeat (first | exact (Kd.R_reads' HO262.out).2.2 | (with_reducible refine Kd.C_alloc ?_ _) | (with_reducible refine Kd.C_drewN ?_ _) | (with_reducible refine Kd.C_drew ?_))); (case side2 => rw [show y266.length = y260.length from (Kd.R_reads' HO262.out).1.symm]; exact (Kd.R_reads' HO262.out).2.1); rintro e w64 ⟨rfl, hb⟩; have n0_ := Aside0.mk (Kd.R_below (by (with_reducible repeat (first | apply Kd.R_alloc | apply Kd.R_drewN | apply Kd.R_drew)); exact HO262.out) hb); have n1_ := Aside0.mk (Zv BK257 hb); have n2_ := Aside0.mk (Zv BK263 hb); have n3_ := Aside0.mk (Yv HB hb); clear HO262; clear BK257; clear BK263; clear HB; have HO262 := n0_; have BK257 := n1_; have BK263 := n2_; have HB := n3_; clear n0_ n1_ n2_ n3_; (try clear hb); (try clear hb2); (try clear hk); (try clear hi); obtain ⟨⟨hcz65_0, hcz65_1⟩, hfz65_0, hfz65_1⟩ := Zk2 BK263) | (go_at_call 13; refine calls_of_args (args' := #[.agg #[.string a0_0, .slice (some ⟨go45, 0, none⟩) y266.length co55]]) (by first | (rw [show y266.length = y260.length from (Kd.R_reads' HO262.out).1.symm] <;> rfl) | rfl) ?_; (with_reducible refine (define_Tries.calls kj17 a0_0 _ _ y266 t268 _ ?side1 ?side2 A49.out).mono ?_); (case side1 => repeat (first | exact (Kd.R_reads' HO262.out).2.2 | (with_reducible refine Kd.C_alloc ?_ _) | (with_reducible refine Kd.C_drewN ?_ _) | (with_reducible refine Kd.C_drew ?_))); (case side2 => rw [show y266.length = y260.length from (Kd.R_reads' HO262.out).1.symm]; exact (Kd.R_reads' HO262.out).2.1); rintro e w66 ⟨rfl, hb⟩; have n0_ := Aside0.mk (Kd.R_below (by (with_reducible repeat (first | apply Kd.R_alloc | apply Kd.R_drewN | apply Kd.R_drew)); exact HO262.out) hb); have n1_ := Aside0.mk (Zv BK257 hb); have n2_ := Aside0.mk (Zv BK263 hb); have n3_ := Aside0.mk (Yv HB hb); clear HO262; clear BK257; clear BK263; clear HB; have HO262 := n0_; have BK257 := n1_; have BK263 := n2_; have HB := n3_; clear n0_ n1_ n2_ n3_; (try clear hb); (try clear hb2); (try clear hk); (try clear hi)))
                go_ret
                exact ⟨by first | rfl | (simp [errW_none, errW_some] <;> rfl) | (simp only [← hji42]; first | rfl | (simp [errW_none, errW_some] <;> rfl)) | (simp [*, errW_none, errW_some] <;> rfl), Yr HB⟩
              ·
               replace c46 := Bool.eq_false_iff.mpr c46
               subst c46
               have H1 : (some false) = some r := by rw [if_neg (show ¬ (false = true) by decide)] at H; exact H
               clear H
               have H := H1
               clear H1
               exact absurd ((Option.some.inj H).trans HRT_.out) (by decide)
             ·
              rw [if_neg c44] at H
              exact absurd H (by simp)
            ·
             rw [if_neg c43] at H
             exact absurd H (by simp)
           ·
            rw [if_neg c41] at H
            have c41b0 : ((Int.tmod x2_17 6) == 1) = false := beq_eq_false_iff_ne.mpr c41
            have c41b1 : ((Int.tmod x2_17 6) != 1) = true := bne_iff_ne.mpr c41
            by_cases c67 : (Int.tmod x2_17 6) = 2
            ·
             rw [if_pos c67] at H
             have c67b0 : ((Int.tmod x2_17 6) == 2) = true := beq_iff_eq.mpr c67
             have c67b1 : ((Int.tmod x2_17 6) != 2) = false := bne_eq_false_iff_eq.mpr c67
             clear c67
             obtain ⟨ji68, hji68⟩ : ∃ j_ : Int, (Int.tmod x1_15 (y260.length : Int)) = j_ := ⟨_, rfl⟩
             replace H : (if 0 ≤ (ji68) then (if (ji68) < (y260.length : Int) then ((some (y260.set ((ji68) : Int).toNat (⟨(rd_T43 y260 (ji68)).f0, 0⟩ : S43) : List (S43))).bind fun y269 => (if t258 = true then ((define_Right.f kj17 a0_0 y269).bind fun t270 => (if t270 = true then (some false) else ((define_Tries.f kj17 a0_0 y269).bind fun t271 => (some (t271 == 0))))) else (some false))) else (none)) else (none)) = some r := by first | (rw [hji68] at H; exact H) | (simp only [hji68] at H ⊢; exact H)
             by_cases c69 : 0 ≤ (ji68)
             ·
              rw [if_pos c69] at H
              have c69b0 : decide (0 ≤ (ji68)) = true := decide_eq_true c69
              clear c69
              by_cases c70 : (ji68) < (y260.length : Int)
              ·
               rw [if_pos c70] at H
               have c70b0 : decide ((ji68) < (y260.length : Int)) = true := decide_eq_true c70
               clear c70
               obtain ⟨y269, hy269⟩ : ∃ y_ : List (S43), y_ = (y260.set ((ji68) : Int).toNat (⟨(rd_T43 y260 (ji68)).f0, 0⟩ : S43)) := ⟨_, rfl⟩
               replace H : (if t258 = true then ((define_Right.f kj17 a0_0 y269).bind fun t270 => (if t270 = true then (some false) else ((define_Tries.f kj17 a0_0 y269).bind fun t271 => (some (t271 == 0))))) else (some false)) = some r := by first | (rw [hy269]; with_reducible exact H) | (have H2_ := (Option.bind_some _ _).symm.trans H; rw [hy269]; with_reducible exact H2_) | (have H2_ := (Option.bind_some _ _).symm.trans H; with_reducible exact H2_) | with_reducible exact H | (rw [hy269]; exact H) | exact H
               have Ny269 := Aside0.mk hy269
               clear hy269
               by_cases c72 : t258 = true
               ·
                subst c72
                have H1 : ((define_Right.f kj17 a0_0 y269).bind fun t270 => (if t270 = true then (some false) else ((define_Tries.f kj17 a0_0 y269).bind fun t271 => (some (t271 == 0))))) = some r := by rw [if_pos rfl] at H; exact H
                clear H
                have H := H1
                clear H1
                replace H := Option.bind_eq_some_iff.mp H
                obtain ⟨t270, A730, H⟩ := H
                replace H : (if t270 = true then (some false) else ((define_Tries.f kj17 a0_0 y269).bind fun t271 => (some (t271 == 0)))) = some r := H
                have A73 := Aside0.mk A730
                clear A730
                by_cases c74 : t270 = true
                ·
                 subst c74
                 have H1 : (some false) = some r := by rw [if_pos rfl] at H; exact H
                 clear H
                 have H := H1
                 clear H1
                 exact absurd ((Option.some.inj H).trans HRT_.out) (by decide)
                ·
                 replace c74 := Bool.eq_false_iff.mpr c74
                 subst c74
                 have H1 : ((define_Tries.f kj17 a0_0 y269).bind fun t271 => (some (t271 == 0))) = some r := by rw [if_neg (show ¬ (false = true) by decide)] at H; exact H
                 clear H
                 have H := H1
                 clear H1
                 replace H := Option.bind_eq_some_iff.mp H
                 obtain ⟨t271, A750, H⟩ := H
                 replace H : (some (t271 == 0)) = some r := H
                 have A75 := Aside0.mk A750
                 clear A750
                 obtain rfl := Option.some.inj H
                 try go_wp2
                 have n0_ := Aside0.mk (Zd BK257.out)
                 have n1_ := Aside0.mk (Yd HB.out)
                 clear BK257
                 clear HB
                 have BK257 := n0_
                 have HB := n1_
                 clear n0_ n1_
                 refine start_ (n := 8) (S := fun w' => w'.cell? ⟨gb257, 0, none⟩ = some (.string a0_0) ∧ w'.cell? ⟨gb257, 1, none⟩ = some (.slice A0_1 l0_1.length c0_1)) (ds := []) #[false, false, false, false, false, false, false, false] (by kernel_rfl) rfl rfl ⟨(Zc BK257.out 0).trans rfl, (Zc BK257.out 1).trans rfl⟩ (fun hHeld => ?_); refine with_tabW palinodelaw18_DefineSpoils.tab8 palinodelaw18_DefineSpoils.bits8 (fun HT_ HW_ => ?_)
                 generalize wc.drew = w76 at BK257 HB hHeld ⊢
                 refine pure_ (i := 0) (N := some 31) (v := ?_) (a' := ?_) #[true, false, false, false, false, false, false, false] rfl rfl (any_of HT_.out (by kernel_rfl)) (fun _ _ _ h => h) (Or.inl ⟨by rfl, ?_⟩) ?_ ?_
                 rotate_left
                 ·
                  intro w'
                  go_simp
                  with_reducible rfl
                 rotate_left
                 ·
                  simp only [Act.put, List.setIfInBounds_toArray, List.set_cons_zero, List.set_cons_succ, i64_w, i32_w]
                  rfl
                 refine pure_ (i := 2) (N := some 33) (v := ?_) (a' := ?_) #[true, false, true, false, false, false, false, false] rfl rfl (any_of HT_.out (by kernel_rfl)) (fun _ _ _ h => h) (Or.inl ⟨by rfl, ?_⟩) ?_ ?_
                 rotate_left
                 ·
                  intro w'
                  go_simp
                  with_reducible rfl
                 rotate_left
                 ·
                  simp only [Act.put, List.setIfInBounds_toArray, List.set_cons_zero, List.set_cons_succ, i64_w, i32_w]
                  rfl
                 refine take_ (i := 1) (N := some 32) (v := ?_) (a' := ?_) #[true, true, true, false, false, false, false, false] rfl rfl (take_ofW HT_.out HW_.out (by kernel_rfl)) (fun _ _ _ h => h) (Or.inl ⟨by rfl, ?_⟩) hHeld ?_ ?_
                 rotate_left
                 ·
                  rintro w' ⟨s0, s1⟩
                  go_simp
                  with_reducible rfl
                 rotate_left
                 ·
                  simp only [Act.put, List.setIfInBounds_toArray, List.set_cons_zero, List.set_cons_succ, i64_w, i32_w]
                  rfl
                 refine take_ (i := 3) (N := some 34) (v := ?_) (a' := ?_) #[true, true, true, true, false, false, false, false] rfl rfl (take_ofW HT_.out HW_.out (by kernel_rfl)) (fun _ _ _ h => h) (Or.inl ⟨by rfl, ?_⟩) hHeld ?_ ?_
                 rotate_left
                 ·
                  rintro w' ⟨s0, s1⟩
                  go_simp
                  with_reducible rfl
                 rotate_left
                 ·
                  simp only [Act.put, List.setIfInBounds_toArray, List.set_cons_zero, List.set_cons_succ, i64_w, i32_w]
                  rfl
                 refine join_ (σ := Value × Nat) 1 #[true, true, true, true, true, true, true, false] (fun s_ => [(35, s_.1), (8, .pointer (some ⟨s_.2, 0, none⟩)), (36, .agg #[.string a0_0, s_.1])]) (fun s_ w' => (w'.cell? ⟨gb257, 0, none⟩ = some (.string a0_0) ∧ w'.cell? ⟨gb257, 1, none⟩ = some (.slice A0_1 l0_1.length c0_1)) ∧ (Kd.R k43 43 w' w.heap.size (fun _ => True) s_.1 y260) ∧ (w'.heap[gb257]? = some (.cells #[.string a0_0, .slice A0_1 l0_1.length c0_1] 24 (0, 0))) ∧ (w'.heap[s_.2]? = some (.cells #[.string (⟨#[]⟩ : ByteArray), .slice none 0 0] 24 (0, 0))) ∧ (w.heap.size ≤ s_.2) ∧ (w.heap.size ≤ s_.2) ∧ (gb257 ≠ s_.2) ∧ (s_.2 ≠ gb257) ∧ (Below w.heap.size w w')) ?_ ?_
                 rotate_left
                 ·
                  intro hCont
                  refine two_ (i := 4) (j := 6) (Ni := some 35) (Nj := some 8) #[true, true, true, true, true, false, false, false] #[true, true, true, true, false, false, true, false] rfl rfl rfl rfl (two_of HT_.out (by kernel_rfl)) (by decide) (by decide) (fun K hK => ?_) (fun K hK => ?_)
                  ·
                   skip
                   refine Kd.R_append_rows_step k43 (w0 := w) w.heap.size (by rfl) (.const (.slice none 0 0)) (.tmp 34) 22 43 (.agg #[(.int .i64 0), (.int .i64 0)]) 16 rfl Try.underlying22 info43 rfl (by decide) (by omega) (.slice none 0 0) ([] : List (S43)) l0_1 _ _ _ (fun _ => True) (fun _ => False) rfl rfl ?aO ?aR (fun _ _ h => h) (fun _ h => h.elim) ?aF ?aB ?aS ?aL ?_
                   (case aR => repeat (first | exact (Kd.C_below HR0_1.out HB.out) | (with_reducible refine Kd.C_alloc ?_ _) | (with_reducible refine Kd.C_drewN ?_ _) | (with_reducible refine Kd.C_drew ?_)))
                   (case aB => exact (Yr HB))
                   (case aF => exact (fun _ _ => trivial))
                   (case aO => exact ((Kd.R_nil _ _ _ _ (fun _ => True))))
                   (case aS => exact (below_size (Yr HB)))
                   (case aL => have := LMc20.out; omega)
                   intro v261 w77 ho hb hg hat
                   rw [← Ny260.out] at ho
                   have n0_ := Aside0.mk (blk_grown (g := gb257) (o := .cells #[.string a0_0, .slice A0_1 l0_1.length c0_1] 24 (0, 0)) (Zr BK257) hg (by simp [Value.ownBlock]))
                   have n1_ := Aside0.mk (hb)
                   have n2_ := Aside0.mk (ho)
                   clear BK257
                   clear HB
                   have BK257 := n0_
                   have HB := n1_
                   have HO262 := n2_
                   clear n0_ n1_ n2_
                   clear ho hb hg hat
                   obtain ⟨Ao78, co78, eo78⟩ := Kd.R_slice HO262.out
                   (first | subst eo78 | (injection eo78 with f1_ f2_ f3_; have f4_ := f1_.symm; have f5_ := f3_.symm; clear f1_ f2_ f3_; subst f4_; subst f5_))
                   refine hK.out _ _ ⟨(Zc BK257.out 0).trans rfl, (Zc BK257.out 1).trans rfl⟩ (fun hHeld => ?_)
                   clear hK K
                   refine norm_ (a' := ?_) ?_ ?_
                   rotate_left
                   ·
                    show Act.put _ (some 35) _ = _
                    simp only [Act.put, List.setIfInBounds_toArray, List.set_cons_zero, List.set_cons_succ, i64_w, i32_w]
                    rfl
                   refine pure_ (i := 5) (N := some 36) (v := ?_) (a' := ?_) #[true, true, true, true, true, true, false, false] rfl rfl (any_of HT_.out (by kernel_rfl)) (fun _ _ _ h => h) (Or.inl ⟨by rfl, ?_⟩) ?_ ?_
                   rotate_left
                   ·
                    intro w'
                    go_simp
                    with_reducible rfl
                   rotate_left
                   ·
                    simp only [Act.put, List.setIfInBounds_toArray, List.set_cons_zero, List.set_cons_succ, i64_w, i32_w]
                    rfl
                   refine one_ (i := 6) (N := some 8) #[true, true, true, true, true, true, true, false] rfl rfl (one_of HT_.out (by kernel_rfl)) (by decide) (fun K hK => ?_)
                   refine box_step ?hg (N := 8) ?hd (cs := #[.string (⟨#[]⟩ : ByteArray), .slice none 0 0]) (t := 24) ?hr ?_; (case hd => rfl); (case hg => rfl); (case hr => first | (go_simp; done) | (go_simp; rfl))
                   intro gb263 hg w79 hbox hb
                   have n0_ := Aside0.mk (Kd.R_below (by (with_reducible repeat (first | apply Kd.R_alloc | apply Kd.R_drewN | apply Kd.R_drew)); exact HO262.out) hb)
                   have n1_ := Aside0.mk (Zv BK257 hb)
                   have n2_ := Aside0.mk (Yv HB hb)
                   have n3_ := Aside0.mk (hbox)
                   have n4_ := Aside0.mk (Yg HB hg)
                   have n5_ := Aside0.mk (Yg HB hg)
                   have n6_ := Aside0.mk (Zl BK257 hg)
                   have n7_ := Aside0.mk (Zg BK257 hg)
                   clear HO262
                   clear BK257
                   clear HB
                   have HO262 := n0_
                   have BK257 := n1_
                   have HB := n2_
                   have BK263 := n3_
                   have GW263 := n4_
                   have GE263 := n5_
                   have NB257_263 := n6_
                   have NB263_257 := n7_
                   clear n0_ n1_ n2_ n3_ n4_ n5_ n6_ n7_
                   clear hb hbox hg
                   refine hK.out _ _ ⟨(Zc BK257.out 0).trans rfl, (Zc BK257.out 1).trans rfl⟩ (fun hHeld => ?_)
                   clear hK K
                   refine norm_ (a' := ?_) ?_ ?_
                   rotate_left
                   ·
                    show Act.put _ (some 8) _ = _
                    simp only [Act.put, List.setIfInBounds_toArray, List.set_cons_zero, List.set_cons_succ, i64_w, i32_w]
                    rfl
                   exact norm_ (by simp only [putAll, Act.put, List.setIfInBounds_toArray, List.set_cons_zero, List.set_cons_succ]) (hCont (.slice Ao78 y260.length co78, gb263) _ ⟨hHeld, (by (with_reducible repeat (first | apply Kd.R_alloc | apply Kd.R_drewN | apply Kd.R_drew)); exact HO262.out), (Zr BK257), (Zr BK263), GW263.out, GE263.out, NB257_263.out, NB263_257.out, (Yr HB)⟩)
                  ·
                   skip
                   refine box_step ?hg (N := 8) ?hd (cs := #[.string (⟨#[]⟩ : ByteArray), .slice none 0 0]) (t := 24) ?hr ?_; (case hd => rfl); (case hg => rfl); (case hr => first | (go_simp; done) | (go_simp; rfl))
                   intro gb263 hg w77 hbox hb
                   have n0_ := Aside0.mk (Zv BK257 hb)
                   have n1_ := Aside0.mk (Yv HB hb)
                   have n2_ := Aside0.mk (hbox)
                   have n3_ := Aside0.mk (Yg HB hg)
                   have n4_ := Aside0.mk (Yg HB hg)
                   have n5_ := Aside0.mk (Zl BK257 hg)
                   have n6_ := Aside0.mk (Zg BK257 hg)
                   clear BK257
                   clear HB
                   have BK257 := n0_
                   have HB := n1_
                   have BK263 := n2_
                   have GW263 := n3_
                   have GE263 := n4_
                   have NB257_263 := n5_
                   have NB263_257 := n6_
                   clear n0_ n1_ n2_ n3_ n4_ n5_ n6_
                   clear hb hbox hg
                   refine hK.out _ _ ⟨(Zc BK257.out 0).trans rfl, (Zc BK257.out 1).trans rfl⟩ (fun hHeld => ?_)
                   clear hK K
                   refine norm_ (a' := ?_) ?_ ?_
                   rotate_left
                   ·
                    show Act.put _ (some 8) _ = _
                    simp only [Act.put, List.setIfInBounds_toArray, List.set_cons_zero, List.set_cons_succ, i64_w, i32_w]
                    rfl
                   refine one_ (i := 4) (N := some 35) #[true, true, true, true, true, false, true, false] rfl rfl (one_of HT_.out (by kernel_rfl)) (by decide) (fun K hK => ?_)
                   refine Kd.R_append_rows_step k43 (w0 := w) w.heap.size (by rfl) (.const (.slice none 0 0)) (.tmp 34) 22 43 (.agg #[(.int .i64 0), (.int .i64 0)]) 16 rfl Try.underlying22 info43 rfl (by decide) (by omega) (.slice none 0 0) ([] : List (S43)) l0_1 _ _ _ (fun _ => True) (fun _ => False) rfl rfl ?aO ?aR (fun _ _ h => h) (fun _ h => h.elim) ?aF ?aB ?aS ?aL ?_
                   (case aR => repeat (first | exact (Kd.C_below HR0_1.out HB.out) | (with_reducible refine Kd.C_alloc ?_ _) | (with_reducible refine Kd.C_drewN ?_ _) | (with_reducible refine Kd.C_drew ?_)))
                   (case aB => exact (Yr HB))
                   (case aF => exact (fun _ _ => trivial))
                   (case aO => exact ((Kd.R_nil _ _ _ _ (fun _ => True))))
                   (case aS => exact (below_size (Yr HB)))
                   (case aL => have := LMc20.out; omega)
                   intro v261 w78 ho hb hg hat
                   rw [← Ny260.out] at ho
                   have n0_ := Aside0.mk (blk_grown (g := gb257) (o := .cells #[.string a0_0, .slice A0_1 l0_1.length c0_1] 24 (0, 0)) (Zr BK257) hg (by simp [Value.ownBlock]))
                   have n1_ := Aside0.mk (blk_grown (g := gb263) (o := .cells #[.string (⟨#[]⟩ : ByteArray), .slice none 0 0] 24 (0, 0)) (Zr BK263) hg (by simp [Value.ownBlock]))
                   have n2_ := Aside0.mk (hb)
                   have n3_ := Aside0.mk (ho)
                   clear BK257
                   clear BK263
                   clear HB
                   have BK257 := n0_
                   have BK263 := n1_
                   have HB := n2_
                   have HO262 := n3_
                   clear n0_ n1_ n2_ n3_
                   clear ho hb hg hat
                   obtain ⟨Ao79, co79, eo79⟩ := Kd.R_slice HO262.out
                   (first | subst eo79 | (injection eo79 with f1_ f2_ f3_; have f4_ := f1_.symm; have f5_ := f3_.symm; clear f1_ f2_ f3_; subst f4_; subst f5_))
                   refine hK.out _ _ ⟨(Zc BK257.out 0).trans rfl, (Zc BK257.out 1).trans rfl⟩ (fun hHeld => ?_)
                   clear hK K
                   refine norm_ (a' := ?_) ?_ ?_
                   rotate_left
                   ·
                    show Act.put _ (some 35) _ = _
                    simp only [Act.put, List.setIfInBounds_toArray, List.set_cons_zero, List.set_cons_succ, i64_w, i32_w]
                    rfl
                   refine pure_ (i := 5) (N := some 36) (v := ?_) (a' := ?_) #[true, true, true, true, true, true, true, false] rfl rfl (any_of HT_.out (by kernel_rfl)) (fun _ _ _ h => h) (Or.inl ⟨by rfl, ?_⟩) ?_ ?_
                   rotate_left
                   ·
                    intro w'
                    go_simp
                    with_reducible rfl
                   rotate_left
                   ·
                    simp only [Act.put, List.setIfInBounds_toArray, List.set_cons_zero, List.set_cons_succ, i64_w, i32_w]
                    rfl
                   exact norm_ (by simp only [putAll, Act.put, List.setIfInBounds_toArray, List.set_cons_zero, List.set_cons_succ]) (hCont (.slice Ao79 y260.length co79, gb263) _ ⟨hHeld, (by (with_reducible repeat (first | apply Kd.R_alloc | apply Kd.R_drewN | apply Kd.R_drew)); exact HO262.out), (Zr BK257), (Zr BK263), GW263.out, GE263.out, NB257_263.out, NB263_257.out, (Yr HB)⟩)
                 rintro ⟨v261, gb263⟩ w80 ⟨hS_, h0_, h1_, h2_, h3_, h4_, h5_, h6_, h7_⟩
                 have n0_ : Aside0 (Kd.R k43 43 w80 w.heap.size (fun _ => True) v261 y260) := ⟨h0_⟩
                 have n1_ : Aside0 (w80.heap[gb257]? = some (.cells #[.string a0_0, .slice A0_1 l0_1.length c0_1] 24 (0, 0))) := ⟨h1_⟩
                 have n2_ : Aside0 (w80.heap[gb263]? = some (.cells #[.string (⟨#[]⟩ : ByteArray), .slice none 0 0] 24 (0, 0))) := ⟨h2_⟩
                 have n3_ : Aside0 (w.heap.size ≤ gb263) := ⟨h3_⟩
                 have n4_ : Aside0 (w.heap.size ≤ gb263) := ⟨h4_⟩
                 have n5_ : Aside0 (gb257 ≠ gb263) := ⟨h5_⟩
                 have n6_ : Aside0 (gb263 ≠ gb257) := ⟨h6_⟩
                 have n7_ : Aside0 (Below w.heap.size w w80) := ⟨h7_⟩
                 clear BK257
                 clear HB
                 clear h0_ h1_ h2_ h3_ h4_ h5_ h6_ h7_
                 have HO262 := n0_
                 have BK257 := n1_
                 have BK263 := n2_
                 have GW263 := n3_
                 have GE263 := n4_
                 have NB257_263 := n5_
                 have NB263_257 := n6_
                 have HB := n7_
                 clear n0_ n1_ n2_ n3_ n4_ n5_ n6_ n7_
                 have hHeld : w80.cell? ⟨gb257, 0, none⟩ = some (.string a0_0) ∧ w80.cell? ⟨gb257, 1, none⟩ = some (.slice A0_1 l0_1.length c0_1) := hS_
                 obtain ⟨Ao81, co81, eo81⟩ := Kd.R_slice HO262.out
                 (first | subst eo81 | (injection eo81 with f1_ f2_ f3_; have f4_ := f1_.symm; have f5_ := f3_.symm; clear f1_ f2_ f3_; subst f4_; subst f5_))
                 refine norm_ (a' := ?_) ?_ ?_
                 rotate_left
                 ·
                  simp only [putAll, Act.put, List.setIfInBounds_toArray, List.set_cons_zero, List.set_cons_succ]
                  rfl
                 refine one_ (i := 7) (N := none) #[true, true, true, true, true, true, true, true] rfl rfl (one_of HT_.out (by kernel_rfl)) (by decide) (fun K hK => ?_)
                 have hs82 : w80.cell? ⟨gb263, 0, none⟩ = some (.string (⟨#[]⟩ : ByteArray)) := (Zc BK263.out 0).trans rfl
                 have hfs82 := Zf BK263.out 0
                 have hns82_0 := NB257_263.out
                 have hms82_0 := NB263_257.out
                 have hs83 : w80.cell? ⟨gb263, 1, none⟩ = some (.slice none 0 0) := (Zc BK263.out 1).trans rfl
                 have hfs83 := Zf BK263.out 1
                 have hns83_0 := NB257_263.out
                 have hms83_0 := NB263_257.out
                 refine skip_ (w1 := ?_) (by rfl) rfl ?_ ?_
                 rotate_left
                 ·
                  go_simp
                  rfl
                 refine hK.out _ _ ⟨((cell_far (p := ⟨gb263, _, none⟩) NB257_263.out _).trans (((cell_far (p := ⟨gb263, _, none⟩) NB257_263.out _).trans (hHeld.1)))), ((cell_far (p := ⟨gb263, _, none⟩) NB257_263.out _).trans (((cell_far (p := ⟨gb263, _, none⟩) NB257_263.out _).trans (hHeld.2))))⟩ (fun hHeld => ?_)
                 clear hK K
                 refine done_ (done_of HT_.out (by kernel_rfl)) ?_
                 have n0_ : Aside0 (Kd.R k43 43 ((w80.setCell ⟨gb263, 0, none⟩ (.string a0_0)).setCell ⟨gb263, 1, none⟩ (.slice Ao81 y260.length co81)) w.heap.size (fun _ => True) (.slice Ao81 y260.length co81) y260) := ⟨by (with_reducible repeat (first | apply Kd.R_alloc | apply Kd.R_drewN | apply Kd.R_drew)); exact Kd.R_mono (Kd.R_far (p := ⟨gb263, 1, none⟩) (Kd.R_far (p := ⟨gb263, 0, none⟩) (Kd.R_types HO262.out BK263.out (by decide)) (fun _ hk => hk.2) (.string a0_0)) (fun _ hk => hk.2) (.slice Ao81 y260.length co81)) (fun _ hk => trivial)⟩
                 have n1_ : Aside0 (((w80.setCell ⟨gb263, 0, none⟩ (.string a0_0)).setCell ⟨gb263, 1, none⟩ (.slice Ao81 y260.length co81)).heap[gb257]? = some (.cells #[.string a0_0, .slice A0_1 l0_1.length c0_1] 24 (0, 0))) := ⟨by (with_reducible repeat (first | refine Zn ?_ _ | refine Zd ?_ | refine Za ?_ _)); refine Zq ?_ NB257_263.out _; (with_reducible repeat (first | refine Zn ?_ _ | refine Zd ?_ | refine Za ?_ _)); refine Zq ?_ NB257_263.out _; (with_reducible repeat (first | refine Zn ?_ _ | refine Zd ?_ | refine Za ?_ _)); exact BK257.out⟩
                 have n2_ : Aside0 (((w80.setCell ⟨gb263, 0, none⟩ (.string a0_0)).setCell ⟨gb263, 1, none⟩ (.slice Ao81 y260.length co81)).heap[gb263]? = some (.cells #[.string a0_0, .slice Ao81 y260.length co81] 24 (0, 0))) := ⟨by (with_reducible repeat (first | refine Zn ?_ _ | refine Zd ?_ | refine Za ?_ _)); refine Zp (cs := #[.string a0_0, .slice none 0 0]) ?_ 1 _ rfl; (with_reducible repeat (first | refine Zn ?_ _ | refine Zd ?_ | refine Za ?_ _)); refine Zp (cs := #[.string (⟨#[]⟩ : ByteArray), .slice none 0 0]) ?_ 0 _ rfl; (with_reducible repeat (first | refine Zn ?_ _ | refine Zd ?_ | refine Za ?_ _)); exact BK263.out⟩
                 have n3_ : Aside0 (Below w.heap.size w ((w80.setCell ⟨gb263, 0, none⟩ (.string a0_0)).setCell ⟨gb263, 1, none⟩ (.slice Ao81 y260.length co81))) := ⟨Yr HB⟩
                 (try clear HO262)
                 (try clear BK257)
                 (try clear BK263)
                 (try clear HB)
                 generalize ((w80.setCell ⟨gb263, 0, none⟩ (.string a0_0)).setCell ⟨gb263, 1, none⟩ (.slice Ao81 y260.length co81)) = w84 at n0_ n1_ n2_ n3_ ⊢
                 have HO262 := n0_
                 have BK257 := n1_
                 have BK263 := n2_
                 have HB := n3_
                 clear n0_ n1_ n2_ n3_
                 have hnb85 := NB263_257.out
                 have hnc85 := NB257_263.out
                 obtain ⟨⟨hcz86_0, hcz86_1⟩, hfz86_0, hfz86_1⟩ := Zk2 BK263
                 have p71 : 0 ≤ ((ji68) : Int) := of_decide_eq_true (by first | (with_reducible assumption) | assumption)
                 have q71 : ((ji68) : Int) < ((y260.length : Int) : Int) := of_decide_eq_true (by first | (with_reducible assumption) | assumption)
                 obtain ⟨go71, co71, eo71, gb71, gl71, cl71, HG71⟩ := Kd.R_form HO262.out (by omega)
                 (first | cases eo71 | (injection eo71 with ea_ en_ ec_; (first | subst ea_ | (injection ea_ with ea_; subst ea_)); subst ec_; clear en_))
                 have GB71 := Aside0.mk gb71
                 have GG71 := Aside0.mk HG71
                 clear gb71 gl71 HG71
                 obtain ⟨ce71, hcl71, hM71, hcc71, hfr71⟩ := Kd.R_elem HO262.out z43 ((ji68) : Int) p71 q71
                 obtain rfl := k43_openM hM71
                 have hx71_0 : w84.cell? ⟨go71, ((ji68) : Int).toNat * 2, none⟩ = some (.int .i64 ((rd_T43 y260 (ji68)).f0)) := hcc71 0 _ rfl
                 have hx71_1 : w84.cell? ⟨go71, ((ji68) : Int).toNat * 2 + 1, none⟩ = some (.int .i64 ((rd_T43 y260 (ji68)).f1)) := hcc71 1 _ rfl
                 have hf71_0 : w84.frozen? ⟨go71, ((ji68) : Int).toNat * 2, none⟩ = false := hfr71 0
                 have hf71_1 : w84.frozen? ⟨go71, ((ji68) : Int).toNat * 2 + 1, none⟩ = false := hfr71 1
                 clear hcl71 hcc71 hfr71 hM71
                 replace p71 := eq_true p71
                 replace q71 := eq_true q71
                 have HX87 := Aside0.mk (show Kd.R k43 43 w84 w.heap.size (fun _ => True) (.slice (some ⟨go71, 0, none⟩) y260.length co81) y260 from (by (with_reducible repeat (first | apply Kd.R_alloc | apply Kd.R_drewN | apply Kd.R_drew)); exact HO262.out))
                 obtain ⟨ce87, hcl87, hM87, hcc87, hfr87⟩ := Kd.R_elem HX87.out z43 ((ji68) : Int) (of_decide_eq_true (by first | (with_reducible assumption) | assumption)) (by have h_ : ((ji68) : Int) < ((y260.length : Int) : Int) := of_decide_eq_true (by first | (with_reducible assumption) | assumption); first | exact h_ | (have e_ := (Kd.R_reads' HO262.out).1; omega) | simpa using h_)
                 obtain rfl := k43_openM hM87
                 have HP87 := Kd.R_seg HX87.out ((ji68) : Int) (of_decide_eq_true (by first | (with_reducible assumption) | assumption)) (by have h_ : ((ji68) : Int) < ((y260.length : Int) : Int) := of_decide_eq_true (by first | (with_reducible assumption) | assumption); first | exact h_ | (have e_ := (Kd.R_reads' HO262.out).1; omega) | simpa using h_) (seg := [.int .i64 0]) (j := 1) hcl87 hcc87 (show 2 ≤ 2 from by decide) (x' := (⟨(rd_T43 y260 (ji68)).f0, 0⟩ : S43)) (k43_mkM _ _ _ (⟨(rd_T43 y260 (ji68)).f0, 0⟩ : S43) ) (fun _ hk => hk)
                 have hx87_1 := hcc87 1 _ rfl
                 (try simp only [show (k43).sz = 2 from rfl, Nat.mul_one, Nat.add_zero] at hx87_1)
                 have hf87_1 := hfr87 1
                 (try simp only [show (k43).sz = 2 from rfl, Nat.mul_one, Nat.add_zero] at hf87_1)
                 clear hcl87 hcc87 hfr87 hM87
                 try go_wp2_with (first | ((with_reducible refine gate_store (t := 3) (p := 68) rfl ?_); refine store_event (t := 3) (p := 68) (v := ?vo_w88) (w1 := (w84.setCell ⟨go71, ((ji68) : Int).toNat * 2 + 1, none⟩ (.int .i64 0))) ?hg ?ho ?hn ?hr ?_; (case ho => rfl); (case hg => rfl); (case hn => rfl); (case hr => first | (go_simp; done) | (go_simp; rfl)); intro w88 hw; have hg : w84.grownBy w88 (some go71) := (by rw [hw]; exact HP87.2); have hp_ : Kd.R k43 43 w88 w.heap.size (fun _ => True) (.slice (some ⟨go71, 0, none⟩) y260.length co81) y269 := (by rw [hw, Ny269.out]; exact HP87.1); clear HP87; have n0_ := Aside0.mk (blk_grown (g := gb257) (o := .cells #[.string a0_0, .slice A0_1 l0_1.length c0_1] 24 (0, 0)) (Zr BK257) hg (Kd.R_ne HO262.out BK257.out (by decide))); have n1_ := Aside0.mk (hp_); have n2_ := Aside0.mk (blk_grown (g := gb263) (o := .cells #[.string a0_0, .slice (some ⟨go71, 0, none⟩) y260.length co81] 24 (0, 0)) (Zr BK263) hg (Kd.R_ne HO262.out BK263.out (by decide))); have n3_ := Aside0.mk ((by rw [hw]; exact Ys (HB.out) GB71.out : Below w.heap.size w w88)); clear BK257; clear HO262; clear BK263; clear HB; have BK257 := n0_; have HO262 := n1_; have BK263 := n2_; have HB := n3_; clear n0_ n1_ n2_ n3_; clear hg hw hp_; obtain ⟨⟨hcz89_0, hcz89_1⟩, hfz89_0, hfz89_1⟩ := Zk2 BK263) | (go_at_call 11; refine calls_of_args (args' := #[.agg #[.string a0_0, .slice (some ⟨go71, 0, none⟩) y269.length co81]]) (by first | (rw [show y269.length = y260.length from (Kd.R_reads' HO262.out).1.symm] <;> rfl) | rfl) ?_; (with_reducible refine (define_Right.calls kj17 a0_0 _ _ y269 false _ ?side1 ?side2 A73.out).mono ?_); (case side1 => repeat (first | exact (Kd.R_reads' HO262.out).2.2 | (with_reducible refine Kd.C_alloc ?_ _) | (with_reducible refine Kd.C_drewN ?_ _) | (with_reducible refine Kd.C_drew ?_))); (case side2 => rw [show y269.length = y260.length from (Kd.R_reads' HO262.out).1.symm]; exact (Kd.R_reads' HO262.out).2.1); rintro e w90 ⟨rfl, hb⟩; have n0_ := Aside0.mk (Kd.R_below (by (with_reducible repeat (first | apply Kd.R_alloc | apply Kd.R_drewN | apply Kd.R_drew)); exact HO262.out) hb); have n1_ := Aside0.mk (Zv BK257 hb); have n2_ := Aside0.mk (Zv BK263 hb); have n3_ := Aside0.mk (Yv HB hb); clear HO262; clear BK257; clear BK263; clear HB; have HO262 := n0_; have BK257 := n1_; have BK263 := n2_; have HB := n3_; clear n0_ n1_ n2_ n3_; (try clear hb); (try clear hb2); (try clear hk); (try clear hi); obtain ⟨⟨hcz91_0, hcz91_1⟩, hfz91_0, hfz91_1⟩ := Zk2 BK263) | (go_at_call 13; refine calls_of_args (args' := #[.agg #[.string a0_0, .slice (some ⟨go71, 0, none⟩) y269.length co81]]) (by first | (rw [show y269.length = y260.length from (Kd.R_reads' HO262.out).1.symm] <;> rfl) | rfl) ?_; (with_reducible refine (define_Tries.calls kj17 a0_0 _ _ y269 t271 _ ?side1 ?side2 A75.out).mono ?_); (case side1 => repeat (first | exact (Kd.R_reads' HO262.out).2.2 | (with_reducible refine Kd.C_alloc ?_ _) | (with_reducible refine Kd.C_drewN ?_ _) | (with_reducible refine Kd.C_drew ?_))); (case side2 => rw [show y269.length = y260.length from (Kd.R_reads' HO262.out).1.symm]; exact (Kd.R_reads' HO262.out).2.1); rintro e w92 ⟨rfl, hb⟩; have n0_ := Aside0.mk (Kd.R_below (by (with_reducible repeat (first | apply Kd.R_alloc | apply Kd.R_drewN | apply Kd.R_drew)); exact HO262.out) hb); have n1_ := Aside0.mk (Zv BK257 hb); have n2_ := Aside0.mk (Zv BK263 hb); have n3_ := Aside0.mk (Yv HB hb); clear HO262; clear BK257; clear BK263; clear HB; have HO262 := n0_; have BK257 := n1_; have BK263 := n2_; have HB := n3_; clear n0_ n1_ n2_ n3_; (try clear hb); (try clear hb2); (try clear hk); (try clear hi)))
                 go_ret
                 exact ⟨by first | rfl | (simp [errW_none, errW_some] <;> rfl) | (simp only [← hji68]; first | rfl | (simp [errW_none, errW_some] <;> rfl)) | (simp [*, errW_none, errW_some] <;> rfl), Yr HB⟩
               ·
                replace c72 := Bool.eq_false_iff.mpr c72
                subst c72
                have H1 : (some false) = some r := by rw [if_neg (show ¬ (false = true) by decide)] at H; exact H
                clear H
                have H := H1
                clear H1
                exact absurd ((Option.some.inj H).trans HRT_.out) (by decide)
              ·
               rw [if_neg c70] at H
               exact absurd H (by simp)
             ·
              rw [if_neg c69] at H
              exact absurd H (by simp)
            ·
             rw [if_neg c67] at H
             have c67b0 : ((Int.tmod x2_17 6) == 2) = false := beq_eq_false_iff_ne.mpr c67
             have c67b1 : ((Int.tmod x2_17 6) != 2) = true := bne_iff_ne.mpr c67
             by_cases c93 : (Int.tmod x2_17 6) = 3
             ·
              rw [if_pos c93] at H
              have c93b0 : ((Int.tmod x2_17 6) == 3) = true := beq_iff_eq.mpr c93
              have c93b1 : ((Int.tmod x2_17 6) != 3) = false := bne_eq_false_iff_eq.mpr c93
              clear c93
              obtain ⟨ji94, hji94⟩ : ∃ j_ : Int, (Int.tmod x1_15 (y260.length : Int)) = j_ := ⟨_, rfl⟩
              replace H : (if 0 ≤ (ji94) then (if (ji94) < (y260.length : Int) then ((some (y260.set ((ji94) : Int).toNat (⟨(rd_T43 y260 (ji94)).f0, 10001⟩ : S43) : List (S43))).bind fun y272 => (if t258 = true then ((define_Right.f kj17 a0_0 y272).bind fun t273 => (if t273 = true then (some false) else ((define_Tries.f kj17 a0_0 y272).bind fun t274 => (some (t274 == 0))))) else (some false))) else (none)) else (none)) = some r := by first | (rw [hji94] at H; exact H) | (simp only [hji94] at H ⊢; exact H)
              by_cases c95 : 0 ≤ (ji94)
              ·
               rw [if_pos c95] at H
               have c95b0 : decide (0 ≤ (ji94)) = true := decide_eq_true c95
               clear c95
               by_cases c96 : (ji94) < (y260.length : Int)
               ·
                rw [if_pos c96] at H
                have c96b0 : decide ((ji94) < (y260.length : Int)) = true := decide_eq_true c96
                clear c96
                obtain ⟨y272, hy272⟩ : ∃ y_ : List (S43), y_ = (y260.set ((ji94) : Int).toNat (⟨(rd_T43 y260 (ji94)).f0, 10001⟩ : S43)) := ⟨_, rfl⟩
                replace H : (if t258 = true then ((define_Right.f kj17 a0_0 y272).bind fun t273 => (if t273 = true then (some false) else ((define_Tries.f kj17 a0_0 y272).bind fun t274 => (some (t274 == 0))))) else (some false)) = some r := by first | (rw [hy272]; with_reducible exact H) | (have H2_ := (Option.bind_some _ _).symm.trans H; rw [hy272]; with_reducible exact H2_) | (have H2_ := (Option.bind_some _ _).symm.trans H; with_reducible exact H2_) | with_reducible exact H | (rw [hy272]; exact H) | exact H
                have Ny272 := Aside0.mk hy272
                clear hy272
                by_cases c98 : t258 = true
                ·
                 subst c98
                 have H1 : ((define_Right.f kj17 a0_0 y272).bind fun t273 => (if t273 = true then (some false) else ((define_Tries.f kj17 a0_0 y272).bind fun t274 => (some (t274 == 0))))) = some r := by rw [if_pos rfl] at H; exact H
                 clear H
                 have H := H1
                 clear H1
                 replace H := Option.bind_eq_some_iff.mp H
                 obtain ⟨t273, A990, H⟩ := H
                 replace H : (if t273 = true then (some false) else ((define_Tries.f kj17 a0_0 y272).bind fun t274 => (some (t274 == 0)))) = some r := H
                 have A99 := Aside0.mk A990
                 clear A990
                 by_cases c100 : t273 = true
                 ·
                  subst c100
                  have H1 : (some false) = some r := by rw [if_pos rfl] at H; exact H
                  clear H
                  have H := H1
                  clear H1
                  exact absurd ((Option.some.inj H).trans HRT_.out) (by decide)
                 ·
                  replace c100 := Bool.eq_false_iff.mpr c100
                  subst c100
                  have H1 : ((define_Tries.f kj17 a0_0 y272).bind fun t274 => (some (t274 == 0))) = some r := by rw [if_neg (show ¬ (false = true) by decide)] at H; exact H
                  clear H
                  have H := H1
                  clear H1
                  replace H := Option.bind_eq_some_iff.mp H
                  obtain ⟨t274, A1010, H⟩ := H
                  replace H : (some (t274 == 0)) = some r := H
                  have A101 := Aside0.mk A1010
                  clear A1010
                  obtain rfl := Option.some.inj H
                  try go_wp2
                  have n0_ := Aside0.mk (Zd BK257.out)
                  have n1_ := Aside0.mk (Yd HB.out)
                  clear BK257
                  clear HB
                  have BK257 := n0_
                  have HB := n1_
                  clear n0_ n1_
                  refine start_ (n := 8) (S := fun w' => w'.cell? ⟨gb257, 0, none⟩ = some (.string a0_0) ∧ w'.cell? ⟨gb257, 1, none⟩ = some (.slice A0_1 l0_1.length c0_1)) (ds := []) #[false, false, false, false, false, false, false, false] (by kernel_rfl) rfl rfl ⟨(Zc BK257.out 0).trans rfl, (Zc BK257.out 1).trans rfl⟩ (fun hHeld => ?_); refine with_tabW palinodelaw18_DefineSpoils.tab8 palinodelaw18_DefineSpoils.bits8 (fun HT_ HW_ => ?_)
                  generalize wc.drew = w102 at BK257 HB hHeld ⊢
                  refine pure_ (i := 0) (N := some 31) (v := ?_) (a' := ?_) #[true, false, false, false, false, false, false, false] rfl rfl (any_of HT_.out (by kernel_rfl)) (fun _ _ _ h => h) (Or.inl ⟨by rfl, ?_⟩) ?_ ?_
                  rotate_left
                  ·
                   intro w'
                   go_simp
                   with_reducible rfl
                  rotate_left
                  ·
                   simp only [Act.put, List.setIfInBounds_toArray, List.set_cons_zero, List.set_cons_succ, i64_w, i32_w]
                   rfl
                  refine pure_ (i := 2) (N := some 33) (v := ?_) (a' := ?_) #[true, false, true, false, false, false, false, false] rfl rfl (any_of HT_.out (by kernel_rfl)) (fun _ _ _ h => h) (Or.inl ⟨by rfl, ?_⟩) ?_ ?_
                  rotate_left
                  ·
                   intro w'
                   go_simp
                   with_reducible rfl
                  rotate_left
                  ·
                   simp only [Act.put, List.setIfInBounds_toArray, List.set_cons_zero, List.set_cons_succ, i64_w, i32_w]
                   rfl
                  refine take_ (i := 1) (N := some 32) (v := ?_) (a' := ?_) #[true, true, true, false, false, false, false, false] rfl rfl (take_ofW HT_.out HW_.out (by kernel_rfl)) (fun _ _ _ h => h) (Or.inl ⟨by rfl, ?_⟩) hHeld ?_ ?_
                  rotate_left
                  ·
                   rintro w' ⟨s0, s1⟩
                   go_simp
                   with_reducible rfl
                  rotate_left
                  ·
                   simp only [Act.put, List.setIfInBounds_toArray, List.set_cons_zero, List.set_cons_succ, i64_w, i32_w]
                   rfl
                  refine take_ (i := 3) (N := some 34) (v := ?_) (a' := ?_) #[true, true, true, true, false, false, false, false] rfl rfl (take_ofW HT_.out HW_.out (by kernel_rfl)) (fun _ _ _ h => h) (Or.inl ⟨by rfl, ?_⟩) hHeld ?_ ?_
                  rotate_left
                  ·
                   rintro w' ⟨s0, s1⟩
                   go_simp
                   with_reducible rfl
                  rotate_left
                  ·
                   simp only [Act.put, List.setIfInBounds_toArray, List.set_cons_zero, List.set_cons_succ, i64_w, i32_w]
                   rfl
                  refine join_ (σ := Value × Nat) 1 #[true, true, true, true, true, true, true, false] (fun s_ => [(35, s_.1), (8, .pointer (some ⟨s_.2, 0, none⟩)), (36, .agg #[.string a0_0, s_.1])]) (fun s_ w' => (w'.cell? ⟨gb257, 0, none⟩ = some (.string a0_0) ∧ w'.cell? ⟨gb257, 1, none⟩ = some (.slice A0_1 l0_1.length c0_1)) ∧ (Kd.R k43 43 w' w.heap.size (fun _ => True) s_.1 y260) ∧ (w'.heap[gb257]? = some (.cells #[.string a0_0, .slice A0_1 l0_1.length c0_1] 24 (0, 0))) ∧ (w'.heap[s_.2]? = some (.cells #[.string (⟨#[]⟩ : ByteArray), .slice none 0 0] 24 (0, 0))) ∧ (w.heap.size ≤ s_.2) ∧ (w.heap.size ≤ s_.2) ∧ (gb257 ≠ s_.2) ∧ (s_.2 ≠ gb257) ∧ (Below w.heap.size w w')) ?_ ?_
                  rotate_left
                  ·
                   intro hCont
                   refine two_ (i := 4) (j := 6) (Ni := some 35) (Nj := some 8) #[true, true, true, true, true, false, false, false] #[true, true, true, true, false, false, true, false] rfl rfl rfl rfl (two_of HT_.out (by kernel_rfl)) (by decide) (by decide) (fun K hK => ?_) (fun K hK => ?_)
                   ·
                    skip
                    refine Kd.R_append_rows_step k43 (w0 := w) w.heap.size (by rfl) (.const (.slice none 0 0)) (.tmp 34) 22 43 (.agg #[(.int .i64 0), (.int .i64 0)]) 16 rfl Try.underlying22 info43 rfl (by decide) (by omega) (.slice none 0 0) ([] : List (S43)) l0_1 _ _ _ (fun _ => True) (fun _ => False) rfl rfl ?aO ?aR (fun _ _ h => h) (fun _ h => h.elim) ?aF ?aB ?aS ?aL ?_
                    (case aR => repeat (first | exact (Kd.C_below HR0_1.out HB.out) | (with_reducible refine Kd.C_alloc ?_ _) | (with_reducible refine Kd.C_drewN ?_ _) | (with_reducible refine Kd.C_drew ?_)))
                    (case aB => exact (Yr HB))
                    (case aF => exact (fun _ _ => trivial))
                    (case aO => exact ((Kd.R_nil _ _ _ _ (fun _ => True))))
                    (case aS => exact (below_size (Yr HB)))
                    (case aL => have := LMc20.out; omega)
                    intro v261 w103 ho hb hg hat
                    rw [← Ny260.out] at ho
                    have n0_ := Aside0.mk (blk_grown (g := gb257) (o := .cells #[.string a0_0, .slice A0_1 l0_1.length c0_1] 24 (0, 0)) (Zr BK257) hg (by simp [Value.ownBlock]))
                    have n1_ := Aside0.mk (hb)
                    have n2_ := Aside0.mk (ho)
                    clear BK257
                    clear HB
                    have BK257 := n0_
                    have HB := n1_
                    have HO262 := n2_
                    clear n0_ n1_ n2_
                    clear ho hb hg hat
                    obtain ⟨Ao104, co104, eo104⟩ := Kd.R_slice HO262.out
                    (first | subst eo104 | (injection eo104 with f1_ f2_ f3_; have f4_ := f1_.symm; have f5_ := f3_.symm; clear f1_ f2_ f3_; subst f4_; subst f5_))
                    refine hK.out _ _ ⟨(Zc BK257.out 0).trans rfl, (Zc BK257.out 1).trans rfl⟩ (fun hHeld => ?_)
                    clear hK K
                    refine norm_ (a' := ?_) ?_ ?_
                    rotate_left
                    ·
                     show Act.put _ (some 35) _ = _
                     simp only [Act.put, List.setIfInBounds_toArray, List.set_cons_zero, List.set_cons_succ, i64_w, i32_w]
                     rfl
                    refine pure_ (i := 5) (N := some 36) (v := ?_) (a' := ?_) #[true, true, true, true, true, true, false, false] rfl rfl (any_of HT_.out (by kernel_rfl)) (fun _ _ _ h => h) (Or.inl ⟨by rfl, ?_⟩) ?_ ?_
                    rotate_left
                    ·
                     intro w'
                     go_simp
                     with_reducible rfl
                    rotate_left
                    ·
                     simp only [Act.put, List.setIfInBounds_toArray, List.set_cons_zero, List.set_cons_succ, i64_w, i32_w]
                     rfl
                    refine one_ (i := 6) (N := some 8) #[true, true, true, true, true, true, true, false] rfl rfl (one_of HT_.out (by kernel_rfl)) (by decide) (fun K hK => ?_)
                    refine box_step ?hg (N := 8) ?hd (cs := #[.string (⟨#[]⟩ : ByteArray), .slice none 0 0]) (t := 24) ?hr ?_; (case hd => rfl); (case hg => rfl); (case hr => first | (go_simp; done) | (go_simp; rfl))
                    intro gb263 hg w105 hbox hb
                    have n0_ := Aside0.mk (Kd.R_below (by (with_reducible repeat (first | apply Kd.R_alloc | apply Kd.R_drewN | apply Kd.R_drew)); exact HO262.out) hb)
                    have n1_ := Aside0.mk (Zv BK257 hb)
                    have n2_ := Aside0.mk (Yv HB hb)
                    have n3_ := Aside0.mk (hbox)
                    have n4_ := Aside0.mk (Yg HB hg)
                    have n5_ := Aside0.mk (Yg HB hg)
                    have n6_ := Aside0.mk (Zl BK257 hg)
                    have n7_ := Aside0.mk (Zg BK257 hg)
                    clear HO262
                    clear BK257
                    clear HB
                    have HO262 := n0_
                    have BK257 := n1_
                    have HB := n2_
                    have BK263 := n3_
                    have GW263 := n4_
                    have GE263 := n5_
                    have NB257_263 := n6_
                    have NB263_257 := n7_
                    clear n0_ n1_ n2_ n3_ n4_ n5_ n6_ n7_
                    clear hb hbox hg
                    refine hK.out _ _ ⟨(Zc BK257.out 0).trans rfl, (Zc BK257.out 1).trans rfl⟩ (fun hHeld => ?_)
                    clear hK K
                    refine norm_ (a' := ?_) ?_ ?_
                    rotate_left
                    ·
                     show Act.put _ (some 8) _ = _
                     simp only [Act.put, List.setIfInBounds_toArray, List.set_cons_zero, List.set_cons_succ, i64_w, i32_w]
                     rfl
                    exact norm_ (by simp only [putAll, Act.put, List.setIfInBounds_toArray, List.set_cons_zero, List.set_cons_succ]) (hCont (.slice Ao104 y260.length co104, gb263) _ ⟨hHeld, (by (with_reducible repeat (first | apply Kd.R_alloc | apply Kd.R_drewN | apply Kd.R_drew)); exact HO262.out), (Zr BK257), (Zr BK263), GW263.out, GE263.out, NB257_263.out, NB263_257.out, (Yr HB)⟩)
                   ·
                    skip
                    refine box_step ?hg (N := 8) ?hd (cs := #[.string (⟨#[]⟩ : ByteArray), .slice none 0 0]) (t := 24) ?hr ?_; (case hd => rfl); (case hg => rfl); (case hr => first | (go_simp; done) | (go_simp; rfl))
                    intro gb263 hg w103 hbox hb
                    have n0_ := Aside0.mk (Zv BK257 hb)
                    have n1_ := Aside0.mk (Yv HB hb)
                    have n2_ := Aside0.mk (hbox)
                    have n3_ := Aside0.mk (Yg HB hg)
                    have n4_ := Aside0.mk (Yg HB hg)
                    have n5_ := Aside0.mk (Zl BK257 hg)
                    have n6_ := Aside0.mk (Zg BK257 hg)
                    clear BK257
                    clear HB
                    have BK257 := n0_
                    have HB := n1_
                    have BK263 := n2_
                    have GW263 := n3_
                    have GE263 := n4_
                    have NB257_263 := n5_
                    have NB263_257 := n6_
                    clear n0_ n1_ n2_ n3_ n4_ n5_ n6_
                    clear hb hbox hg
                    refine hK.out _ _ ⟨(Zc BK257.out 0).trans rfl, (Zc BK257.out 1).trans rfl⟩ (fun hHeld => ?_)
                    clear hK K
                    refine norm_ (a' := ?_) ?_ ?_
                    rotate_left
                    ·
                     show Act.put _ (some 8) _ = _
                     simp only [Act.put, List.setIfInBounds_toArray, List.set_cons_zero, List.set_cons_succ, i64_w, i32_w]
                     rfl
                    refine one_ (i := 4) (N := some 35) #[true, true, true, true, true, false, true, false] rfl rfl (one_of HT_.out (by kernel_rfl)) (by decide) (fun K hK => ?_)
                    refine Kd.R_append_rows_step k43 (w0 := w) w.heap.size (by rfl) (.const (.slice none 0 0)) (.tmp 34) 22 43 (.agg #[(.int .i64 0), (.int .i64 0)]) 16 rfl Try.underlying22 info43 rfl (by decide) (by omega) (.slice none 0 0) ([] : List (S43)) l0_1 _ _ _ (fun _ => True) (fun _ => False) rfl rfl ?aO ?aR (fun _ _ h => h) (fun _ h => h.elim) ?aF ?aB ?aS ?aL ?_
                    (case aR => repeat (first | exact (Kd.C_below HR0_1.out HB.out) | (with_reducible refine Kd.C_alloc ?_ _) | (with_reducible refine Kd.C_drewN ?_ _) | (with_reducible refine Kd.C_drew ?_)))
                    (case aB => exact (Yr HB))
                    (case aF => exact (fun _ _ => trivial))
                    (case aO => exact ((Kd.R_nil _ _ _ _ (fun _ => True))))
                    (case aS => exact (below_size (Yr HB)))
                    (case aL => have := LMc20.out; omega)
                    intro v261 w104 ho hb hg hat
                    rw [← Ny260.out] at ho
                    have n0_ := Aside0.mk (blk_grown (g := gb257) (o := .cells #[.string a0_0, .slice A0_1 l0_1.length c0_1] 24 (0, 0)) (Zr BK257) hg (by simp [Value.ownBlock]))
                    have n1_ := Aside0.mk (blk_grown (g := gb263) (o := .cells #[.string (⟨#[]⟩ : ByteArray), .slice none 0 0] 24 (0, 0)) (Zr BK263) hg (by simp [Value.ownBlock]))
                    have n2_ := Aside0.mk (hb)
                    have n3_ := Aside0.mk (ho)
                    clear BK257
                    clear BK263
                    clear HB
                    have BK257 := n0_
                    have BK263 := n1_
                    have HB := n2_
                    have HO262 := n3_
                    clear n0_ n1_ n2_ n3_
                    clear ho hb hg hat
                    obtain ⟨Ao105, co105, eo105⟩ := Kd.R_slice HO262.out
                    (first | subst eo105 | (injection eo105 with f1_ f2_ f3_; have f4_ := f1_.symm; have f5_ := f3_.symm; clear f1_ f2_ f3_; subst f4_; subst f5_))
                    refine hK.out _ _ ⟨(Zc BK257.out 0).trans rfl, (Zc BK257.out 1).trans rfl⟩ (fun hHeld => ?_)
                    clear hK K
                    refine norm_ (a' := ?_) ?_ ?_
                    rotate_left
                    ·
                     show Act.put _ (some 35) _ = _
                     simp only [Act.put, List.setIfInBounds_toArray, List.set_cons_zero, List.set_cons_succ, i64_w, i32_w]
                     rfl
                    refine pure_ (i := 5) (N := some 36) (v := ?_) (a' := ?_) #[true, true, true, true, true, true, true, false] rfl rfl (any_of HT_.out (by kernel_rfl)) (fun _ _ _ h => h) (Or.inl ⟨by rfl, ?_⟩) ?_ ?_
                    rotate_left
                    ·
                     intro w'
                     go_simp
                     with_reducible rfl
                    rotate_left
                    ·
                     simp only [Act.put, List.setIfInBounds_toArray, List.set_cons_zero, List.set_cons_succ, i64_w, i32_w]
                     rfl
                    exact norm_ (by simp only [putAll, Act.put, List.setIfInBounds_toArray, List.set_cons_zero, List.set_cons_succ]) (hCont (.slice Ao105 y260.length co105, gb263) _ ⟨hHeld, (by (with_reducible repeat (first | apply Kd.R_alloc | apply Kd.R_drewN | apply Kd.R_drew)); exact HO262.out), (Zr BK257), (Zr BK263), GW263.out, GE263.out, NB257_263.out, NB263_257.out, (Yr HB)⟩)
                  rintro ⟨v261, gb263⟩ w106 ⟨hS_, h0_, h1_, h2_, h3_, h4_, h5_, h6_, h7_⟩
                  have n0_ : Aside0 (Kd.R k43 43 w106 w.heap.size (fun _ => True) v261 y260) := ⟨h0_⟩
                  have n1_ : Aside0 (w106.heap[gb257]? = some (.cells #[.string a0_0, .slice A0_1 l0_1.length c0_1] 24 (0, 0))) := ⟨h1_⟩
                  have n2_ : Aside0 (w106.heap[gb263]? = some (.cells #[.string (⟨#[]⟩ : ByteArray), .slice none 0 0] 24 (0, 0))) := ⟨h2_⟩
                  have n3_ : Aside0 (w.heap.size ≤ gb263) := ⟨h3_⟩
                  have n4_ : Aside0 (w.heap.size ≤ gb263) := ⟨h4_⟩
                  have n5_ : Aside0 (gb257 ≠ gb263) := ⟨h5_⟩
                  have n6_ : Aside0 (gb263 ≠ gb257) := ⟨h6_⟩
                  have n7_ : Aside0 (Below w.heap.size w w106) := ⟨h7_⟩
                  clear BK257
                  clear HB
                  clear h0_ h1_ h2_ h3_ h4_ h5_ h6_ h7_
                  have HO262 := n0_
                  have BK257 := n1_
                  have BK263 := n2_
                  have GW263 := n3_
                  have GE263 := n4_
                  have NB257_263 := n5_
                  have NB263_257 := n6_
                  have HB := n7_
                  clear n0_ n1_ n2_ n3_ n4_ n5_ n6_ n7_
                  have hHeld : w106.cell? ⟨gb257, 0, none⟩ = some (.string a0_0) ∧ w106.cell? ⟨gb257, 1, none⟩ = some (.slice A0_1 l0_1.length c0_1) := hS_
                  obtain ⟨Ao107, co107, eo107⟩ := Kd.R_slice HO262.out
                  (first | subst eo107 | (injection eo107 with f1_ f2_ f3_; have f4_ := f1_.symm; have f5_ := f3_.symm; clear f1_ f2_ f3_; subst f4_; subst f5_))
                  refine norm_ (a' := ?_) ?_ ?_
                  rotate_left
                  ·
                   simp only [putAll, Act.put, List.setIfInBounds_toArray, List.set_cons_zero, List.set_cons_succ]
                   rfl
                  refine one_ (i := 7) (N := none) #[true, true, true, true, true, true, true, true] rfl rfl (one_of HT_.out (by kernel_rfl)) (by decide) (fun K hK => ?_)
                  have hs108 : w106.cell? ⟨gb263, 0, none⟩ = some (.string (⟨#[]⟩ : ByteArray)) := (Zc BK263.out 0).trans rfl
                  have hfs108 := Zf BK263.out 0
                  have hns108_0 := NB257_263.out
                  have hms108_0 := NB263_257.out
                  have hs109 : w106.cell? ⟨gb263, 1, none⟩ = some (.slice none 0 0) := (Zc BK263.out 1).trans rfl
                  have hfs109 := Zf BK263.out 1
                  have hns109_0 := NB257_263.out
                  have hms109_0 := NB263_257.out
                  refine skip_ (w1 := ?_) (by rfl) rfl ?_ ?_
                  rotate_left
                  ·
                   go_simp
                   rfl
                  refine hK.out _ _ ⟨((cell_far (p := ⟨gb263, _, none⟩) NB257_263.out _).trans (((cell_far (p := ⟨gb263, _, none⟩) NB257_263.out _).trans (hHeld.1)))), ((cell_far (p := ⟨gb263, _, none⟩) NB257_263.out _).trans (((cell_far (p := ⟨gb263, _, none⟩) NB257_263.out _).trans (hHeld.2))))⟩ (fun hHeld => ?_)
                  clear hK K
                  refine done_ (done_of HT_.out (by kernel_rfl)) ?_
                  have n0_ : Aside0 (Kd.R k43 43 ((w106.setCell ⟨gb263, 0, none⟩ (.string a0_0)).setCell ⟨gb263, 1, none⟩ (.slice Ao107 y260.length co107)) w.heap.size (fun _ => True) (.slice Ao107 y260.length co107) y260) := ⟨by (with_reducible repeat (first | apply Kd.R_alloc | apply Kd.R_drewN | apply Kd.R_drew)); exact Kd.R_mono (Kd.R_far (p := ⟨gb263, 1, none⟩) (Kd.R_far (p := ⟨gb263, 0, none⟩) (Kd.R_types HO262.out BK263.out (by decide)) (fun _ hk => hk.2) (.string a0_0)) (fun _ hk => hk.2) (.slice Ao107 y260.length co107)) (fun _ hk => trivial)⟩
                  have n1_ : Aside0 (((w106.setCell ⟨gb263, 0, none⟩ (.string a0_0)).setCell ⟨gb263, 1, none⟩ (.slice Ao107 y260.length co107)).heap[gb257]? = some (.cells #[.string a0_0, .slice A0_1 l0_1.length c0_1] 24 (0, 0))) := ⟨by (with_reducible repeat (first | refine Zn ?_ _ | refine Zd ?_ | refine Za ?_ _)); refine Zq ?_ NB257_263.out _; (with_reducible repeat (first | refine Zn ?_ _ | refine Zd ?_ | refine Za ?_ _)); refine Zq ?_ NB257_263.out _; (with_reducible repeat (first | refine Zn ?_ _ | refine Zd ?_ | refine Za ?_ _)); exact BK257.out⟩
                  have n2_ : Aside0 (((w106.setCell ⟨gb263, 0, none⟩ (.string a0_0)).setCell ⟨gb263, 1, none⟩ (.slice Ao107 y260.length co107)).heap[gb263]? = some (.cells #[.string a0_0, .slice Ao107 y260.length co107] 24 (0, 0))) := ⟨by (with_reducible repeat (first | refine Zn ?_ _ | refine Zd ?_ | refine Za ?_ _)); refine Zp (cs := #[.string a0_0, .slice none 0 0]) ?_ 1 _ rfl; (with_reducible repeat (first | refine Zn ?_ _ | refine Zd ?_ | refine Za ?_ _)); refine Zp (cs := #[.string (⟨#[]⟩ : ByteArray), .slice none 0 0]) ?_ 0 _ rfl; (with_reducible repeat (first | refine Zn ?_ _ | refine Zd ?_ | refine Za ?_ _)); exact BK263.out⟩
                  have n3_ : Aside0 (Below w.heap.size w ((w106.setCell ⟨gb263, 0, none⟩ (.string a0_0)).setCell ⟨gb263, 1, none⟩ (.slice Ao107 y260.length co107))) := ⟨Yr HB⟩
                  (try clear HO262)
                  (try clear BK257)
                  (try clear BK263)
                  (try clear HB)
                  generalize ((w106.setCell ⟨gb263, 0, none⟩ (.string a0_0)).setCell ⟨gb263, 1, none⟩ (.slice Ao107 y260.length co107)) = w110 at n0_ n1_ n2_ n3_ ⊢
                  have HO262 := n0_
                  have BK257 := n1_
                  have BK263 := n2_
                  have HB := n3_
                  clear n0_ n1_ n2_ n3_
                  have hnb111 := NB263_257.out
                  have hnc111 := NB257_263.out
                  obtain ⟨⟨hcz112_0, hcz112_1⟩, hfz112_0, hfz112_1⟩ := Zk2 BK263
                  have p97 : 0 ≤ ((ji94) : Int) := of_decide_eq_true (by first | (with_reducible assumption) | assumption)
                  have q97 : ((ji94) : Int) < ((y260.length : Int) : Int) := of_decide_eq_true (by first | (with_reducible assumption) | assumption)
                  obtain ⟨go97, co97, eo97, gb97, gl97, cl97, HG97⟩ := Kd.R_form HO262.out (by omega)
                  (first | cases eo97 | (injection eo97 with ea_ en_ ec_; (first | subst ea_ | (injection ea_ with ea_; subst ea_)); subst ec_; clear en_))
                  have GB97 := Aside0.mk gb97
                  have GG97 := Aside0.mk HG97
                  clear gb97 gl97 HG97
                  obtain ⟨ce97, hcl97, hM97, hcc97, hfr97⟩ := Kd.R_elem HO262.out z43 ((ji94) : Int) p97 q97
                  obtain rfl := k43_openM hM97
                  have hx97_0 : w110.cell? ⟨go97, ((ji94) : Int).toNat * 2, none⟩ = some (.int .i64 ((rd_T43 y260 (ji94)).f0)) := hcc97 0 _ rfl
                  have hx97_1 : w110.cell? ⟨go97, ((ji94) : Int).toNat * 2 + 1, none⟩ = some (.int .i64 ((rd_T43 y260 (ji94)).f1)) := hcc97 1 _ rfl
                  have hf97_0 : w110.frozen? ⟨go97, ((ji94) : Int).toNat * 2, none⟩ = false := hfr97 0
                  have hf97_1 : w110.frozen? ⟨go97, ((ji94) : Int).toNat * 2 + 1, none⟩ = false := hfr97 1
                  clear hcl97 hcc97 hfr97 hM97
                  replace p97 := eq_true p97
                  replace q97 := eq_true q97
                  have HX113 := Aside0.mk (show Kd.R k43 43 w110 w.heap.size (fun _ => True) (.slice (some ⟨go97, 0, none⟩) y260.length co107) y260 from (by (with_reducible repeat (first | apply Kd.R_alloc | apply Kd.R_drewN | apply Kd.R_drew)); exact HO262.out))
                  obtain ⟨ce113, hcl113, hM113, hcc113, hfr113⟩ := Kd.R_elem HX113.out z43 ((ji94) : Int) (of_decide_eq_true (by first | (with_reducible assumption) | assumption)) (by have h_ : ((ji94) : Int) < ((y260.length : Int) : Int) := of_decide_eq_true (by first | (with_reducible assumption) | assumption); first | exact h_ | (have e_ := (Kd.R_reads' HO262.out).1; omega) | simpa using h_)
                  obtain rfl := k43_openM hM113
                  have HP113 := Kd.R_seg HX113.out ((ji94) : Int) (of_decide_eq_true (by first | (with_reducible assumption) | assumption)) (by have h_ : ((ji94) : Int) < ((y260.length : Int) : Int) := of_decide_eq_true (by first | (with_reducible assumption) | assumption); first | exact h_ | (have e_ := (Kd.R_reads' HO262.out).1; omega) | simpa using h_) (seg := [.int .i64 10001]) (j := 1) hcl113 hcc113 (show 2 ≤ 2 from by decide) (x' := (⟨(rd_T43 y260 (ji94)).f0, 10001⟩ : S43)) (k43_mkM _ _ _ (⟨(rd_T43 y260 (ji94)).f0, 10001⟩ : S43) ) (fun _ hk => hk)
                  have hx113_1 := hcc113 1 _ rfl
                  (try simp only [show (k43).sz = 2 from rfl, Nat.mul_one, Nat.add_zero] at hx113_1)
                  have hf113_1 := hfr113 1
                  (try simp only [show (k43).sz = 2 from rfl, Nat.mul_one, Nat.add_zero] at hf113_1)
                  clear hcl113 hcc113 hfr113 hM113
                  try go_wp2_with (first | ((with_reducible refine gate_store (t := 3) (p := 75) rfl ?_); refine store_event (t := 3) (p := 75) (v := ?vo_w114) (w1 := (w110.setCell ⟨go97, ((ji94) : Int).toNat * 2 + 1, none⟩ (.int .i64 10001))) ?hg ?ho ?hn ?hr ?_; (case ho => rfl); (case hg => rfl); (case hn => rfl); (case hr => first | (go_simp; done) | (go_simp; rfl)); intro w114 hw; have hg : w110.grownBy w114 (some go97) := (by rw [hw]; exact HP113.2); have hp_ : Kd.R k43 43 w114 w.heap.size (fun _ => True) (.slice (some ⟨go97, 0, none⟩) y260.length co107) y272 := (by rw [hw, Ny272.out]; exact HP113.1); clear HP113; have n0_ := Aside0.mk (blk_grown (g := gb257) (o := .cells #[.string a0_0, .slice A0_1 l0_1.length c0_1] 24 (0, 0)) (Zr BK257) hg (Kd.R_ne HO262.out BK257.out (by decide))); have n1_ := Aside0.mk (hp_); have n2_ := Aside0.mk (blk_grown (g := gb263) (o := .cells #[.string a0_0, .slice (some ⟨go97, 0, none⟩) y260.length co107] 24 (0, 0)) (Zr BK263) hg (Kd.R_ne HO262.out BK263.out (by decide))); have n3_ := Aside0.mk ((by rw [hw]; exact Ys (HB.out) GB97.out : Below w.heap.size w w114)); clear BK257; clear HO262; clear BK263; clear HB; have BK257 := n0_; have HO262 := n1_; have BK263 := n2_; have HB := n3_; clear n0_ n1_ n2_ n3_; clear hg hw hp_; obtain ⟨⟨hcz115_0, hcz115_1⟩, hfz115_0, hfz115_1⟩ := Zk2 BK263) | (go_at_call 11; refine calls_of_args (args' := #[.agg #[.string a0_0, .slice (some ⟨go97, 0, none⟩) y272.length co107]]) (by first | (rw [show y272.length = y260.length from (Kd.R_reads' HO262.out).1.symm] <;> rfl) | rfl) ?_; (with_reducible refine (define_Right.calls kj17 a0_0 _ _ y272 false _ ?side1 ?side2 A99.out).mono ?_); (case side1 => repeat (first | exact (Kd.R_reads' HO262.out).2.2 | (with_reducible refine Kd.C_alloc ?_ _) | (with_reducible refine Kd.C_drewN ?_ _) | (with_reducible refine Kd.C_drew ?_))); (case side2 => rw [show y272.length = y260.length from (Kd.R_reads' HO262.out).1.symm]; exact (Kd.R_reads' HO262.out).2.1); rintro e w116 ⟨rfl, hb⟩; have n0_ := Aside0.mk (Kd.R_below (by (with_reducible repeat (first | apply Kd.R_alloc | apply Kd.R_drewN | apply Kd.R_drew)); exact HO262.out) hb); have n1_ := Aside0.mk (Zv BK257 hb); have n2_ := Aside0.mk (Zv BK263 hb); have n3_ := Aside0.mk (Yv HB hb); clear HO262; clear BK257; clear BK263; clear HB; have HO262 := n0_; have BK257 := n1_; have BK263 := n2_; have HB := n3_; clear n0_ n1_ n2_ n3_; (try clear hb); (try clear hb2); (try clear hk); (try clear hi); obtain ⟨⟨hcz117_0, hcz117_1⟩, hfz117_0, hfz117_1⟩ := Zk2 BK263) | (go_at_call 13; refine calls_of_args (args' := #[.agg #[.string a0_0, .slice (some ⟨go97, 0, none⟩) y272.length co107]]) (by first | (rw [show y272.length = y260.length from (Kd.R_reads' HO262.out).1.symm] <;> rfl) | rfl) ?_; (with_reducible refine (define_Tries.calls kj17 a0_0 _ _ y272 t274 _ ?side1 ?side2 A101.out).mono ?_); (case side1 => repeat (first | exact (Kd.R_reads' HO262.out).2.2 | (with_reducible refine Kd.C_alloc ?_ _) | (with_reducible refine Kd.C_drewN ?_ _) | (with_reducible refine Kd.C_drew ?_))); (case side2 => rw [show y272.length = y260.length from (Kd.R_reads' HO262.out).1.symm]; exact (Kd.R_reads' HO262.out).2.1); rintro e w118 ⟨rfl, hb⟩; have n0_ := Aside0.mk (Kd.R_below (by (with_reducible repeat (first | apply Kd.R_alloc | apply Kd.R_drewN | apply Kd.R_drew)); exact HO262.out) hb); have n1_ := Aside0.mk (Zv BK257 hb); have n2_ := Aside0.mk (Zv BK263 hb); have n3_ := Aside0.mk (Yv HB hb); clear HO262; clear BK257; clear BK263; clear HB; have HO262 := n0_; have BK257 := n1_; have BK263 := n2_; have HB := n3_; clear n0_ n1_ n2_ n3_; (try clear hb); (try clear hb2); (try clear hk); (try clear hi)))
                  go_ret
                  exact ⟨by first | rfl | (simp [errW_none, errW_some] <;> rfl) | (simp only [← hji94]; first | rfl | (simp [errW_none, errW_some] <;> rfl)) | (simp [*, errW_none, errW_some] <;> rfl), Yr HB⟩
                ·
                 replace c98 := Bool.eq_false_iff.mpr c98
                 subst c98
                 have H1 : (some false) = some r := by rw [if_neg (show ¬ (false = true) by decide)] at H; exact H
                 clear H
                 have H := H1
                 clear H1
                 exact absurd ((Option.some.inj H).trans HRT_.out) (by decide)
               ·
                rw [if_neg c96] at H
                exact absurd H (by simp)
              ·
               rw [if_neg c95] at H
               exact absurd H (by simp)
             ·
              rw [if_neg c93] at H
              have c93b0 : ((Int.tmod x2_17 6) == 3) = false := beq_eq_false_iff_ne.mpr c93
              have c93b1 : ((Int.tmod x2_17 6) != 3) = true := bne_iff_ne.mpr c93
              by_cases c119 : (Int.tmod x2_17 6) = 4
              ·
               rw [if_pos c119] at H
               have c119b0 : ((Int.tmod x2_17 6) == 4) = true := beq_iff_eq.mpr c119
               have c119b1 : ((Int.tmod x2_17 6) != 4) = false := bne_eq_false_iff_eq.mpr c119
               clear c119
               by_cases c120 : t258 = true
               ·
                subst c120
                have H1 : ((define_Right.f kj17 a0_0 ([] : List (S43))).bind fun t275 => (if t275 = true then (some false) else ((define_Tries.f kj17 a0_0 ([] : List (S43))).bind fun t276 => (some (t276 == 0))))) = some r := by rw [if_pos rfl] at H; exact H
                clear H
                have H := H1
                clear H1
                replace H := Option.bind_eq_some_iff.mp H
                obtain ⟨t275, A1210, H⟩ := H
                replace H : (if t275 = true then (some false) else ((define_Tries.f kj17 a0_0 ([] : List (S43))).bind fun t276 => (some (t276 == 0)))) = some r := H
                have A121 := Aside0.mk A1210
                clear A1210
                by_cases c122 : t275 = true
                ·
                 subst c122
                 have H1 : (some false) = some r := by rw [if_pos rfl] at H; exact H
                 clear H
                 have H := H1
                 clear H1
                 exact absurd ((Option.some.inj H).trans HRT_.out) (by decide)
                ·
                 replace c122 := Bool.eq_false_iff.mpr c122
                 subst c122
                 have H1 : ((define_Tries.f kj17 a0_0 ([] : List (S43))).bind fun t276 => (some (t276 == 0))) = some r := by rw [if_neg (show ¬ (false = true) by decide)] at H; exact H
                 clear H
                 have H := H1
                 clear H1
                 replace H := Option.bind_eq_some_iff.mp H
                 obtain ⟨t276, A1230, H⟩ := H
                 replace H : (some (t276 == 0)) = some r := H
                 have A123 := Aside0.mk A1230
                 clear A1230
                 obtain rfl := Option.some.inj H
                 try go_wp2
                 have n0_ := Aside0.mk (Zd BK257.out)
                 have n1_ := Aside0.mk (Yd HB.out)
                 clear BK257
                 clear HB
                 have BK257 := n0_
                 have HB := n1_
                 clear n0_ n1_
                 refine start_ (n := 8) (S := fun w' => w'.cell? ⟨gb257, 0, none⟩ = some (.string a0_0) ∧ w'.cell? ⟨gb257, 1, none⟩ = some (.slice A0_1 l0_1.length c0_1)) (ds := []) #[false, false, false, false, false, false, false, false] (by kernel_rfl) rfl rfl ⟨(Zc BK257.out 0).trans rfl, (Zc BK257.out 1).trans rfl⟩ (fun hHeld => ?_); refine with_tabW palinodelaw18_DefineSpoils.tab8 palinodelaw18_DefineSpoils.bits8 (fun HT_ HW_ => ?_)
                 generalize wc.drew = w124 at BK257 HB hHeld ⊢
                 refine pure_ (i := 0) (N := some 31) (v := ?_) (a' := ?_) #[true, false, false, false, false, false, false, false] rfl rfl (any_of HT_.out (by kernel_rfl)) (fun _ _ _ h => h) (Or.inl ⟨by rfl, ?_⟩) ?_ ?_
                 rotate_left
                 ·
                  intro w'
                  go_simp
                  with_reducible rfl
                 rotate_left
                 ·
                  simp only [Act.put, List.setIfInBounds_toArray, List.set_cons_zero, List.set_cons_succ, i64_w, i32_w]
                  rfl
                 refine pure_ (i := 2) (N := some 33) (v := ?_) (a' := ?_) #[true, false, true, false, false, false, false, false] rfl rfl (any_of HT_.out (by kernel_rfl)) (fun _ _ _ h => h) (Or.inl ⟨by rfl, ?_⟩) ?_ ?_
                 rotate_left
                 ·
                  intro w'
                  go_simp
                  with_reducible rfl
                 rotate_left
                 ·
                  simp only [Act.put, List.setIfInBounds_toArray, List.set_cons_zero, List.set_cons_succ, i64_w, i32_w]
                  rfl
                 refine take_ (i := 1) (N := some 32) (v := ?_) (a' := ?_) #[true, true, true, false, false, false, false, false] rfl rfl (take_ofW HT_.out HW_.out (by kernel_rfl)) (fun _ _ _ h => h) (Or.inl ⟨by rfl, ?_⟩) hHeld ?_ ?_
                 rotate_left
                 ·
                  rintro w' ⟨s0, s1⟩
                  go_simp
                  with_reducible rfl
                 rotate_left
                 ·
                  simp only [Act.put, List.setIfInBounds_toArray, List.set_cons_zero, List.set_cons_succ, i64_w, i32_w]
                  rfl
                 refine take_ (i := 3) (N := some 34) (v := ?_) (a' := ?_) #[true, true, true, true, false, false, false, false] rfl rfl (take_ofW HT_.out HW_.out (by kernel_rfl)) (fun _ _ _ h => h) (Or.inl ⟨by rfl, ?_⟩) hHeld ?_ ?_
                 rotate_left
                 ·
                  rintro w' ⟨s0, s1⟩
                  go_simp
                  with_reducible rfl
                 rotate_left
                 ·
                  simp only [Act.put, List.setIfInBounds_toArray, List.set_cons_zero, List.set_cons_succ, i64_w, i32_w]
                  rfl
                 refine join_ (σ := Value × Nat) 1 #[true, true, true, true, true, true, true, false] (fun s_ => [(35, s_.1), (8, .pointer (some ⟨s_.2, 0, none⟩)), (36, .agg #[.string a0_0, s_.1])]) (fun s_ w' => (w'.cell? ⟨gb257, 0, none⟩ = some (.string a0_0) ∧ w'.cell? ⟨gb257, 1, none⟩ = some (.slice A0_1 l0_1.length c0_1)) ∧ (Kd.R k43 43 w' w.heap.size (fun _ => True) s_.1 y260) ∧ (w'.heap[gb257]? = some (.cells #[.string a0_0, .slice A0_1 l0_1.length c0_1] 24 (0, 0))) ∧ (w'.heap[s_.2]? = some (.cells #[.string (⟨#[]⟩ : ByteArray), .slice none 0 0] 24 (0, 0))) ∧ (w.heap.size ≤ s_.2) ∧ (w.heap.size ≤ s_.2) ∧ (gb257 ≠ s_.2) ∧ (s_.2 ≠ gb257) ∧ (Below w.heap.size w w')) ?_ ?_
                 rotate_left
                 ·
                  intro hCont
                  refine two_ (i := 4) (j := 6) (Ni := some 35) (Nj := some 8) #[true, true, true, true, true, false, false, false] #[true, true, true, true, false, false, true, false] rfl rfl rfl rfl (two_of HT_.out (by kernel_rfl)) (by decide) (by decide) (fun K hK => ?_) (fun K hK => ?_)
                  ·
                   skip
                   refine Kd.R_append_rows_step k43 (w0 := w) w.heap.size (by rfl) (.const (.slice none 0 0)) (.tmp 34) 22 43 (.agg #[(.int .i64 0), (.int .i64 0)]) 16 rfl Try.underlying22 info43 rfl (by decide) (by omega) (.slice none 0 0) ([] : List (S43)) l0_1 _ _ _ (fun _ => True) (fun _ => False) rfl rfl ?aO ?aR (fun _ _ h => h) (fun _ h => h.elim) ?aF ?aB ?aS ?aL ?_
                   (case aR => repeat (first | exact (Kd.C_below HR0_1.out HB.out) | (with_reducible refine Kd.C_alloc ?_ _) | (with_reducible refine Kd.C_drewN ?_ _) | (with_reducible refine Kd.C_drew ?_)))
                   (case aB => exact (Yr HB))
                   (case aF => exact (fun _ _ => trivial))
                   (case aO => exact ((Kd.R_nil _ _ _ _ (fun _ => True))))
                   (case aS => exact (below_size (Yr HB)))
                   (case aL => have := LMc20.out; omega)
                   intro v261 w125 ho hb hg hat
                   rw [← Ny260.out] at ho
                   have n0_ := Aside0.mk (blk_grown (g := gb257) (o := .cells #[.string a0_0, .slice A0_1 l0_1.length c0_1] 24 (0, 0)) (Zr BK257) hg (by simp [Value.ownBlock]))
                   have n1_ := Aside0.mk (hb)
                   have n2_ := Aside0.mk (ho)
                   clear BK257
                   clear HB
                   have BK257 := n0_
                   have HB := n1_
                   have HO262 := n2_
                   clear n0_ n1_ n2_
                   clear ho hb hg hat
                   obtain ⟨Ao126, co126, eo126⟩ := Kd.R_slice HO262.out
                   (first | subst eo126 | (injection eo126 with f1_ f2_ f3_; have f4_ := f1_.symm; have f5_ := f3_.symm; clear f1_ f2_ f3_; subst f4_; subst f5_))
                   refine hK.out _ _ ⟨(Zc BK257.out 0).trans rfl, (Zc BK257.out 1).trans rfl⟩ (fun hHeld => ?_)
                   clear hK K
                   refine norm_ (a' := ?_) ?_ ?_
                   rotate_left
                   ·
                    show Act.put _ (some 35) _ = _
                    simp only [Act.put, List.setIfInBounds_toArray, List.set_cons_zero, List.set_cons_succ, i64_w, i32_w]
                    rfl
                   refine pure_ (i := 5) (N := some 36) (v := ?_) (a' := ?_) #[true, true, true, true, true, true, false, false] rfl rfl (any_of HT_.out (by kernel_rfl)) (fun _ _ _ h => h) (Or.inl ⟨by rfl, ?_⟩) ?_ ?_
                   rotate_left
                   ·
                    intro w'
                    go_simp
                    with_reducible rfl
                   rotate_left
                   ·
                    simp only [Act.put, List.setIfInBounds_toArray, List.set_cons_zero, List.set_cons_succ, i64_w, i32_w]
                    rfl
                   refine one_ (i := 6) (N := some 8) #[true, true, true, true, true, true, true, false] rfl rfl (one_of HT_.out (by kernel_rfl)) (by decide) (fun K hK => ?_)
                   refine box_step ?hg (N := 8) ?hd (cs := #[.string (⟨#[]⟩ : ByteArray), .slice none 0 0]) (t := 24) ?hr ?_; (case hd => rfl); (case hg => rfl); (case hr => first | (go_simp; done) | (go_simp; rfl))
                   intro gb263 hg w127 hbox hb
                   have n0_ := Aside0.mk (Kd.R_below (by (with_reducible repeat (first | apply Kd.R_alloc | apply Kd.R_drewN | apply Kd.R_drew)); exact HO262.out) hb)
                   have n1_ := Aside0.mk (Zv BK257 hb)
                   have n2_ := Aside0.mk (Yv HB hb)
                   have n3_ := Aside0.mk (hbox)
                   have n4_ := Aside0.mk (Yg HB hg)
                   have n5_ := Aside0.mk (Yg HB hg)
                   have n6_ := Aside0.mk (Zl BK257 hg)
                   have n7_ := Aside0.mk (Zg BK257 hg)
                   clear HO262
                   clear BK257
                   clear HB
                   have HO262 := n0_
                   have BK257 := n1_
                   have HB := n2_
                   have BK263 := n3_
                   have GW263 := n4_
                   have GE263 := n5_
                   have NB257_263 := n6_
                   have NB263_257 := n7_
                   clear n0_ n1_ n2_ n3_ n4_ n5_ n6_ n7_
                   clear hb hbox hg
                   refine hK.out _ _ ⟨(Zc BK257.out 0).trans rfl, (Zc BK257.out 1).trans rfl⟩ (fun hHeld => ?_)
                   clear hK K
                   refine norm_ (a' := ?_) ?_ ?_
                   rotate_left
                   ·
                    show Act.put _ (some 8) _ = _
                    simp only [Act.put, List.setIfInBounds_toArray, List.set_cons_zero, List.set_cons_succ, i64_w, i32_w]
                    rfl
                   exact norm_ (by simp only [putAll, Act.put, List.setIfInBounds_toArray, List.set_cons_zero, List.set_cons_succ]) (hCont (.slice Ao126 y260.length co126, gb263) _ ⟨hHeld, (by (with_reducible repeat (first | apply Kd.R_alloc | apply Kd.R_drewN | apply Kd.R_drew)); exact HO262.out), (Zr BK257), (Zr BK263), GW263.out, GE263.out, NB257_263.out, NB263_257.out, (Yr HB)⟩)
                  ·
                   skip
                   refine box_step ?hg (N := 8) ?hd (cs := #[.string (⟨#[]⟩ : ByteArray), .slice none 0 0]) (t := 24) ?hr ?_; (case hd => rfl); (case hg => rfl); (case hr => first | (go_simp; done) | (go_simp; rfl))
                   intro gb263 hg w125 hbox hb
                   have n0_ := Aside0.mk (Zv BK257 hb)
                   have n1_ := Aside0.mk (Yv HB hb)
                   have n2_ := Aside0.mk (hbox)
                   have n3_ := Aside0.mk (Yg HB hg)
                   have n4_ := Aside0.mk (Yg HB hg)
                   have n5_ := Aside0.mk (Zl BK257 hg)
                   have n6_ := Aside0.mk (Zg BK257 hg)
                   clear BK257
                   clear HB
                   have BK257 := n0_
                   have HB := n1_
                   have BK263 := n2_
                   have GW263 := n3_
                   have GE263 := n4_
                   have NB257_263 := n5_
                   have NB263_257 := n6_
                   clear n0_ n1_ n2_ n3_ n4_ n5_ n6_
                   clear hb hbox hg
                   refine hK.out _ _ ⟨(Zc BK257.out 0).trans rfl, (Zc BK257.out 1).trans rfl⟩ (fun hHeld => ?_)
                   clear hK K
                   refine norm_ (a' := ?_) ?_ ?_
                   rotate_left
                   ·
                    show Act.put _ (some 8) _ = _
                    simp only [Act.put, List.setIfInBounds_toArray, List.set_cons_zero, List.set_cons_succ, i64_w, i32_w]
                    rfl
                   refine one_ (i := 4) (N := some 35) #[true, true, true, true, true, false, true, false] rfl rfl (one_of HT_.out (by kernel_rfl)) (by decide) (fun K hK => ?_)
                   refine Kd.R_append_rows_step k43 (w0 := w) w.heap.size (by rfl) (.const (.slice none 0 0)) (.tmp 34) 22 43 (.agg #[(.int .i64 0), (.int .i64 0)]) 16 rfl Try.underlying22 info43 rfl (by decide) (by omega) (.slice none 0 0) ([] : List (S43)) l0_1 _ _ _ (fun _ => True) (fun _ => False) rfl rfl ?aO ?aR (fun _ _ h => h) (fun _ h => h.elim) ?aF ?aB ?aS ?aL ?_
                   (case aR => repeat (first | exact (Kd.C_below HR0_1.out HB.out) | (with_reducible refine Kd.C_alloc ?_ _) | (with_reducible refine Kd.C_drewN ?_ _) | (with_reducible refine Kd.C_drew ?_)))
                   (case aB => exact (Yr HB))
                   (case aF => exact (fun _ _ => trivial))
                   (case aO => exact ((Kd.R_nil _ _ _ _ (fun _ => True))))
                   (case aS => exact (below_size (Yr HB)))
                   (case aL => have := LMc20.out; omega)
                   intro v261 w126 ho hb hg hat
                   rw [← Ny260.out] at ho
                   have n0_ := Aside0.mk (blk_grown (g := gb257) (o := .cells #[.string a0_0, .slice A0_1 l0_1.length c0_1] 24 (0, 0)) (Zr BK257) hg (by simp [Value.ownBlock]))
                   have n1_ := Aside0.mk (blk_grown (g := gb263) (o := .cells #[.string (⟨#[]⟩ : ByteArray), .slice none 0 0] 24 (0, 0)) (Zr BK263) hg (by simp [Value.ownBlock]))
                   have n2_ := Aside0.mk (hb)
                   have n3_ := Aside0.mk (ho)
                   clear BK257
                   clear BK263
                   clear HB
                   have BK257 := n0_
                   have BK263 := n1_
                   have HB := n2_
                   have HO262 := n3_
                   clear n0_ n1_ n2_ n3_
                   clear ho hb hg hat
                   obtain ⟨Ao127, co127, eo127⟩ := Kd.R_slice HO262.out
                   (first | subst eo127 | (injection eo127 with f1_ f2_ f3_; have f4_ := f1_.symm; have f5_ := f3_.symm; clear f1_ f2_ f3_; subst f4_; subst f5_))
                   refine hK.out _ _ ⟨(Zc BK257.out 0).trans rfl, (Zc BK257.out 1).trans rfl⟩ (fun hHeld => ?_)
                   clear hK K
                   refine norm_ (a' := ?_) ?_ ?_
                   rotate_left
                   ·
                    show Act.put _ (some 35) _ = _
                    simp only [Act.put, List.setIfInBounds_toArray, List.set_cons_zero, List.set_cons_succ, i64_w, i32_w]
                    rfl
                   refine pure_ (i := 5) (N := some 36) (v := ?_) (a' := ?_) #[true, true, true, true, true, true, true, false] rfl rfl (any_of HT_.out (by kernel_rfl)) (fun _ _ _ h => h) (Or.inl ⟨by rfl, ?_⟩) ?_ ?_
                   rotate_left
                   ·
                    intro w'
                    go_simp
                    with_reducible rfl
                   rotate_left
                   ·
                    simp only [Act.put, List.setIfInBounds_toArray, List.set_cons_zero, List.set_cons_succ, i64_w, i32_w]
                    rfl
                   exact norm_ (by simp only [putAll, Act.put, List.setIfInBounds_toArray, List.set_cons_zero, List.set_cons_succ]) (hCont (.slice Ao127 y260.length co127, gb263) _ ⟨hHeld, (by (with_reducible repeat (first | apply Kd.R_alloc | apply Kd.R_drewN | apply Kd.R_drew)); exact HO262.out), (Zr BK257), (Zr BK263), GW263.out, GE263.out, NB257_263.out, NB263_257.out, (Yr HB)⟩)
                 rintro ⟨v261, gb263⟩ w128 ⟨hS_, h0_, h1_, h2_, h3_, h4_, h5_, h6_, h7_⟩
                 have n0_ : Aside0 (Kd.R k43 43 w128 w.heap.size (fun _ => True) v261 y260) := ⟨h0_⟩
                 have n1_ : Aside0 (w128.heap[gb257]? = some (.cells #[.string a0_0, .slice A0_1 l0_1.length c0_1] 24 (0, 0))) := ⟨h1_⟩
                 have n2_ : Aside0 (w128.heap[gb263]? = some (.cells #[.string (⟨#[]⟩ : ByteArray), .slice none 0 0] 24 (0, 0))) := ⟨h2_⟩
                 have n3_ : Aside0 (w.heap.size ≤ gb263) := ⟨h3_⟩
                 have n4_ : Aside0 (w.heap.size ≤ gb263) := ⟨h4_⟩
                 have n5_ : Aside0 (gb257 ≠ gb263) := ⟨h5_⟩
                 have n6_ : Aside0 (gb263 ≠ gb257) := ⟨h6_⟩
                 have n7_ : Aside0 (Below w.heap.size w w128) := ⟨h7_⟩
                 clear BK257
                 clear HB
                 clear h0_ h1_ h2_ h3_ h4_ h5_ h6_ h7_
                 have HO262 := n0_
                 have BK257 := n1_
                 have BK263 := n2_
                 have GW263 := n3_
                 have GE263 := n4_
                 have NB257_263 := n5_
                 have NB263_257 := n6_
                 have HB := n7_
                 clear n0_ n1_ n2_ n3_ n4_ n5_ n6_ n7_
                 have hHeld : w128.cell? ⟨gb257, 0, none⟩ = some (.string a0_0) ∧ w128.cell? ⟨gb257, 1, none⟩ = some (.slice A0_1 l0_1.length c0_1) := hS_
                 obtain ⟨Ao129, co129, eo129⟩ := Kd.R_slice HO262.out
                 (first | subst eo129 | (injection eo129 with f1_ f2_ f3_; have f4_ := f1_.symm; have f5_ := f3_.symm; clear f1_ f2_ f3_; subst f4_; subst f5_))
                 refine norm_ (a' := ?_) ?_ ?_
                 rotate_left
                 ·
                  simp only [putAll, Act.put, List.setIfInBounds_toArray, List.set_cons_zero, List.set_cons_succ]
                  rfl
                 refine one_ (i := 7) (N := none) #[true, true, true, true, true, true, true, true] rfl rfl (one_of HT_.out (by kernel_rfl)) (by decide) (fun K hK => ?_)
                 have hs130 : w128.cell? ⟨gb263, 0, none⟩ = some (.string (⟨#[]⟩ : ByteArray)) := (Zc BK263.out 0).trans rfl
                 have hfs130 := Zf BK263.out 0
                 have hns130_0 := NB257_263.out
                 have hms130_0 := NB263_257.out
                 have hs131 : w128.cell? ⟨gb263, 1, none⟩ = some (.slice none 0 0) := (Zc BK263.out 1).trans rfl
                 have hfs131 := Zf BK263.out 1
                 have hns131_0 := NB257_263.out
                 have hms131_0 := NB263_257.out
                 refine skip_ (w1 := ?_) (by rfl) rfl ?_ ?_
                 rotate_left
                 ·
                  go_simp
                  rfl
                 refine hK.out _ _ ⟨((cell_far (p := ⟨gb263, _, none⟩) NB257_263.out _).trans (((cell_far (p := ⟨gb263, _, none⟩) NB257_263.out _).trans (hHeld.1)))), ((cell_far (p := ⟨gb263, _, none⟩) NB257_263.out _).trans (((cell_far (p := ⟨gb263, _, none⟩) NB257_263.out _).trans (hHeld.2))))⟩ (fun hHeld => ?_)
                 clear hK K
                 refine done_ (done_of HT_.out (by kernel_rfl)) ?_
                 have hnb132 := NB263_257.out
                 have hnc132 := NB257_263.out
                 obtain ⟨⟨hcz133_0, hcz133_1⟩, hfz133_0, hfz133_1⟩ := Zk2 BK263
                 try go_wp2_with (first | (go_at_call 11; (refine (define_Right.calls kj17 a0_0 _ _ ([] : List (S43)) false _ ?side1 ?side2 A121.out).mono ?_); (case side1 => exact Kd.C_nil _ _); (case side2 => exact Nat.le_refl _); rintro e w134 ⟨rfl, hb⟩; have n0_ := Aside0.mk (Kd.R_below (by (with_reducible repeat (first | apply Kd.R_alloc | apply Kd.R_drewN | apply Kd.R_drew)); exact (Kd.R_mono (Kd.R_far (p := ⟨gb263, 1, none⟩) (Kd.R_far (p := ⟨gb263, 1, none⟩) (Kd.R_far (p := ⟨gb263, 0, none⟩) (Kd.R_types HO262.out BK263.out (by decide)) (fun _ hk => hk.2) (.string a0_0)) (fun _ hk => hk.2) (.slice Ao129 y260.length co129)) (fun _ hk => hk.2) (.slice none 0 0)) (fun _ h_ => h_.1))) hb); have n1_ := Aside0.mk (Zv BK257 hb); have n2_ := Aside0.mk (Zb (g := gb263) (o := .cells #[.string a0_0, .slice none 0 0] 24 (0, 0)) (by (with_reducible repeat (first | refine Zn ?_ _ | refine Zd ?_ | refine Za ?_ _)); refine Zp (cs := #[.string a0_0, .slice Ao129 y260.length co129]) ?_ 1 _ rfl; (with_reducible repeat (first | refine Zn ?_ _ | refine Zd ?_ | refine Za ?_ _)); refine Zp (cs := #[.string a0_0, .slice none 0 0]) ?_ 1 _ rfl; (with_reducible repeat (first | refine Zn ?_ _ | refine Zd ?_ | refine Za ?_ _)); refine Zp (cs := #[.string (⟨#[]⟩ : ByteArray), .slice none 0 0]) ?_ 0 _ rfl; (with_reducible repeat (first | refine Zn ?_ _ | refine Zd ?_ | refine Za ?_ _)); exact BK263.out) hb); have n3_ := Aside0.mk (Yv HB hb); clear HO262; clear BK257; clear BK263; clear HB; have HO262 := n0_; have BK257 := n1_; have BK263 := n2_; have HB := n3_; clear n0_ n1_ n2_ n3_; (try clear hb); (try clear hb2); (try clear hk); (try clear hi); obtain ⟨⟨hcz135_0, hcz135_1⟩, hfz135_0, hfz135_1⟩ := Zk2 BK263) | (go_at_call 13; (refine (define_Tries.calls kj17 a0_0 _ _ ([] : List (S43)) t276 _ ?side1 ?side2 A123.out).mono ?_); (case side1 => exact Kd.C_nil _ _); (case side2 => exact Nat.le_refl _); rintro e w136 ⟨rfl, hb⟩; have n0_ := Aside0.mk (Kd.R_below (by (with_reducible repeat (first | apply Kd.R_alloc | apply Kd.R_drewN | apply Kd.R_drew)); exact HO262.out) hb); have n1_ := Aside0.mk (Zv BK257 hb); have n2_ := Aside0.mk (Zv BK263 hb); have n3_ := Aside0.mk (Yv HB hb); clear HO262; clear BK257; clear BK263; clear HB; have HO262 := n0_; have BK257 := n1_; have BK263 := n2_; have HB := n3_; clear n0_ n1_ n2_ n3_; (try clear hb); (try clear hb2); (try clear hk); (try clear hi)))
                 go_ret
                 exact ⟨by first | rfl | (simp [errW_none, errW_some] <;> rfl) | (simp [*, errW_none, errW_some] <;> rfl), Yr HB⟩
               ·
                replace c120 := Bool.eq_false_iff.mpr c120
                subst c120
                have H1 : (some false) = some r := by rw [if_neg (show ¬ (false = true) by decide)] at H; exact H
                clear H
                have H := H1
                clear H1
                exact absurd ((Option.some.inj H).trans HRT_.out) (by decide)
              ·
               rw [if_neg c119] at H
               have c119b0 : ((Int.tmod x2_17 6) == 4) = false := beq_eq_false_iff_ne.mpr c119
               have c119b1 : ((Int.tmod x2_17 6) != 4) = true := bne_iff_ne.mpr c119
               obtain ⟨ji137, hji137⟩ : ∃ j_ : Int, (Int.tmod x1_15 (y260.length : Int)) = j_ := ⟨_, rfl⟩
               replace H : (if 0 ≤ (ji137) then (if (ji137) < (y260.length : Int) then ((some (y260.set ((ji137) : Int).toNat (⟨(-1), (rd_T43 y260 (ji137)).f1⟩ : S43) : List (S43))).bind fun y277 => (if t258 = true then ((define_Right.f kj17 a0_0 y277).bind fun t278 => (if t278 = true then (some false) else ((define_Tries.f kj17 a0_0 y277).bind fun t279 => (some (t279 == 0))))) else (some false))) else (none)) else (none)) = some r := by first | (rw [hji137] at H; exact H) | (simp only [hji137] at H ⊢; exact H)
               by_cases c138 : 0 ≤ (ji137)
               ·
                rw [if_pos c138] at H
                have c138b0 : decide (0 ≤ (ji137)) = true := decide_eq_true c138
                clear c138
                by_cases c139 : (ji137) < (y260.length : Int)
                ·
                 rw [if_pos c139] at H
                 have c139b0 : decide ((ji137) < (y260.length : Int)) = true := decide_eq_true c139
                 clear c139
                 obtain ⟨y277, hy277⟩ : ∃ y_ : List (S43), y_ = (y260.set ((ji137) : Int).toNat (⟨(-1), (rd_T43 y260 (ji137)).f1⟩ : S43)) := ⟨_, rfl⟩
                 replace H : (if t258 = true then ((define_Right.f kj17 a0_0 y277).bind fun t278 => (if t278 = true then (some false) else ((define_Tries.f kj17 a0_0 y277).bind fun t279 => (some (t279 == 0))))) else (some false)) = some r := by first | (rw [hy277]; with_reducible exact H) | (have H2_ := (Option.bind_some _ _).symm.trans H; rw [hy277]; with_reducible exact H2_) | (have H2_ := (Option.bind_some _ _).symm.trans H; with_reducible exact H2_) | with_reducible exact H | (rw [hy277]; exact H) | exact H
                 have Ny277 := Aside0.mk hy277
                 clear hy277
                 by_cases c141 : t258 = true
                 ·
                  subst c141
                  have H1 : ((define_Right.f kj17 a0_0 y277).bind fun t278 => (if t278 = true then (some false) else ((define_Tries.f kj17 a0_0 y277).bind fun t279 => (some (t279 == 0))))) = some r := by rw [if_pos rfl] at H; exact H
                  clear H
                  have H := H1
                  clear H1
                  replace H := Option.bind_eq_some_iff.mp H
                  obtain ⟨t278, A1420, H⟩ := H
                  replace H : (if t278 = true then (some false) else ((define_Tries.f kj17 a0_0 y277).bind fun t279 => (some (t279 == 0)))) = some r := H
                  have A142 := Aside0.mk A1420
                  clear A1420
                  by_cases c143 : t278 = true
                  ·
                   subst c143
                   have H1 : (some false) = some r := by rw [if_pos rfl] at H; exact H
                   clear H
                   have H := H1
                   clear H1
                   exact absurd ((Option.some.inj H).trans HRT_.out) (by decide)
                  ·
                   replace c143 := Bool.eq_false_iff.mpr c143
                   subst c143
                   have H1 : ((define_Tries.f kj17 a0_0 y277).bind fun t279 => (some (t279 == 0))) = some r := by rw [if_neg (show ¬ (false = true) by decide)] at H; exact H
                   clear H
                   have H := H1
                   clear H1
                   replace H := Option.bind_eq_some_iff.mp H
                   obtain ⟨t279, A1440, H⟩ := H
                   replace H : (some (t279 == 0)) = some r := H
                   have A144 := Aside0.mk A1440
                   clear A1440
                   obtain rfl := Option.some.inj H
                   try go_wp2
                   have n0_ := Aside0.mk (Zd BK257.out)
                   have n1_ := Aside0.mk (Yd HB.out)
                   clear BK257
                   clear HB
                   have BK257 := n0_
                   have HB := n1_
                   clear n0_ n1_
                   refine start_ (n := 8) (S := fun w' => w'.cell? ⟨gb257, 0, none⟩ = some (.string a0_0) ∧ w'.cell? ⟨gb257, 1, none⟩ = some (.slice A0_1 l0_1.length c0_1)) (ds := []) #[false, false, false, false, false, false, false, false] (by kernel_rfl) rfl rfl ⟨(Zc BK257.out 0).trans rfl, (Zc BK257.out 1).trans rfl⟩ (fun hHeld => ?_); refine with_tabW palinodelaw18_DefineSpoils.tab8 palinodelaw18_DefineSpoils.bits8 (fun HT_ HW_ => ?_)
                   generalize wc.drew = w145 at BK257 HB hHeld ⊢
                   refine pure_ (i := 0) (N := some 31) (v := ?_) (a' := ?_) #[true, false, false, false, false, false, false, false] rfl rfl (any_of HT_.out (by kernel_rfl)) (fun _ _ _ h => h) (Or.inl ⟨by rfl, ?_⟩) ?_ ?_
                   rotate_left
                   ·
                    intro w'
                    go_simp
                    with_reducible rfl
                   rotate_left
                   ·
                    simp only [Act.put, List.setIfInBounds_toArray, List.set_cons_zero, List.set_cons_succ, i64_w, i32_w]
                    rfl
                   refine pure_ (i := 2) (N := some 33) (v := ?_) (a' := ?_) #[true, false, true, false, false, false, false, false] rfl rfl (any_of HT_.out (by kernel_rfl)) (fun _ _ _ h => h) (Or.inl ⟨by rfl, ?_⟩) ?_ ?_
                   rotate_left
                   ·
                    intro w'
                    go_simp
                    with_reducible rfl
                   rotate_left
                   ·
                    simp only [Act.put, List.setIfInBounds_toArray, List.set_cons_zero, List.set_cons_succ, i64_w, i32_w]
                    rfl
                   refine take_ (i := 1) (N := some 32) (v := ?_) (a' := ?_) #[true, true, true, false, false, false, false, false] rfl rfl (take_ofW HT_.out HW_.out (by kernel_rfl)) (fun _ _ _ h => h) (Or.inl ⟨by rfl, ?_⟩) hHeld ?_ ?_
                   rotate_left
                   ·
                    rintro w' ⟨s0, s1⟩
                    go_simp
                    with_reducible rfl
                   rotate_left
                   ·
                    simp only [Act.put, List.setIfInBounds_toArray, List.set_cons_zero, List.set_cons_succ, i64_w, i32_w]
                    rfl
                   refine take_ (i := 3) (N := some 34) (v := ?_) (a' := ?_) #[true, true, true, true, false, false, false, false] rfl rfl (take_ofW HT_.out HW_.out (by kernel_rfl)) (fun _ _ _ h => h) (Or.inl ⟨by rfl, ?_⟩) hHeld ?_ ?_
                   rotate_left
                   ·
                    rintro w' ⟨s0, s1⟩
                    go_simp
                    with_reducible rfl
                   rotate_left
                   ·
                    simp only [Act.put, List.setIfInBounds_toArray, List.set_cons_zero, List.set_cons_succ, i64_w, i32_w]
                    rfl
                   refine join_ (σ := Value × Nat) 1 #[true, true, true, true, true, true, true, false] (fun s_ => [(35, s_.1), (8, .pointer (some ⟨s_.2, 0, none⟩)), (36, .agg #[.string a0_0, s_.1])]) (fun s_ w' => (w'.cell? ⟨gb257, 0, none⟩ = some (.string a0_0) ∧ w'.cell? ⟨gb257, 1, none⟩ = some (.slice A0_1 l0_1.length c0_1)) ∧ (Kd.R k43 43 w' w.heap.size (fun _ => True) s_.1 y260) ∧ (w'.heap[gb257]? = some (.cells #[.string a0_0, .slice A0_1 l0_1.length c0_1] 24 (0, 0))) ∧ (w'.heap[s_.2]? = some (.cells #[.string (⟨#[]⟩ : ByteArray), .slice none 0 0] 24 (0, 0))) ∧ (w.heap.size ≤ s_.2) ∧ (w.heap.size ≤ s_.2) ∧ (gb257 ≠ s_.2) ∧ (s_.2 ≠ gb257) ∧ (Below w.heap.size w w')) ?_ ?_
                   rotate_left
                   ·
                    intro hCont
                    refine two_ (i := 4) (j := 6) (Ni := some 35) (Nj := some 8) #[true, true, true, true, true, false, false, false] #[true, true, true, true, false, false, true, false] rfl rfl rfl rfl (two_of HT_.out (by kernel_rfl)) (by decide) (by decide) (fun K hK => ?_) (fun K hK => ?_)
                    ·
                     skip
                     refine Kd.R_append_rows_step k43 (w0 := w) w.heap.size (by rfl) (.const (.slice none 0 0)) (.tmp 34) 22 43 (.agg #[(.int .i64 0), (.int .i64 0)]) 16 rfl Try.underlying22 info43 rfl (by decide) (by omega) (.slice none 0 0) ([] : List (S43)) l0_1 _ _ _ (fun _ => True) (fun _ => False) rfl rfl ?aO ?aR (fun _ _ h => h) (fun _ h => h.elim) ?aF ?aB ?aS ?aL ?_
                     (case aR => repeat (first | exact (Kd.C_below HR0_1.out HB.out) | (with_reducible refine Kd.C_alloc ?_ _) | (with_reducible refine Kd.C_drewN ?_ _) | (with_reducible refine Kd.C_drew ?_)))
                     (case aB => exact (Yr HB))
                     (case aF => exact (fun _ _ => trivial))
                     (case aO => exact ((Kd.R_nil _ _ _ _ (fun _ => True))))
                     (case aS => exact (below_size (Yr HB)))
                     (case aL => have := LMc20.out; omega)
                     intro v261 w146 ho hb hg hat
                     rw [← Ny260.out] at ho
                     have n0_ := Aside0.mk (blk_grown (g := gb257) (o := .cells #[.string a0_0, .slice A0_1 l0_1.length c0_1] 24 (0, 0)) (Zr BK257) hg (by simp [Value.ownBlock]))
                     have n1_ := Aside0.mk (hb)
                     have n2_ := Aside0.mk (ho)
                     clear BK257
                     clear HB
                     have BK257 := n0_
                     have HB := n1_
                     have HO262 := n2_
                     clear n0_ n1_ n2_
                     clear ho hb hg hat
                     obtain ⟨Ao147, co147, eo147⟩ := Kd.R_slice HO262.out
                     (first | subst eo147 | (injection eo147 with f1_ f2_ f3_; have f4_ := f1_.symm; have f5_ := f3_.symm; clear f1_ f2_ f3_; subst f4_; subst f5_))
                     refine hK.out _ _ ⟨(Zc BK257.out 0).trans rfl, (Zc BK257.out 1).trans rfl⟩ (fun hHeld => ?_)
                     clear hK K
                     refine norm_ (a' := ?_) ?_ ?_
                     rotate_left
                     ·
                      show Act.put _ (some 35) _ = _
                      simp only [Act.put, List.setIfInBounds_toArray, List.set_cons_zero, List.set_cons_succ, i64_w, i32_w]
                      rfl
                     refine pure_ (i := 5) (N := some 36) (v := ?_) (a' := ?_) #[true, true, true, true, true, true, false, false] rfl rfl (any_of HT_.out (by kernel_rfl)) (fun _ _ _ h => h) (Or.inl ⟨by rfl, ?_⟩) ?_ ?_
                     rotate_left
                     ·
                      intro w'
                      go_simp
                      with_reducible rfl
                     rotate_left
                     ·
                      simp only [Act.put, List.setIfInBounds_toArray, List.set_cons_zero, List.set_cons_succ, i64_w, i32_w]
                      rfl
                     refine one_ (i := 6) (N := some 8) #[true, true, true, true, true, true, true, false] rfl rfl (one_of HT_.out (by kernel_rfl)) (by decide) (fun K hK => ?_)
                     refine box_step ?hg (N := 8) ?hd (cs := #[.string (⟨#[]⟩ : ByteArray), .slice none 0 0]) (t := 24) ?hr ?_; (case hd => rfl); (case hg => rfl); (case hr => first | (go_simp; done) | (go_simp; rfl))
                     intro gb263 hg w148 hbox hb
                     have n0_ := Aside0.mk (Kd.R_below (by (with_reducible repeat (first | apply Kd.R_alloc | apply Kd.R_drewN | apply Kd.R_drew)); exact HO262.out) hb)
                     have n1_ := Aside0.mk (Zv BK257 hb)
                     have n2_ := Aside0.mk (Yv HB hb)
                     have n3_ := Aside0.mk (hbox)
                     have n4_ := Aside0.mk (Yg HB hg)
                     have n5_ := Aside0.mk (Yg HB hg)
                     have n6_ := Aside0.mk (Zl BK257 hg)
                     have n7_ := Aside0.mk (Zg BK257 hg)
                     clear HO262
                     clear BK257
                     clear HB
                     have HO262 := n0_
                     have BK257 := n1_
                     have HB := n2_
                     have BK263 := n3_
                     have GW263 := n4_
                     have GE263 := n5_
                     have NB257_263 := n6_
                     have NB263_257 := n7_
                     clear n0_ n1_ n2_ n3_ n4_ n5_ n6_ n7_
                     clear hb hbox hg
                     refine hK.out _ _ ⟨(Zc BK257.out 0).trans rfl, (Zc BK257.out 1).trans rfl⟩ (fun hHeld => ?_)
                     clear hK K
                     refine norm_ (a' := ?_) ?_ ?_
                     rotate_left
                     ·
                      show Act.put _ (some 8) _ = _
                      simp only [Act.put, List.setIfInBounds_toArray, List.set_cons_zero, List.set_cons_succ, i64_w, i32_w]
                      rfl
                     exact norm_ (by simp only [putAll, Act.put, List.setIfInBounds_toArray, List.set_cons_zero, List.set_cons_succ]) (hCont (.slice Ao147 y260.length co147, gb263) _ ⟨hHeld, (by (with_reducible repeat (first | apply Kd.R_alloc | apply Kd.R_drewN | apply Kd.R_drew)); exact HO262.out), (Zr BK257), (Zr BK263), GW263.out, GE263.out, NB257_263.out, NB263_257.out, (Yr HB)⟩)
                    ·
                     skip
                     refine box_step ?hg (N := 8) ?hd (cs := #[.string (⟨#[]⟩ : ByteArray), .slice none 0 0]) (t := 24) ?hr ?_; (case hd => rfl); (case hg => rfl); (case hr => first | (go_simp; done) | (go_simp; rfl))
                     intro gb263 hg w146 hbox hb
                     have n0_ := Aside0.mk (Zv BK257 hb)
                     have n1_ := Aside0.mk (Yv HB hb)
                     have n2_ := Aside0.mk (hbox)
                     have n3_ := Aside0.mk (Yg HB hg)
                     have n4_ := Aside0.mk (Yg HB hg)
                     have n5_ := Aside0.mk (Zl BK257 hg)
                     have n6_ := Aside0.mk (Zg BK257 hg)
                     clear BK257
                     clear HB
                     have BK257 := n0_
                     have HB := n1_
                     have BK263 := n2_
                     have GW263 := n3_
                     have GE263 := n4_
                     have NB257_263 := n5_
                     have NB263_257 := n6_
                     clear n0_ n1_ n2_ n3_ n4_ n5_ n6_
                     clear hb hbox hg
                     refine hK.out _ _ ⟨(Zc BK257.out 0).trans rfl, (Zc BK257.out 1).trans rfl⟩ (fun hHeld => ?_)
                     clear hK K
                     refine norm_ (a' := ?_) ?_ ?_
                     rotate_left
                     ·
                      show Act.put _ (some 8) _ = _
                      simp only [Act.put, List.setIfInBounds_toArray, List.set_cons_zero, List.set_cons_succ, i64_w, i32_w]
                      rfl
                     refine one_ (i := 4) (N := some 35) #[true, true, true, true, true, false, true, false] rfl rfl (one_of HT_.out (by kernel_rfl)) (by decide) (fun K hK => ?_)
                     refine Kd.R_append_rows_step k43 (w0 := w) w.heap.size (by rfl) (.const (.slice none 0 0)) (.tmp 34) 22 43 (.agg #[(.int .i64 0), (.int .i64 0)]) 16 rfl Try.underlying22 info43 rfl (by decide) (by omega) (.slice none 0 0) ([] : List (S43)) l0_1 _ _ _ (fun _ => True) (fun _ => False) rfl rfl ?aO ?aR (fun _ _ h => h) (fun _ h => h.elim) ?aF ?aB ?aS ?aL ?_
                     (case aR => repeat (first | exact (Kd.C_below HR0_1.out HB.out) | (with_reducible refine Kd.C_alloc ?_ _) | (with_reducible refine Kd.C_drewN ?_ _) | (with_reducible refine Kd.C_drew ?_)))
                     (case aB => exact (Yr HB))
                     (case aF => exact (fun _ _ => trivial))
                     (case aO => exact ((Kd.R_nil _ _ _ _ (fun _ => True))))
                     (case aS => exact (below_size (Yr HB)))
                     (case aL => have := LMc20.out; omega)
                     intro v261 w147 ho hb hg hat
                     rw [← Ny260.out] at ho
                     have n0_ := Aside0.mk (blk_grown (g := gb257) (o := .cells #[.string a0_0, .slice A0_1 l0_1.length c0_1] 24 (0, 0)) (Zr BK257) hg (by simp [Value.ownBlock]))
                     have n1_ := Aside0.mk (blk_grown (g := gb263) (o := .cells #[.string (⟨#[]⟩ : ByteArray), .slice none 0 0] 24 (0, 0)) (Zr BK263) hg (by simp [Value.ownBlock]))
                     have n2_ := Aside0.mk (hb)
                     have n3_ := Aside0.mk (ho)
                     clear BK257
                     clear BK263
                     clear HB
                     have BK257 := n0_
                     have BK263 := n1_
                     have HB := n2_
                     have HO262 := n3_
                     clear n0_ n1_ n2_ n3_
                     clear ho hb hg hat
                     obtain ⟨Ao148, co148, eo148⟩ := Kd.R_slice HO262.out
                     (first | subst eo148 | (injection eo148 with f1_ f2_ f3_; have f4_ := f1_.symm; have f5_ := f3_.symm; clear f1_ f2_ f3_; subst f4_; subst f5_))
                     refine hK.out _ _ ⟨(Zc BK257.out 0).trans rfl, (Zc BK257.out 1).trans rfl⟩ (fun hHeld => ?_)
                     clear hK K
                     refine norm_ (a' := ?_) ?_ ?_
                     rotate_left
                     ·
                      show Act.put _ (some 35) _ = _
                      simp only [Act.put, List.setIfInBounds_toArray, List.set_cons_zero, List.set_cons_succ, i64_w, i32_w]
                      rfl
                     refine pure_ (i := 5) (N := some 36) (v := ?_) (a' := ?_) #[true, true, true, true, true, true, true, false] rfl rfl (any_of HT_.out (by kernel_rfl)) (fun _ _ _ h => h) (Or.inl ⟨by rfl, ?_⟩) ?_ ?_
                     rotate_left
                     ·
                      intro w'
                      go_simp
                      with_reducible rfl
                     rotate_left
                     ·
                      simp only [Act.put, List.setIfInBounds_toArray, List.set_cons_zero, List.set_cons_succ, i64_w, i32_w]
                      rfl
                     exact norm_ (by simp only [putAll, Act.put, List.setIfInBounds_toArray, List.set_cons_zero, List.set_cons_succ]) (hCont (.slice Ao148 y260.length co148, gb263) _ ⟨hHeld, (by (with_reducible repeat (first | apply Kd.R_alloc | apply Kd.R_drewN | apply Kd.R_drew)); exact HO262.out), (Zr BK257), (Zr BK263), GW263.out, GE263.out, NB257_263.out, NB263_257.out, (Yr HB)⟩)
                   rintro ⟨v261, gb263⟩ w149 ⟨hS_, h0_, h1_, h2_, h3_, h4_, h5_, h6_, h7_⟩
                   have n0_ : Aside0 (Kd.R k43 43 w149 w.heap.size (fun _ => True) v261 y260) := ⟨h0_⟩
                   have n1_ : Aside0 (w149.heap[gb257]? = some (.cells #[.string a0_0, .slice A0_1 l0_1.length c0_1] 24 (0, 0))) := ⟨h1_⟩
                   have n2_ : Aside0 (w149.heap[gb263]? = some (.cells #[.string (⟨#[]⟩ : ByteArray), .slice none 0 0] 24 (0, 0))) := ⟨h2_⟩
                   have n3_ : Aside0 (w.heap.size ≤ gb263) := ⟨h3_⟩
                   have n4_ : Aside0 (w.heap.size ≤ gb263) := ⟨h4_⟩
                   have n5_ : Aside0 (gb257 ≠ gb263) := ⟨h5_⟩
                   have n6_ : Aside0 (gb263 ≠ gb257) := ⟨h6_⟩
                   have n7_ : Aside0 (Below w.heap.size w w149) := ⟨h7_⟩
                   clear BK257
                   clear HB
                   clear h0_ h1_ h2_ h3_ h4_ h5_ h6_ h7_
                   have HO262 := n0_
                   have BK257 := n1_
                   have BK263 := n2_
                   have GW263 := n3_
                   have GE263 := n4_
                   have NB257_263 := n5_
                   have NB263_257 := n6_
                   have HB := n7_
                   clear n0_ n1_ n2_ n3_ n4_ n5_ n6_ n7_
                   have hHeld : w149.cell? ⟨gb257, 0, none⟩ = some (.string a0_0) ∧ w149.cell? ⟨gb257, 1, none⟩ = some (.slice A0_1 l0_1.length c0_1) := hS_
                   obtain ⟨Ao150, co150, eo150⟩ := Kd.R_slice HO262.out
                   (first | subst eo150 | (injection eo150 with f1_ f2_ f3_; have f4_ := f1_.symm; have f5_ := f3_.symm; clear f1_ f2_ f3_; subst f4_; subst f5_))
                   refine norm_ (a' := ?_) ?_ ?_
                   rotate_left
                   ·
                    simp only [putAll, Act.put, List.setIfInBounds_toArray, List.set_cons_zero, List.set_cons_succ]
                    rfl
                   refine one_ (i := 7) (N := none) #[true, true, true, true, true, true, true, true] rfl rfl (one_of HT_.out (by kernel_rfl)) (by decide) (fun K hK => ?_)
                   have hs151 : w149.cell? ⟨gb263, 0, none⟩ = some (.string (⟨#[]⟩ : ByteArray)) := (Zc BK263.out 0).trans rfl
                   have hfs151 := Zf BK263.out 0
                   have hns151_0 := NB257_263.out
                   have hms151_0 := NB263_257.out
                   have hs152 : w149.cell? ⟨gb263, 1, none⟩ = some (.slice none 0 0) := (Zc BK263.out 1).trans rfl
                   have hfs152 := Zf BK263.out 1
                   have hns152_0 := NB257_263.out
                   have hms152_0 := NB263_257.out
                   refine skip_ (w1 := ?_) (by rfl) rfl ?_ ?_
                   rotate_left
                   ·
                    go_simp
                    rfl
                   refine hK.out _ _ ⟨((cell_far (p := ⟨gb263, _, none⟩) NB257_263.out _).trans (((cell_far (p := ⟨gb263, _, none⟩) NB257_263.out _).trans (hHeld.1)))), ((cell_far (p := ⟨gb263, _, none⟩) NB257_263.out _).trans (((cell_far (p := ⟨gb263, _, none⟩) NB257_263.out _).trans (hHeld.2))))⟩ (fun hHeld => ?_)
                   clear hK K
                   refine done_ (done_of HT_.out (by kernel_rfl)) ?_
                   have n0_ : Aside0 (Kd.R k43 43 ((w149.setCell ⟨gb263, 0, none⟩ (.string a0_0)).setCell ⟨gb263, 1, none⟩ (.slice Ao150 y260.length co150)) w.heap.size (fun _ => True) (.slice Ao150 y260.length co150) y260) := ⟨by (with_reducible repeat (first | apply Kd.R_alloc | apply Kd.R_drewN | apply Kd.R_drew)); exact Kd.R_mono (Kd.R_far (p := ⟨gb263, 1, none⟩) (Kd.R_far (p := ⟨gb263, 0, none⟩) (Kd.R_types HO262.out BK263.out (by decide)) (fun _ hk => hk.2) (.string a0_0)) (fun _ hk => hk.2) (.slice Ao150 y260.length co150)) (fun _ hk => trivial)⟩
                   have n1_ : Aside0 (((w149.setCell ⟨gb263, 0, none⟩ (.string a0_0)).setCell ⟨gb263, 1, none⟩ (.slice Ao150 y260.length co150)).heap[gb257]? = some (.cells #[.string a0_0, .slice A0_1 l0_1.length c0_1] 24 (0, 0))) := ⟨by (with_reducible repeat (first | refine Zn ?_ _ | refine Zd ?_ | refine Za ?_ _)); refine Zq ?_ NB257_263.out _; (with_reducible repeat (first | refine Zn ?_ _ | refine Zd ?_ | refine Za ?_ _)); refine Zq ?_ NB257_263.out _; (with_reducible repeat (first | refine Zn ?_ _ | refine Zd ?_ | refine Za ?_ _)); exact BK257.out⟩
                   have n2_ : Aside0 (((w149.setCell ⟨gb263, 0, none⟩ (.string a0_0)).setCell ⟨gb263, 1, none⟩ (.slice Ao150 y260.length co150)).heap[gb263]? = some (.cells #[.string a0_0, .slice Ao150 y260.length co150] 24 (0, 0))) := ⟨by (with_reducible repeat (first | refine Zn ?_ _ | refine Zd ?_ | refine Za ?_ _)); refine Zp (cs := #[.string a0_0, .slice none 0 0]) ?_ 1 _ rfl; (with_reducible repeat (first | refine Zn ?_ _ | refine Zd ?_ | refine Za ?_ _)); refine Zp (cs := #[.string (⟨#[]⟩ : ByteArray), .slice none 0 0]) ?_ 0 _ rfl; (with_reducible repeat (first | refine Zn ?_ _ | refine Zd ?_ | refine Za ?_ _)); exact BK263.out⟩
                   have n3_ : Aside0 (Below w.heap.size w ((w149.setCell ⟨gb263, 0, none⟩ (.string a0_0)).setCell ⟨gb263, 1, none⟩ (.slice Ao150 y260.length co150))) := ⟨Yr HB⟩
                   (try clear HO262)
                   (try clear BK257)
                   (try clear BK263)
                   (try clear HB)
                   generalize ((w149.setCell ⟨gb263, 0, none⟩ (.string a0_0)).setCell ⟨gb263, 1, none⟩ (.slice Ao150 y260.length co150)) = w153 at n0_ n1_ n2_ n3_ ⊢
                   have HO262 := n0_
                   have BK257 := n1_
                   have BK263 := n2_
                   have HB := n3_
                   clear n0_ n1_ n2_ n3_
                   have hnb154 := NB263_257.out
                   have hnc154 := NB257_263.out
                   obtain ⟨⟨hcz155_0, hcz155_1⟩, hfz155_0, hfz155_1⟩ := Zk2 BK263
                   have p140 : 0 ≤ ((ji137) : Int) := of_decide_eq_true (by first | (with_reducible assumption) | assumption)
                   have q140 : ((ji137) : Int) < ((y260.length : Int) : Int) := of_decide_eq_true (by first | (with_reducible assumption) | assumption)
                   obtain ⟨go140, co140, eo140, gb140, gl140, cl140, HG140⟩ := Kd.R_form HO262.out (by omega)
                   (first | cases eo140 | (injection eo140 with ea_ en_ ec_; (first | subst ea_ | (injection ea_ with ea_; subst ea_)); subst ec_; clear en_))
                   have GB140 := Aside0.mk gb140
                   have GG140 := Aside0.mk HG140
                   clear gb140 gl140 HG140
                   obtain ⟨ce140, hcl140, hM140, hcc140, hfr140⟩ := Kd.R_elem HO262.out z43 ((ji137) : Int) p140 q140
                   obtain rfl := k43_openM hM140
                   have hx140_0 : w153.cell? ⟨go140, ((ji137) : Int).toNat * 2, none⟩ = some (.int .i64 ((rd_T43 y260 (ji137)).f0)) := hcc140 0 _ rfl
                   have hx140_1 : w153.cell? ⟨go140, ((ji137) : Int).toNat * 2 + 1, none⟩ = some (.int .i64 ((rd_T43 y260 (ji137)).f1)) := hcc140 1 _ rfl
                   have hf140_0 : w153.frozen? ⟨go140, ((ji137) : Int).toNat * 2, none⟩ = false := hfr140 0
                   have hf140_1 : w153.frozen? ⟨go140, ((ji137) : Int).toNat * 2 + 1, none⟩ = false := hfr140 1
                   clear hcl140 hcc140 hfr140 hM140
                   replace p140 := eq_true p140
                   replace q140 := eq_true q140
                   have HX156 := Aside0.mk (show Kd.R k43 43 w153 w.heap.size (fun _ => True) (.slice (some ⟨go140, 0, none⟩) y260.length co150) y260 from (by (with_reducible repeat (first | apply Kd.R_alloc | apply Kd.R_drewN | apply Kd.R_drew)); exact HO262.out))
                   obtain ⟨ce156, hcl156, hM156, hcc156, hfr156⟩ := Kd.R_elem HX156.out z43 ((ji137) : Int) (of_decide_eq_true (by first | (with_reducible assumption) | assumption)) (by have h_ : ((ji137) : Int) < ((y260.length : Int) : Int) := of_decide_eq_true (by first | (with_reducible assumption) | assumption); first | exact h_ | (have e_ := (Kd.R_reads' HO262.out).1; omega) | simpa using h_)
                   obtain rfl := k43_openM hM156
                   have HP156 := Kd.R_seg HX156.out ((ji137) : Int) (of_decide_eq_true (by first | (with_reducible assumption) | assumption)) (by have h_ : ((ji137) : Int) < ((y260.length : Int) : Int) := of_decide_eq_true (by first | (with_reducible assumption) | assumption); first | exact h_ | (have e_ := (Kd.R_reads' HO262.out).1; omega) | simpa using h_) (seg := [.int .i64 (-1)]) (j := 0) hcl156 hcc156 (show 1 ≤ 2 from by decide) (x' := (⟨(-1), (rd_T43 y260 (ji137)).f1⟩ : S43)) (k43_mkM _ _ _ (⟨(-1), (rd_T43 y260 (ji137)).f1⟩ : S43) ) (fun _ hk => hk)
                   have hx156_0 := hcc156 0 _ rfl
                   (try simp only [show (k43).sz = 2 from rfl, Nat.mul_one, Nat.add_zero] at hx156_0)
                   have hf156_0 := hfr156 0
                   (try simp only [show (k43).sz = 2 from rfl, Nat.mul_one, Nat.add_zero] at hf156_0)
                   clear hcl156 hcc156 hfr156 hM156
                   try go_wp2_with (first | ((with_reducible refine gate_store (t := 3) (p := 48) rfl ?_); refine store_event (t := 3) (p := 48) (v := ?vo_w157) (w1 := (w153.setCell ⟨go140, ((ji137) : Int).toNat * 2, none⟩ (.int .i64 (-1)))) ?hg ?ho ?hn ?hr ?_; (case ho => rfl); (case hg => rfl); (case hn => rfl); (case hr => first | (go_simp; done) | (go_simp; rfl)); intro w157 hw; have hg : w153.grownBy w157 (some go140) := (by rw [hw]; exact HP156.2); have hp_ : Kd.R k43 43 w157 w.heap.size (fun _ => True) (.slice (some ⟨go140, 0, none⟩) y260.length co150) y277 := (by rw [hw, Ny277.out]; exact HP156.1); clear HP156; have n0_ := Aside0.mk (blk_grown (g := gb257) (o := .cells #[.string a0_0, .slice A0_1 l0_1.length c0_1] 24 (0, 0)) (Zr BK257) hg (Kd.R_ne HO262.out BK257.out (by decide))); have n1_ := Aside0.mk (hp_); have n2_ := Aside0.mk (blk_grown (g := gb263) (o := .cells #[.string a0_0, .slice (some ⟨go140, 0, none⟩) y260.length co150] 24 (0, 0)) (Zr BK263) hg (Kd.R_ne HO262.out BK263.out (by decide))); have n3_ := Aside0.mk ((by rw [hw]; exact Ys (HB.out) GB140.out : Below w.heap.size w w157)); clear BK257; clear HO262; clear BK263; clear HB; have BK257 := n0_; have HO262 := n1_; have BK263 := n2_; have HB := n3_; clear n0_ n1_ n2_ n3_; clear hg hw hp_; obtain ⟨⟨hcz158_0, hcz158_1⟩, hfz158_0, hfz158_1⟩ := Zk2 BK263) | (go_at_call 11; refine calls_of_args (args' := #[.agg #[.string a0_0, .slice (some ⟨go140, 0, none⟩) y277.length co150]]) (by first | (rw [show y277.length = y260.length from (Kd.R_reads' HO262.out).1.symm] <;> rfl) | rfl) ?_; (with_reducible refine (define_Right.calls kj17 a0_0 _ _ y277 false _ ?side1 ?side2 A142.out).mono ?_); (case side1 => repeat (first | exact (Kd.R_reads' HO262.out).2.2 | (with_reducible refine Kd.C_alloc ?_ _) | (with_reducible refine Kd.C_drewN ?_ _) | (with_reducible refine Kd.C_drew ?_))); (case side2 => rw [show y277.length = y260.length from (Kd.R_reads' HO262.out).1.symm]; exact (Kd.R_reads' HO262.out).2.1); rintro e w159 ⟨rfl, hb⟩; have n0_ := Aside0.mk (Kd.R_below (by (with_reducible repeat (first | apply Kd.R_alloc | apply Kd.R_drewN | apply Kd.R_drew)); exact HO262.out) hb); have n1_ := Aside0.mk (Zv BK257 hb); have n2_ := Aside0.mk (Zv BK263 hb); have n3_ := Aside0.mk (Yv HB hb); clear HO262; clear BK257; clear BK263; clear HB; have HO262 := n0_; have BK257 := n1_; have BK263 := n2_; have HB := n3_; clear n0_ n1_ n2_ n3_; (try clear hb); (try clear hb2); (try clear hk); (try clear hi); obtain ⟨⟨hcz160_0, hcz160_1⟩, hfz160_0, hfz160_1⟩ := Zk2 BK263) | (go_at_call 13; refine calls_of_args (args' := #[.agg #[.string a0_0, .slice (some ⟨go140, 0, none⟩) y277.length co150]]) (by first | (rw [show y277.length = y260.length from (Kd.R_reads' HO262.out).1.symm] <;> rfl) | rfl) ?_; (with_reducible refine (define_Tries.calls kj17 a0_0 _ _ y277 t279 _ ?side1 ?side2 A144.out).mono ?_); (case side1 => repeat (first | exact (Kd.R_reads' HO262.out).2.2 | (with_reducible refine Kd.C_alloc ?_ _) | (with_reducible refine Kd.C_drewN ?_ _) | (with_reducible refine Kd.C_drew ?_))); (case side2 => rw [show y277.length = y260.length from (Kd.R_reads' HO262.out).1.symm]; exact (Kd.R_reads' HO262.out).2.1); rintro e w161 ⟨rfl, hb⟩; have n0_ := Aside0.mk (Kd.R_below (by (with_reducible repeat (first | apply Kd.R_alloc | apply Kd.R_drewN | apply Kd.R_drew)); exact HO262.out) hb); have n1_ := Aside0.mk (Zv BK257 hb); have n2_ := Aside0.mk (Zv BK263 hb); have n3_ := Aside0.mk (Yv HB hb); clear HO262; clear BK257; clear BK263; clear HB; have HO262 := n0_; have BK257 := n1_; have BK263 := n2_; have HB := n3_; clear n0_ n1_ n2_ n3_; (try clear hb); (try clear hb2); (try clear hk); (try clear hi)))
                   go_ret
                   exact ⟨by first | rfl | (simp [errW_none, errW_some] <;> rfl) | (simp only [← hji137]; first | rfl | (simp [errW_none, errW_some] <;> rfl)) | (simp [*, errW_none, errW_some] <;> rfl), Yr HB⟩
                 ·
                  replace c141 := Bool.eq_false_iff.mpr c141
                  subst c141
                  have H1 : (some false) = some r := by rw [if_neg (show ¬ (false = true) by decide)] at H; exact H
                  clear H
                  have H := H1
                  clear H1
                  exact absurd ((Option.some.inj H).trans HRT_.out) (by decide)
                ·
                 rw [if_neg c139] at H
                 exact absurd H (by simp)
               ·
                rw [if_neg c138] at H
                exact absurd H (by simp)
        ·
         rw [if_neg c20] at H
         exact absurd H (by simp)

/-- THE ONE PURE STATEMENT of palinodelaw18_DefineSpoils. -/
def palinodelaw18_DefineSpoils.Pure : Prop := (∀ k_ r_, palinodelaw18_examples.f k_ = some r_ → r_ = true) ∧ ∀ (a0_0 : ByteArray) (l0_1 : List (S43)) (a1 : Int) (a2 : Int), a0_0.size ≤ 140737488351232 → (l0_1.length ≤ maxLen ∧ l0_1.length * 16 ≤ 140737488351232 ∧ ∀ x_ ∈ l0_1, V43 x_) → (Lit.int .i64 a1).wf = true → (Lit.int .i64 a2).wf = true → ∃ k, palinodelaw18_DefineSpoils.f k a0_0 l0_1 a1 a2 = some true
theorem palinodelaw18_DefineSpoils.walk (P : palinodelaw18_DefineSpoils.Pure) (a0_0 : ByteArray) (A0_1 : Option Addr) (c0_1 : Nat) (l0_1 : List (S43)) (a1 : Int) (a2 : Int) (w : World) (v0_0 : a0_0.size ≤ 140737488351232) (hr0_1 : Kd.C k43 w A0_1 l0_1.length l0_1) (hc0_1 : l0_1.length ≤ c0_1) (v0_1 : (l0_1.length ≤ maxLen ∧ l0_1.length * 16 ≤ 140737488351232 ∧ ∀ x_ ∈ l0_1, V43 x_)) (v1 : (Lit.int .i64 a1).wf = true) (v2 : (Lit.int .i64 a2).wf = true) :
  Calls Try.prog 6 #[.agg #[.string a0_0, .slice A0_1 l0_1.length c0_1], .int .i64 a1, .int .i64 a2] w fun e w' => e = .returned (.bool true) ∧ Below w.heap.size w w' := by
 obtain ⟨k, h⟩ := P.2 a0_0 l0_1 a1 a2 v0_0 v0_1 v1 v2
 refine (palinodelaw18_DefineSpoils.calls k a0_0 A0_1 c0_1 l0_1 a1 a2 true w hr0_1 hc0_1 h ⟨P.1⟩).mono ?_
 rintro e w' ⟨rfl, hd⟩
 exact ⟨rfl, hd⟩

end Go.Proofs.Ytnmlnngmfagmfaa.Print
