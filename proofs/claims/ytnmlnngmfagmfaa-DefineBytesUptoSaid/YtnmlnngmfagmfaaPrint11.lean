-- Printed out of the translation by a program of this session's own. Not trusted: Lean checks it.
import Derived.Test.YtnmlnngmfagmfaaPrint0
import Derived.Test.YtnmlnngmfagmfaaPrint1
import Derived.Test.YtnmlnngmfagmfaaPrint2
import Derived.Test.YtnmlnngmfagmfaaPrint5
import Derived.Test.YtnmlnngmfagmfaaPrint7
import Derived.Test.YtnmlnngmfagmfaaHDefineDecode
namespace Go.Proofs.Ytnmlnngmfagmfaa.Print
open Go.RowKit Go.Proofs.YtnmlnngmfagmfaaW.PrintWords Go.Proofs.YtnmlnngmfagmfaaW.PrintLast Go.Proofs.YtnmlnngmfagmfaaW.PrintMore Go.Proofs.YtnmlnngmfagmfaaX
attribute [local go_sem] max2_int min2_int max_two min_two max_three min_three max_four min_four   -- for this text's walks alone
set_option linter.unusedVariables false
set_option linter.unusedSimpArgs false

attribute [local go_sem high] eqA43
/-! ### palinodelaw18_defs: function 19 -/
mutual
def palinodelaw18_defs.j0 : Nat → Bool → ByteArray → List (S43) → ByteArray → List (S43) → Option (Bool)
 | 0, _, _, _, _, _ => none
 | k + 1, x19, x299000, x299001, x300000, x300001 => if x19 = true then (some false) else (palinodelaw18_defs.l0 k 0 x299000 x299001 x300000 x300001)
def palinodelaw18_defs.l0 : Nat → Int → ByteArray → List (S43) → ByteArray → List (S43) → Option (Bool)
 | 0, _, _, _, _, _ => none
 | k + 1, x5, x299000, x299001, x300000, x300001 => if x5 < (x299001.length : Int) then (if 0 ≤ x5 then (if x5 < (x300001.length : Int) then (if (!(((rd_T43 x299001 x5).f0) == ((rd_T43 x300001 x5).f0)) || (!(((rd_T43 x299001 x5).f1) == ((rd_T43 x300001 x5).f1)))) = true then (some false) else (palinodelaw18_defs.l0 k (wrap64 (x5 + 1)) x299000 x299001 x300000 x300001)) else (none)) else (none)) else (some true)
end
def palinodelaw18_defs.f (k : Nat) (a0_0 : ByteArray) (l0_1 : List (S43)) (a1_0 : ByteArray) (l1_1 : List (S43)) : Option (Bool) := if a0_0.toList = a1_0.toList then (palinodelaw18_defs.j0 k ((l0_1.length : Int) != (l1_1.length : Int)) a0_0 l0_1 a1_0 l1_1) else (palinodelaw18_defs.j0 k true a0_0 l0_1 a1_0 l1_1)
theorem palinodelaw18_defs.mono_l : ∀ k, (∀ y0 y1 y2 y3 y4, LeO (palinodelaw18_defs.j0 k y0 y1 y2 y3 y4) (palinodelaw18_defs.j0 (k + 1) y0 y1 y2 y3 y4)) ∧ (∀ y0 y1 y2 y3 y4, LeO (palinodelaw18_defs.l0 k y0 y1 y2 y3 y4) (palinodelaw18_defs.l0 (k + 1) y0 y1 y2 y3 y4))
 | 0 => ⟨fun _ _ _ _ _ r h => by simp [palinodelaw18_defs.j0] at h, fun _ _ _ _ _ r h => by simp [palinodelaw18_defs.l0] at h⟩
 | k + 1 => by
  obtain ⟨ih0, ih1⟩ := palinodelaw18_defs.mono_l k
  refine ⟨?_, ?_⟩
  ·
   intro y0 y1 y2 y3 y4
   unfold palinodelaw18_defs.j0
   repeat' first
   | (with_reducible exact ih0 _ _ _ _ _)
   | (with_reducible exact ih1 _ _ _ _ _)
   | (with_reducible exact LeO.refl _)
   | (with_reducible exact LeO.none _)
   | (with_reducible refine LeO.ite ?_ ?_)
   | (with_reducible refine LeO.bind ?_ (fun _ => ?_))
   | exact ih0 _ _ _ _ _
   | exact ih1 _ _ _ _ _
   | exact LeO.none _
   | refine LeO.ite ?_ ?_
   | refine LeO.bind ?_ (fun _ => ?_)
  ·
   intro y0 y1 y2 y3 y4
   unfold palinodelaw18_defs.l0
   repeat' first
   | (with_reducible exact ih0 _ _ _ _ _)
   | (with_reducible exact ih1 _ _ _ _ _)
   | (with_reducible exact LeO.refl _)
   | (with_reducible exact LeO.none _)
   | (with_reducible refine LeO.ite ?_ ?_)
   | (with_reducible refine LeO.bind ?_ (fun _ => ?_))
   | exact ih0 _ _ _ _ _
   | exact ih1 _ _ _ _ _
   | exact LeO.none _
   | refine LeO.ite ?_ ?_
   | refine LeO.bind ?_ (fun _ => ?_)
theorem palinodelaw18_defs.mono : ∀ a0 a1 a2 a3 k, LeO (palinodelaw18_defs.f k a0 a1 a2 a3) (palinodelaw18_defs.f (k + 1) a0 a1 a2 a3) := by
 intro a0 a1 a2 a3 k
 obtain ⟨ih0, ih1⟩ := palinodelaw18_defs.mono_l k
 unfold palinodelaw18_defs.f
 repeat' first
   | (with_reducible exact ih0 _ _ _ _ _)
   | (with_reducible exact ih1 _ _ _ _ _)
   | (with_reducible exact LeO.refl _)
   | (with_reducible exact LeO.none _)
   | (with_reducible refine LeO.ite ?_ ?_)
   | (with_reducible refine LeO.bind ?_ (fun _ => ?_))
   | exact ih0 _ _ _ _ _
   | exact ih1 _ _ _ _ _
   | exact LeO.none _
   | refine LeO.ite ?_ ?_
   | refine LeO.bind ?_ (fun _ => ?_)
set_option maxHeartbeats 8000000 in
set_option maxRecDepth 100000 in
theorem palinodelaw18_defs.calls (k : Nat) (a0_0 : ByteArray) (A0_1 : Option Addr) (c0_1 : Nat) (l0_1 : List (S43)) (a1_0 : ByteArray) (A1_1 : Option Addr) (c1_1 : Nat) (l1_1 : List (S43)) (r : Bool) (w : World) (hr0_1 : Kd.C k43 w A0_1 l0_1.length l0_1) (hc0_1 : l0_1.length ≤ c0_1) (hr1_1 : Kd.C k43 w A1_1 l1_1.length l1_1) (hc1_1 : l1_1.length ≤ c1_1) (h : palinodelaw18_defs.f k a0_0 l0_1 a1_0 l1_1 = some r) :
  Calls Try.prog 19 #[.agg #[.string a0_0, .slice A0_1 l0_1.length c0_1], .agg #[.string a1_0, .slice A1_1 l1_1.length c1_1]] w fun e w' => e = .returned (.bool r) ∧ Below w.heap.size w w' := by
 have hu24 := Try.underlying24
 have hu43 := Try.underlying43
 have HR0_1 := Aside0.mk hr0_1
 have HC0_1 := Aside0.mk hc0_1
 clear hr0_1 hc0_1
 have HR1_1 := Aside0.mk hr1_1
 have HC1_1 := Aside0.mk hc1_1
 clear hr1_1 hc1_1
 have HB := Aside0.mk (Below.refl w.heap.size w)
 have H : (if a0_0.toList = a1_0.toList then (palinodelaw18_defs.j0 k ((l0_1.length : Int) != (l1_1.length : Int)) a0_0 l0_1 a1_0 l1_1) else (palinodelaw18_defs.j0 k true a0_0 l0_1 a1_0 l1_1)) = some r := h
 clear h
 have HC3 := Aside0.mk H
 clear H
 go_enter Try.func19, Try.ntmps19
 go_upto_region 1 with (first | ((with_reducible refine gate_dst (N := 2) rfl ?_); (try (refine gate_guard (by rfl) ?_; dsimp only)); refine box_event ?hg (N := 2) ?hd (cs := #[.string a0_0, .slice A0_1 l0_1.length c0_1]) (t := 24) ?hr ?_; (case hd => rfl); (case hg => rfl); (case hr => first | (go_simp; done) | (go_simp; rfl)); intro gb298 hg w4 hbox hb; have n0_ := Aside0.mk (Yv HB hb); have n1_ := Aside0.mk (hbox); have n2_ := Aside0.mk (Yg HB hg); have n3_ := Aside0.mk (Yg HB hg); clear HB; have HB := n0_; have BK298 := n1_; have GW298 := n2_; have GE298 := n3_; clear n0_ n1_ n2_ n3_; clear hb hbox hg) | ((with_reducible refine gate_dst (N := 3) rfl ?_); (try (refine gate_guard (by rfl) ?_; dsimp only)); refine box_event ?hg (N := 3) ?hd (cs := #[.string a1_0, .slice A1_1 l1_1.length c1_1]) (t := 24) ?hr ?_; (case hd => rfl); (case hg => rfl); (case hr => first | (go_simp; done) | (go_simp; rfl)); intro gb299 hg w5 hbox hb; have n0_ := Aside0.mk (Zv BK298 hb); have n1_ := Aside0.mk (Yv HB hb); have n2_ := Aside0.mk (hbox); have n3_ := Aside0.mk (Yg HB hg); have n4_ := Aside0.mk (Yg HB hg); have n5_ := Aside0.mk (Zl BK298 hg); have n6_ := Aside0.mk (Zg BK298 hg); clear BK298; clear HB; have BK298 := n0_; have HB := n1_; have BK299 := n2_; have GW299 := n3_; have GE299 := n4_; have NB298_299 := n5_; have NB299_298 := n6_; clear n0_ n1_ n2_ n3_ n4_ n5_ n6_; clear hb hbox hg))
 repeat (go_quiet (first | ((with_reducible refine gate_dst (N := 2) rfl ?_); (try (refine gate_guard (by rfl) ?_; dsimp only)); refine box_event ?hg (N := 2) ?hd (cs := #[.string a0_0, .slice A0_1 l0_1.length c0_1]) (t := 24) ?hr ?_; (case hd => rfl); (case hg => rfl); (case hr => first | (go_simp; done) | (go_simp; rfl)); intro gb298 hg w4 hbox hb; have n0_ := Aside0.mk (Yv HB hb); have n1_ := Aside0.mk (hbox); have n2_ := Aside0.mk (Yg HB hg); have n3_ := Aside0.mk (Yg HB hg); clear HB; have HB := n0_; have BK298 := n1_; have GW298 := n2_; have GE298 := n3_; clear n0_ n1_ n2_ n3_; clear hb hbox hg) | ((with_reducible refine gate_dst (N := 3) rfl ?_); (try (refine gate_guard (by rfl) ?_; dsimp only)); refine box_event ?hg (N := 3) ?hd (cs := #[.string a1_0, .slice A1_1 l1_1.length c1_1]) (t := 24) ?hr ?_; (case hd => rfl); (case hg => rfl); (case hr => first | (go_simp; done) | (go_simp; rfl)); intro gb299 hg w5 hbox hb; have n0_ := Aside0.mk (Zv BK298 hb); have n1_ := Aside0.mk (Yv HB hb); have n2_ := Aside0.mk (hbox); have n3_ := Aside0.mk (Yg HB hg); have n4_ := Aside0.mk (Yg HB hg); have n5_ := Aside0.mk (Zl BK298 hg); have n6_ := Aside0.mk (Zg BK298 hg); clear BK298; clear HB; have BK298 := n0_; have HB := n1_; have BK299 := n2_; have GW299 := n3_; have GE299 := n4_; have NB298_299 := n5_; have NB299_298 := n6_; clear n0_ n1_ n2_ n3_ n4_ n5_ n6_; clear hb hbox hg)); go_upto_region 1 with (first | ((with_reducible refine gate_dst (N := 2) rfl ?_); (try (refine gate_guard (by rfl) ?_; dsimp only)); refine box_event ?hg (N := 2) ?hd (cs := #[.string a0_0, .slice A0_1 l0_1.length c0_1]) (t := 24) ?hr ?_; (case hd => rfl); (case hg => rfl); (case hr => first | (go_simp; done) | (go_simp; rfl)); intro gb298 hg w4 hbox hb; have n0_ := Aside0.mk (Yv HB hb); have n1_ := Aside0.mk (hbox); have n2_ := Aside0.mk (Yg HB hg); have n3_ := Aside0.mk (Yg HB hg); clear HB; have HB := n0_; have BK298 := n1_; have GW298 := n2_; have GE298 := n3_; clear n0_ n1_ n2_ n3_; clear hb hbox hg) | ((with_reducible refine gate_dst (N := 3) rfl ?_); (try (refine gate_guard (by rfl) ?_; dsimp only)); refine box_event ?hg (N := 3) ?hd (cs := #[.string a1_0, .slice A1_1 l1_1.length c1_1]) (t := 24) ?hr ?_; (case hd => rfl); (case hg => rfl); (case hr => first | (go_simp; done) | (go_simp; rfl)); intro gb299 hg w5 hbox hb; have n0_ := Aside0.mk (Zv BK298 hb); have n1_ := Aside0.mk (Yv HB hb); have n2_ := Aside0.mk (hbox); have n3_ := Aside0.mk (Yg HB hg); have n4_ := Aside0.mk (Yg HB hg); have n5_ := Aside0.mk (Zl BK298 hg); have n6_ := Aside0.mk (Zg BK298 hg); clear BK298; clear HB; have BK298 := n0_; have HB := n1_; have BK299 := n2_; have GW299 := n3_; have GE299 := n4_; have NB298_299 := n5_; have NB299_298 := n6_; clear n0_ n1_ n2_ n3_ n4_ n5_ n6_; clear hb hbox hg)))
 (try simp only [Act.put, List.setIfInBounds_toArray, List.set_cons_zero, List.set_cons_succ])
 go_cut [19] (fun v19 wc => ∃ (kq : Nat) (x19_2 : Bool), v19 = .bool x19_2 ∧ Aside0 (palinodelaw18_defs.j0 kq x19_2 a0_0 l0_1 a1_0 l1_1 = some r) ∧ Aside0 (kq ≤ k) ∧ Aside0 (wc.heap[gb298]? = some (.cells #[.string a0_0, (.slice A0_1 l0_1.length c0_1)] 24 (0, 0))) ∧ Aside0 (wc.heap[gb299]? = some (.cells #[.string a1_0, (.slice A1_1 l1_1.length c1_1)] 24 (0, 0))) ∧ Aside0 (Below w.heap.size w wc))
 case first =>
  have H := HC3.out
  clear HC3
  by_cases c6 : a0_0.toList = a1_0.toList
  ·
   rw [if_pos c6] at H
   have c6b0 : (a0_0.toList == a1_0.toList) = true := beq_iff_eq.mpr c6
   have c6b1 : (a0_0.toList != a1_0.toList) = false := bne_eq_false_iff_eq.mpr c6
   clear c6
   (first | rw [c6b0] | (simp only [i64_w, i32_w]; rw [c6b0]) | skip)
   have H' := Aside0.mk H
   clear H
   obtain ⟨hnb7, hnc7⟩ := Zo NB298_299
   obtain ⟨⟨hcz8_0, hcz8_1⟩, hfz8_0, hfz8_1⟩ := Zk2 BK298
   obtain ⟨⟨hcz9_0, hcz9_1⟩, hfz9_0, hfz9_1⟩ := Zk2 BK299
   go_wp2
   repeat (go_quiet (fail); try go_wp2)
   go_meet
   case rel => exact ⟨_, (((l0_1.length : Int) != (l1_1.length : Int))), (by first | rfl | (simp; done) | (simp [*]; done)), H', ⟨by first | omega | exact Nat.le_refl _⟩, ⟨by (with_reducible repeat first | apply Zn | apply Zd | apply Za); exact BK298.out⟩, ⟨by (with_reducible repeat first | apply Zn | apply Zd | apply Za); exact BK299.out⟩, ⟨Yr HB⟩⟩
  ·
   rw [if_neg c6] at H
   have c6b0 : (a0_0.toList == a1_0.toList) = false := beq_eq_false_iff_ne.mpr c6
   have c6b1 : (a0_0.toList != a1_0.toList) = true := bne_iff_ne.mpr c6
   (first | rw [c6b0] | (simp only [i64_w, i32_w]; rw [c6b0]) | skip)
   have H' := Aside0.mk H
   clear H
   obtain ⟨hnb10, hnc10⟩ := Zo NB298_299
   obtain ⟨⟨hcz11_0, hcz11_1⟩, hfz11_0, hfz11_1⟩ := Zk2 BK298
   obtain ⟨⟨hcz12_0, hcz12_1⟩, hfz12_0, hfz12_1⟩ := Zk2 BK299
   go_wp2
   repeat (go_quiet (fail); try go_wp2)
   go_meet
   case rel => exact ⟨_, (true), (by first | rfl | (simp; done) | (simp [*]; done)), H', ⟨by first | omega | exact Nat.le_refl _⟩, ⟨by (with_reducible repeat first | apply Zn | apply Zd | apply Za); exact BK298.out⟩, ⟨by (with_reducible repeat first | apply Zn | apply Zd | apply Za); exact BK299.out⟩, ⟨Yr HB⟩⟩
 case rest =>
  clear HC3
  try clear c1
  try clear p2
  try clear c6
  try clear c6b0
  try clear c6b1
  try clear c7
  try clear c10
  try clear hcz11_0
  try clear hcz11_1
  try clear hcz12_0
  try clear hcz12_1
  try clear hcz8_0
  try clear hcz8_1
  try clear hcz9_0
  try clear hcz9_1
  try clear hfz11_0
  try clear hfz11_1
  try clear hfz12_0
  try clear hfz12_1
  try clear hfz8_0
  try clear hfz8_1
  try clear hfz9_0
  try clear hfz9_1
  obtain ⟨kq, x19_2, rfl, HA, HJ2, BK298, BK299, HB⟩ := hcut
  cases kq with
  | zero => exact absurd HA.out (by simp [palinodelaw18_defs.j0])
  | succ kj2 =>
   have H := HA.out
   clear HA
   simp only [palinodelaw18_defs.j0] at H
   by_cases c13 : x19_2 = true
   ·
    subst c13
    have H1 : (some false) = some r := by rw [if_pos rfl] at H; exact H
    clear H
    have H := H1
    clear H1
    obtain rfl := Option.some.inj H
    go_wp2
    repeat (go_quiet (fail); try go_wp2)
    go_ret
    exact ⟨by first | rfl | (simp [errW_none, errW_some] <;> rfl) | (simp [*, errW_none, errW_some] <;> rfl), Yr HB⟩
   ·
    replace c13 := Bool.eq_false_iff.mpr c13
    subst c13
    have H1 : (palinodelaw18_defs.l0 kj2 0 a0_0 l0_1 a1_0 l1_1) = some r := by rw [if_neg (show ¬ (false = true) by decide)] at H; exact H
    clear H
    have H := H1
    clear H1
    have H' := Aside0.mk H
    clear H
    go_wp2
    repeat (go_quiet (fail); try go_wp2)
    go_loopg [5] kj2 (fun kq v5 w' => ∃ (x5_2 : Int), v5 = .int .i64 x5_2 ∧ Aside0 (palinodelaw18_defs.l0 kq x5_2 a0_0 l0_1 a1_0 l1_1 = some r) ∧ Aside0 (kq ≤ kj2) ∧ Aside0 (w'.heap[gb298]? = some (.cells #[.string a0_0, (.slice A0_1 l0_1.length c0_1)] 24 (0, 0))) ∧ Aside0 (w'.heap[gb299]? = some (.cells #[.string a1_0, (.slice A1_1 l1_1.length c1_1)] 24 (0, 0))) ∧ Aside0 (Below w.heap.size w w'))
    case atStart => exact ⟨(0), (by first | rfl | (simp; done) | (simp [*]; done)), H', ⟨Nat.le_refl _⟩, ⟨by (with_reducible repeat first | apply Zn | apply Zd | apply Za); exact BK298.out⟩, ⟨by (with_reducible repeat first | apply Zn | apply Zd | apply Za); exact BK299.out⟩, ⟨Yr HB⟩⟩
    case round =>
     clear H'
     try clear c1
     try clear p2
     try clear c6
     try clear c6b0
     try clear c6b1
     try clear c7
     try clear c10
     try clear c13
     try clear hcz11_0
     try clear hcz11_1
     try clear hcz12_0
     try clear hcz12_1
     try clear hcz8_0
     try clear hcz8_1
     try clear hcz9_0
     try clear hcz9_1
     try clear hfz11_0
     try clear hfz11_1
     try clear hfz12_0
     try clear hfz12_1
     try clear hfz8_0
     try clear hfz8_1
     try clear hfz9_0
     try clear hfz9_1
     try clear p2
     obtain ⟨x5_2, rfl, HA, HK2, BK298, BK299, HB⟩ := hrel
     cases gk with
     | zero => exact absurd HA.out (by simp [palinodelaw18_defs.l0])
     | succ k2 =>
      have H := HA.out
      clear HA
      simp only [palinodelaw18_defs.l0] at H
      by_cases c14 : x5_2 < (l0_1.length : Int)
      ·
       rw [if_pos c14] at H
       have c14b0 : decide (x5_2 < (l0_1.length : Int)) = true := decide_eq_true c14
       clear c14
       by_cases c15 : 0 ≤ x5_2
       ·
        rw [if_pos c15] at H
        have c15b0 : decide (0 ≤ x5_2) = true := decide_eq_true c15
        clear c15
        by_cases c16 : x5_2 < (l1_1.length : Int)
        ·
         rw [if_pos c16] at H
         have c16b0 : decide (x5_2 < (l1_1.length : Int)) = true := decide_eq_true c16
         clear c16
         by_cases c17 : (!(((rd_T43 l0_1 x5_2).f0) == ((rd_T43 l1_1 x5_2).f0)) || (!(((rd_T43 l0_1 x5_2).f1) == ((rd_T43 l1_1 x5_2).f1)))) = true
         ·
          rw [if_pos c17] at H
          have c17b0 : (!(((rd_T43 l0_1 x5_2).f0) == ((rd_T43 l1_1 x5_2).f0)) || (!(((rd_T43 l0_1 x5_2).f1) == ((rd_T43 l1_1 x5_2).f1)))) = true := c17
          clear c17
          obtain rfl := Option.some.inj H
          obtain ⟨hnb18, hnc18⟩ := Zo NB298_299
          obtain ⟨⟨hcz19_0, hcz19_1⟩, hfz19_0, hfz19_1⟩ := Zk2 BK298
          have p300 : 0 ≤ (x5_2 : Int) := of_decide_eq_true (by first | (with_reducible assumption) | assumption)
          have q300 : x5_2 < (l0_1.length : Int) := of_decide_eq_true (by first | (with_reducible assumption) | assumption)
          obtain ⟨ad300, e300, hx300_0, hx300_1⟩ := at_T43 HR0_1.out x5_2 p300 q300
          cases e300
          replace hx300_0 := (HB.out.cell (World.block_lt_of_cell? w _ hx300_0)).trans hx300_0
          replace hx300_1 := (HB.out.cell (World.block_lt_of_cell? w _ hx300_1)).trans hx300_1
          replace p300 := eq_true p300
          replace q300 := eq_true q300
          obtain ⟨⟨hcz20_0, hcz20_1⟩, hfz20_0, hfz20_1⟩ := Zk2 BK299
          have p301 : 0 ≤ (x5_2 : Int) := of_decide_eq_true (by first | (with_reducible assumption) | assumption)
          have q301 : x5_2 < (l1_1.length : Int) := of_decide_eq_true (by first | (with_reducible assumption) | assumption)
          obtain ⟨ad301, e301, hx301_0, hx301_1⟩ := at_T43 HR1_1.out x5_2 p301 q301
          cases e301
          replace hx301_0 := (HB.out.cell (World.block_lt_of_cell? w _ hx301_0)).trans hx301_0
          replace hx301_1 := (HB.out.cell (World.block_lt_of_cell? w _ hx301_1)).trans hx301_1
          replace p301 := eq_true p301
          replace q301 := eq_true q301
          go_wp2
          repeat (go_quiet (fail); try go_wp2)
          go_ret
          exact ⟨by first | rfl | (simp [errW_none, errW_some] <;> rfl) | (simp [*, errW_none, errW_some] <;> rfl), Yr HB⟩
         ·
          rw [if_neg c17] at H
          have c17b0 : (!(((rd_T43 l0_1 x5_2).f0) == ((rd_T43 l1_1 x5_2).f0)) || (!(((rd_T43 l0_1 x5_2).f1) == ((rd_T43 l1_1 x5_2).f1)))) = false := by simpa using c17
          clear c17
          have H' := Aside0.mk H
          clear H
          obtain ⟨hnb21, hnc21⟩ := Zo NB298_299
          obtain ⟨⟨hcz22_0, hcz22_1⟩, hfz22_0, hfz22_1⟩ := Zk2 BK298
          have p300 : 0 ≤ (x5_2 : Int) := of_decide_eq_true (by first | (with_reducible assumption) | assumption)
          have q300 : x5_2 < (l0_1.length : Int) := of_decide_eq_true (by first | (with_reducible assumption) | assumption)
          obtain ⟨ad300, e300, hx300_0, hx300_1⟩ := at_T43 HR0_1.out x5_2 p300 q300
          cases e300
          replace hx300_0 := (HB.out.cell (World.block_lt_of_cell? w _ hx300_0)).trans hx300_0
          replace hx300_1 := (HB.out.cell (World.block_lt_of_cell? w _ hx300_1)).trans hx300_1
          replace p300 := eq_true p300
          replace q300 := eq_true q300
          obtain ⟨⟨hcz23_0, hcz23_1⟩, hfz23_0, hfz23_1⟩ := Zk2 BK299
          have p301 : 0 ≤ (x5_2 : Int) := of_decide_eq_true (by first | (with_reducible assumption) | assumption)
          have q301 : x5_2 < (l1_1.length : Int) := of_decide_eq_true (by first | (with_reducible assumption) | assumption)
          obtain ⟨ad301, e301, hx301_0, hx301_1⟩ := at_T43 HR1_1.out x5_2 p301 q301
          cases e301
          replace hx301_0 := (HB.out.cell (World.block_lt_of_cell? w _ hx301_0)).trans hx301_0
          replace hx301_1 := (HB.out.cell (World.block_lt_of_cell? w _ hx301_1)).trans hx301_1
          replace p301 := eq_true p301
          replace q301 := eq_true q301
          go_wp2
          repeat (go_quiet (fail); try go_wp2)
          go_roundg k2
          case measure => have := HJ2.out; have := HK2.out; omega
          case rel => exact ⟨(wrap64 (x5_2 + 1)), (by first | rfl | (simp; done) | (simp [*]; done)), H', ⟨by have := HJ2.out; have := HK2.out; omega⟩, ⟨by (with_reducible repeat first | apply Zn | apply Zd | apply Za); exact BK298.out⟩, ⟨by (with_reducible repeat first | apply Zn | apply Zd | apply Za); exact BK299.out⟩, ⟨Yr HB⟩⟩
        ·
         rw [if_neg c16] at H
         exact absurd H (by simp)
       ·
        rw [if_neg c15] at H
        exact absurd H (by simp)
      ·
       rw [if_neg c14] at H
       have c14b0 : decide (x5_2 < (l0_1.length : Int)) = false := decide_eq_false c14
       clear c14
       obtain rfl := Option.some.inj H
       obtain ⟨hnb24, hnc24⟩ := Zo NB298_299
       obtain ⟨⟨hcz25_0, hcz25_1⟩, hfz25_0, hfz25_1⟩ := Zk2 BK298
       go_wp2
       repeat (go_quiet (fail); try go_wp2)
       go_ret
       exact ⟨by first | rfl | (simp [errW_none, errW_some] <;> rfl) | (simp [*, errW_none, errW_some] <;> rfl), Yr HB⟩

/-! ### palinodelaw18_DefineBack: function 5 -/
mutual
def palinodelaw18_DefineBack.j0 : Nat → ByteArray → Int → ByteArray → Bool → ByteArray → Bool → ByteArray → List (S43) → Option (Bool)
 | 0, _, _, _, _, _, _, _, _ => none
 | k + 1, x1, x2, x3, x9, x10, x34, x303000, x303001 => if x34 = true then ((define_Decode.f x10).bind fun bt307 => ((palinodelaw18_defs.f k bt307.1 bt307.2.1 x303000 x303001).bind fun t313 => (if x2 < 0 then (palinodelaw18_DefineBack.j1 k x1 (wrap64 (-(wrap64 (x2 + 1)))) x3 x9 x10 bt307.2.2 t313) else (palinodelaw18_DefineBack.j1 k x1 x2 x3 x9 x10 bt307.2.2 t313)))) else (palinodelaw18_DefineBack.j2 k x1 x9)
def palinodelaw18_DefineBack.j2 : Nat → ByteArray → Bool → Option (Bool)
 | 0, _, _ => none
 | k + 1, x1, x9 => (define_Decode.f x1).bind fun bt329 => (if bt329.2.2.isNone = true then ((define_Encode.f k bt329.1 bt329.2.1).bind fun bt336 => (if x9 = true then (if bt336.1.toList = x1.toList then (if bt336.2.isNone = true then ((define_Right.f k bt329.1 bt329.2.1).bind fun t339 => (some t339)) else (some false)) else (some false)) else (some false))) else (if x9 = true then (some (bt329.1.toList == ([] : List UInt8))) else (some false)))
def palinodelaw18_DefineBack.j1 : Nat → ByteArray → Int → ByteArray → Bool → ByteArray → Option Int → Bool → Option (Bool)
 | 0, _, _, _, _, _, _, _ => none
 | k + 1, x1, x2, x3, x9, x10, x13, x14 => if (x10.size : Int) = 0 then (none) else (if 0 ≤ (Int.tmod x2 (x10.size : Int)) then (if (Int.tmod x2 (x10.size : Int)) ≤ (x10.size : Int) then ((define_Decode.f (x10.extract 0 ((Int.tmod x2 (x10.size : Int)) : Int).toNat)).bind fun bt314 => (if x10.size + x3.size ≤ 9223372036854775807 then ((define_Decode.f (x10 ++ x3)).bind fun bt320 => (if x14 = true then (if x13.isNone = true then ((palinodelaw18_is.f bt314.2.2 3).bind fun t327 => (if t327 = true then (if x3.toList = ([] : List UInt8) then (palinodelaw18_DefineBack.j2 k x1 x9) else ((palinodelaw18_is.f bt320.2.2 3).bind fun t328 => (if t328 = true then (palinodelaw18_DefineBack.j2 k x1 x9) else (some false)))) else (some false))) else (some false)) else (some false))) else (none))) else (none)) else (none))
end
def palinodelaw18_DefineBack.f (k : Nat) (a0_0 : ByteArray) (l0_1 : List (S43)) (a1 : ByteArray) (a2 : Int) (a3 : ByteArray) : Option (Bool) := (palinodelaw18_examples.f k).bind fun t303 => ((define_Encode.f k a0_0 l0_1).bind fun bt304 => (if bt304.2.isNone = true then (palinodelaw18_DefineBack.j0 k a1 a2 a3 t303 bt304.1 (bt304.1.toList != ([] : List UInt8)) a0_0 l0_1) else (palinodelaw18_DefineBack.j0 k a1 a2 a3 t303 bt304.1 false a0_0 l0_1)))
theorem palinodelaw18_DefineBack.mono_l : ∀ k, (∀ y0 y1 y2 y3 y4 y5 y6 y7, LeO (palinodelaw18_DefineBack.j0 k y0 y1 y2 y3 y4 y5 y6 y7) (palinodelaw18_DefineBack.j0 (k + 1) y0 y1 y2 y3 y4 y5 y6 y7)) ∧ (∀ y0 y1, LeO (palinodelaw18_DefineBack.j2 k y0 y1) (palinodelaw18_DefineBack.j2 (k + 1) y0 y1)) ∧ (∀ y0 y1 y2 y3 y4 y5 y6, LeO (palinodelaw18_DefineBack.j1 k y0 y1 y2 y3 y4 y5 y6) (palinodelaw18_DefineBack.j1 (k + 1) y0 y1 y2 y3 y4 y5 y6))
 | 0 => ⟨fun _ _ _ _ _ _ _ _ r h => by simp [palinodelaw18_DefineBack.j0] at h, fun _ _ r h => by simp [palinodelaw18_DefineBack.j2] at h, fun _ _ _ _ _ _ _ r h => by simp [palinodelaw18_DefineBack.j1] at h⟩
 | k + 1 => by
  obtain ⟨ih0, ih1, ih2⟩ := palinodelaw18_DefineBack.mono_l k
  refine ⟨?_, ?_, ?_⟩
  ·
   intro y0 y1 y2 y3 y4 y5 y6 y7
   unfold palinodelaw18_DefineBack.j0
   repeat' first
   | (with_reducible exact ih0 _ _ _ _ _ _ _ _)
   | (with_reducible exact ih1 _ _)
   | (with_reducible exact ih2 _ _ _ _ _ _ _)
   | (with_reducible exact define_Encode.mono _ _ _)
   | (with_reducible exact define_Right.mono _ _ _)
   | (with_reducible exact palinodelaw18_defs.mono _ _ _ _ _)
   | (with_reducible exact palinodelaw18_examples.mono _)
   | (with_reducible exact LeO.refl _)
   | (with_reducible exact LeO.none _)
   | (with_reducible refine LeO.ite ?_ ?_)
   | (with_reducible refine LeO.bind ?_ (fun _ => ?_))
   | exact ih0 _ _ _ _ _ _ _ _
   | exact ih1 _ _
   | exact ih2 _ _ _ _ _ _ _
   | exact define_Encode.mono _ _ _
   | exact define_Right.mono _ _ _
   | exact palinodelaw18_defs.mono _ _ _ _ _
   | exact palinodelaw18_examples.mono _
   | exact LeO.none _
   | refine LeO.ite ?_ ?_
   | refine LeO.bind ?_ (fun _ => ?_)
  ·
   intro y0 y1
   unfold palinodelaw18_DefineBack.j2
   repeat' first
   | (with_reducible exact ih0 _ _ _ _ _ _ _ _)
   | (with_reducible exact ih1 _ _)
   | (with_reducible exact ih2 _ _ _ _ _ _ _)
   | (with_reducible exact define_Encode.mono _ _ _)
   | (with_reducible exact define_Right.mono _ _ _)
   | (with_reducible exact palinodelaw18_defs.mono _ _ _ _ _)
   | (with_reducible exact palinodelaw18_examples.mono _)
   | (with_reducible exact LeO.refl _)
   | (with_reducible exact LeO.none _)
   | (with_reducible refine LeO.ite ?_ ?_)
   | (with_reducible refine LeO.bind ?_ (fun _ => ?_))
   | exact ih0 _ _ _ _ _ _ _ _
   | exact ih1 _ _
   | exact ih2 _ _ _ _ _ _ _
   | exact define_Encode.mono _ _ _
   | exact define_Right.mono _ _ _
   | exact palinodelaw18_defs.mono _ _ _ _ _
   | exact palinodelaw18_examples.mono _
   | exact LeO.none _
   | refine LeO.ite ?_ ?_
   | refine LeO.bind ?_ (fun _ => ?_)
  ·
   intro y0 y1 y2 y3 y4 y5 y6
   unfold palinodelaw18_DefineBack.j1
   repeat' first
   | (with_reducible exact ih0 _ _ _ _ _ _ _ _)
   | (with_reducible exact ih1 _ _)
   | (with_reducible exact ih2 _ _ _ _ _ _ _)
   | (with_reducible exact define_Encode.mono _ _ _)
   | (with_reducible exact define_Right.mono _ _ _)
   | (with_reducible exact palinodelaw18_defs.mono _ _ _ _ _)
   | (with_reducible exact palinodelaw18_examples.mono _)
   | (with_reducible exact LeO.refl _)
   | (with_reducible exact LeO.none _)
   | (with_reducible refine LeO.ite ?_ ?_)
   | (with_reducible refine LeO.bind ?_ (fun _ => ?_))
   | exact ih0 _ _ _ _ _ _ _ _
   | exact ih1 _ _
   | exact ih2 _ _ _ _ _ _ _
   | exact define_Encode.mono _ _ _
   | exact define_Right.mono _ _ _
   | exact palinodelaw18_defs.mono _ _ _ _ _
   | exact palinodelaw18_examples.mono _
   | exact LeO.none _
   | refine LeO.ite ?_ ?_
   | refine LeO.bind ?_ (fun _ => ?_)
theorem palinodelaw18_DefineBack.mono : ∀ a0 a1 a2 a3 a4 k, LeO (palinodelaw18_DefineBack.f k a0 a1 a2 a3 a4) (palinodelaw18_DefineBack.f (k + 1) a0 a1 a2 a3 a4) := by
 intro a0 a1 a2 a3 a4 k
 obtain ⟨ih0, ih1, ih2⟩ := palinodelaw18_DefineBack.mono_l k
 unfold palinodelaw18_DefineBack.f
 repeat' first
   | (with_reducible exact ih0 _ _ _ _ _ _ _ _)
   | (with_reducible exact ih1 _ _)
   | (with_reducible exact ih2 _ _ _ _ _ _ _)
   | (with_reducible exact define_Encode.mono _ _ _)
   | (with_reducible exact define_Right.mono _ _ _)
   | (with_reducible exact palinodelaw18_defs.mono _ _ _ _ _)
   | (with_reducible exact palinodelaw18_examples.mono _)
   | (with_reducible exact LeO.refl _)
   | (with_reducible exact LeO.none _)
   | (with_reducible refine LeO.ite ?_ ?_)
   | (with_reducible refine LeO.bind ?_ (fun _ => ?_))
   | exact ih0 _ _ _ _ _ _ _ _
   | exact ih1 _ _
   | exact ih2 _ _ _ _ _ _ _
   | exact define_Encode.mono _ _ _
   | exact define_Right.mono _ _ _
   | exact palinodelaw18_defs.mono _ _ _ _ _
   | exact palinodelaw18_examples.mono _
   | exact LeO.none _
   | refine LeO.ite ?_ ?_
   | refine LeO.bind ?_ (fun _ => ?_)
set_option maxHeartbeats 8000000 in
set_option maxRecDepth 100000 in
theorem palinodelaw18_DefineBack.calls (k : Nat) (a0_0 : ByteArray) (A0_1 : Option Addr) (c0_1 : Nat) (l0_1 : List (S43)) (a1 : ByteArray) (a2 : Int) (a3 : ByteArray) (r : Bool) (w : World) (hr0_1 : Kd.C k43 w A0_1 l0_1.length l0_1) (hc0_1 : l0_1.length ≤ c0_1) (h : palinodelaw18_DefineBack.f k a0_0 l0_1 a1 a2 a3 = some r) (HEX_ : Aside0 (∀ k_ r_, palinodelaw18_examples.f k_ = some r_ → r_ = true)) (HRT_ : Aside0 (r = true) := by first | exact ⟨rfl⟩ | assumption) :
  Calls Try.prog 5 #[.agg #[.string a0_0, .slice A0_1 l0_1.length c0_1], .string a1, .int .i64 a2, .string a3] w fun e w' => e = .returned (.bool r) ∧ Below w.heap.size w w' := by
 have hu24 := Try.underlying24
 have hu31 := Try.underlying31
 have hu48 := Try.underlying48
 have HR0_1 := Aside0.mk hr0_1
 have HC0_1 := Aside0.mk hc0_1
 clear hr0_1 hc0_1
 have HB := Aside0.mk (Below.refl w.heap.size w)
 have H : ((palinodelaw18_examples.f k).bind fun t303 => ((define_Encode.f k a0_0 l0_1).bind fun bt304 => (if bt304.2.isNone = true then (palinodelaw18_DefineBack.j0 k a1 a2 a3 t303 bt304.1 (bt304.1.toList != ([] : List UInt8)) a0_0 l0_1) else (palinodelaw18_DefineBack.j0 k a1 a2 a3 t303 bt304.1 false a0_0 l0_1)))) = some r := h
 clear h
 replace H := Option.bind_eq_some_iff.mp H
 obtain ⟨t303, A50, H⟩ := H
 replace H : ((define_Encode.f k a0_0 l0_1).bind fun bt304 => (if bt304.2.isNone = true then (palinodelaw18_DefineBack.j0 k a1 a2 a3 t303 bt304.1 (bt304.1.toList != ([] : List UInt8)) a0_0 l0_1) else (palinodelaw18_DefineBack.j0 k a1 a2 a3 t303 bt304.1 false a0_0 l0_1))) = some r := H
 have A5 := Aside0.mk A50
 have HTA5_ : Aside0 (t303 = true) := ⟨HEX_.out _ _ A50⟩
 clear A50
 replace H := Option.bind_eq_some_iff.mp H
 obtain ⟨⟨t304, t305⟩, A60, H⟩ := H
 replace H : (if t305.isNone = true then (palinodelaw18_DefineBack.j0 k a1 a2 a3 t303 t304 (t304.toList != ([] : List UInt8)) a0_0 l0_1) else (palinodelaw18_DefineBack.j0 k a1 a2 a3 t303 t304 false a0_0 l0_1)) = some r := H
 have A6 := Aside0.mk A60
 clear A60
 have HC7 := Aside0.mk H
 clear H
 go_enter Try.func5, Try.ntmps5
 go_upto_region 3 with (first | ((with_reducible refine gate_dst (N := 4) rfl ?_); refine box_event ?hg (N := 4) ?hd (cs := #[.string a0_0, .slice A0_1 l0_1.length c0_1]) (t := 24) ?hr ?_; (case hd => rfl); (case hg => rfl); (case hr => first | (go_simp; done) | (go_simp; rfl)); intro gb302 hg w8 hbox hb; have n0_ := Aside0.mk (Yv HB hb); have n1_ := Aside0.mk (hbox); have n2_ := Aside0.mk (Yg HB hg); have n3_ := Aside0.mk (Yg HB hg); clear HB; have HB := n0_; have BK302 := n1_; have GW302 := n2_; have GE302 := n3_; clear n0_ n1_ n2_ n3_; clear hb hbox hg) | ((with_reducible refine gate_callee (f := 8) rfl ?_); refine goesL_ (some 23) rfl rfl Try.func8 (by kernel_rfl) rfl #[] rfl (by (try simp only [List.map_toArray, List.map_cons, List.map_nil]); first | done | rfl | (simp only [List.length_drop, List.length_take]; rfl)) ?_; (with_reducible refine (palinodelaw18_examples.calls k  t303 _ A5.out).mono ?_); rintro e w9 ⟨rfl, hb⟩; refine ⟨_, rfl, ?_⟩; have n0_ := Aside0.mk (Zv BK302 hb); have n1_ := Aside0.mk (Yv HB hb); clear BK302; clear HB; have BK302 := n0_; have HB := n1_; clear n0_ n1_; (try clear hb); (try clear hb2); (try clear hk); (try clear hi); obtain ⟨⟨hcz10_0, hcz10_1⟩, hfz10_0, hfz10_1⟩ := Zk2 BK302) | ((with_reducible refine gate_callee (f := 15) rfl ?_); refine goesL_ (some 26) rfl rfl Try.func15 (by kernel_rfl) rfl #[.agg #[.string a0_0, .slice A0_1 l0_1.length c0_1]] rfl (by (try simp only [List.map_toArray, List.map_cons, List.map_nil]); first | done | rfl | (simp only [List.length_drop, List.length_take]; rfl)) ?_; (with_reducible refine (define_Encode.calls k a0_0 _ _ l0_1 t304 t305 _ ?side1 ?side2 A6.out).mono ?_); (case side1 => repeat (first | exact (Kd.C_below HR0_1.out HB.out) | (with_reducible refine Kd.C_alloc ?_ _) | (with_reducible refine Kd.C_drewN ?_ _) | (with_reducible refine Kd.C_drew ?_))); (case side2 => exact HC0_1.out); rintro e w11 ⟨rfl, hb⟩; refine ⟨_, rfl, ?_⟩; have n0_ := Aside0.mk (Zv BK302 hb); have n1_ := Aside0.mk (Yv HB hb); clear BK302; clear HB; have BK302 := n0_; have HB := n1_; clear n0_ n1_; (try clear hb); (try clear hb2); (try clear hk); (try clear hi); (try simp only [errW_none, errW_some])))
 (try simp only [Act.put, List.setIfInBounds_toArray, List.set_cons_zero, List.set_cons_succ])
 go_cut [34] (fun v34 wc => ∃ (kq : Nat) (x34_6 : Bool), v34 = .bool x34_6 ∧ Aside0 (palinodelaw18_DefineBack.j0 kq a1 a2 a3 t303 t304 x34_6 a0_0 l0_1 = some r) ∧ Aside0 (kq ≤ k) ∧ Aside0 (wc.heap[gb302]? = some (.cells #[.string a0_0, (.slice A0_1 l0_1.length c0_1)] 24 (0, 0))) ∧ Aside0 (Below w.heap.size w wc))
 case first =>
  have H := HC7.out
  clear HC7
  rcases t305 with _ | q306
  ·
   have H1 : (palinodelaw18_DefineBack.j0 k a1 a2 a3 t303 t304 (t304.toList != ([] : List UInt8)) a0_0 l0_1) = some r := by rw [if_pos (show (none : Option Int).isNone = true by rfl)] at H; exact H
   clear H
   have H := H1
   clear H1
   try simp only [errW_none, errW_some]
   have H' := Aside0.mk H
   clear H
   go_wp2
   go_meet
   case rel => exact ⟨_, ((t304.toList != ([] : List UInt8))), (by first | rfl | (simp; done) | (simp [*]; done) | (generalize t304.toList = L_; cases L_ <;> simp)), H', ⟨by first | omega | exact Nat.le_refl _⟩, ⟨by (with_reducible repeat first | apply Zn | apply Zd | apply Za); exact BK302.out⟩, ⟨Yr HB⟩⟩
  ·
   have H1 : (palinodelaw18_DefineBack.j0 k a1 a2 a3 t303 t304 false a0_0 l0_1) = some r := by rw [if_neg (show ¬ (some q306).isNone = true by simp)] at H; exact H
   clear H
   have H := H1
   clear H1
   try simp only [errW_none, errW_some]
   have H' := Aside0.mk H
   clear H
   go_wp2
   go_meet
   case rel => exact ⟨_, (false), (by first | rfl | (simp; done) | (simp [*]; done)), H', ⟨by first | omega | exact Nat.le_refl _⟩, ⟨by (with_reducible repeat first | apply Zn | apply Zd | apply Za); exact BK302.out⟩, ⟨Yr HB⟩⟩
 case rest =>
  clear HC7
  try clear c1
  try clear p2
  try clear q3
  try clear c5
  try clear c8
  try clear hcz10_0
  try clear hcz10_1
  try clear hfz10_0
  try clear hfz10_1
  try clear q306
  obtain ⟨kq, x34_6, rfl, HA, HJ6, BK302, HB⟩ := hcut
  cases kq with
  | zero => exact absurd HA.out (by simp [palinodelaw18_DefineBack.j0])
  | succ kj6 =>
   have H := HA.out
   clear HA
   simp only [palinodelaw18_DefineBack.j0] at H
   have HC12 := Aside0.mk H
   clear H
   go_upto_if 34 with (fail)
   go_cut [] (fun wc => ∃ (kq : Nat), Aside0 (palinodelaw18_DefineBack.j2 kq a1 t303 = some r) ∧ Aside0 (kq ≤ kj6) ∧ Aside0 (wc.heap[gb302]? = some (.cells #[.string a0_0, (.slice A0_1 l0_1.length c0_1)] 24 (0, 0))) ∧ Aside0 (Below w.heap.size w wc))
   case first =>
    have H := HC12.out
    clear HC12
    by_cases c13 : x34_6 = true
    ·
     subst c13
     have H1 : ((define_Decode.f t304).bind fun bt307 => ((palinodelaw18_defs.f kj6 bt307.1 bt307.2.1 a0_0 l0_1).bind fun t313 => (if a2 < 0 then (palinodelaw18_DefineBack.j1 kj6 a1 (wrap64 (-(wrap64 (a2 + 1)))) a3 t303 t304 bt307.2.2 t313) else (palinodelaw18_DefineBack.j1 kj6 a1 a2 a3 t303 t304 bt307.2.2 t313)))) = some r := by rw [if_pos rfl] at H; exact H
     clear H
     have H := H1
     clear H1
     replace H := Option.bind_eq_some_iff.mp H
     obtain ⟨⟨t307, t308, t311⟩, A140, H⟩ := H
     replace H : ((palinodelaw18_defs.f kj6 t307 t308 a0_0 l0_1).bind fun t313 => (if a2 < 0 then (palinodelaw18_DefineBack.j1 kj6 a1 (wrap64 (-(wrap64 (a2 + 1)))) a3 t303 t304 t311 t313) else (palinodelaw18_DefineBack.j1 kj6 a1 a2 a3 t303 t304 t311 t313))) = some r := H
     have A14 := Aside0.mk A140
     clear A140
     replace H := Option.bind_eq_some_iff.mp H
     obtain ⟨t313, A150, H⟩ := H
     replace H : (if a2 < 0 then (palinodelaw18_DefineBack.j1 kj6 a1 (wrap64 (-(wrap64 (a2 + 1)))) a3 t303 t304 t311 t313) else (palinodelaw18_DefineBack.j1 kj6 a1 a2 a3 t303 t304 t311 t313)) = some r := H
     have A15 := Aside0.mk A150
     clear A150
     have HC16 := Aside0.mk H
     clear H
     go_upto_if 44 with (first | ((with_reducible refine gate_callee (f := 18) rfl ?_); refine goesL_ (some 37) rfl rfl Try.func18 (by kernel_rfl) rfl #[.string t304] rfl (by (try simp only [List.map_toArray, List.map_cons, List.map_nil]); first | done | rfl | (simp only [List.length_drop, List.length_take]; rfl)) ?_; (with_reducible refine (define_Decode.calls t304 t307 t308 t311 _ A14.out).mono ?_); rintro e w17 ⟨v309, rfl, ho0, hb⟩; refine ⟨_, rfl, ?_⟩; have n0_ := Aside0.mk (Kd.R_lower ho0 (below_size (Yr HB))); have n1_ := Aside0.mk (Zv BK302 hb); have n2_ := Aside0.mk (Yv HB hb); clear BK302; clear HB; have HO310 := n0_; have BK302 := n1_; have HB := n2_; clear n0_ n1_ n2_; (try clear hb); (try clear hb2); (try clear hk); (try clear hi); (try clear ho0); (try simp only [errW_none, errW_some])) | ((with_reducible refine gate_dst (N := 12) rfl ?_); refine box_event ?hg (N := 12) ?hd (cs := #[.string (⟨#[]⟩ : ByteArray), .slice none 0 0]) (t := 24) ?hr ?_; (case hd => rfl); (case hg => rfl); (case hr => first | (go_simp; done) | (go_simp; rfl)); intro gb312 hg w18 hbox hb; have n0_ := Aside0.mk (Kd.R_below (by (with_reducible repeat (first | apply Kd.R_alloc | apply Kd.R_drewN | apply Kd.R_drew)); exact HO310.out) hb); have n1_ := Aside0.mk (Zv BK302 hb); have n2_ := Aside0.mk (Yv HB hb); have n3_ := Aside0.mk (hbox); have n4_ := Aside0.mk (Yg HB hg); have n5_ := Aside0.mk (Yg HB hg); have n6_ := Aside0.mk (Zl BK302 hg); have n7_ := Aside0.mk (Zg BK302 hg); clear HO310; clear BK302; clear HB; have HO310 := n0_; have BK302 := n1_; have HB := n2_; have BK312 := n3_; have GW312 := n4_; have GE312 := n5_; have NB302_312 := n6_; have NB312_302 := n7_; clear n0_ n1_ n2_ n3_ n4_ n5_ n6_ n7_; clear hb hbox hg; obtain ⟨hnb19, hnc19⟩ := Zo NB312_302; obtain ⟨⟨hcz20_0, hcz20_1⟩, hfz20_0, hfz20_1⟩ := Zk2 BK312; obtain ⟨Ao21, co21, eo21⟩ := Kd.R_slice HO310.out; subst eo21; obtain ⟨⟨hcz22_0, hcz22_1⟩, hfz22_0, hfz22_1⟩ := Zk2 BK302) | ((with_reducible refine gate_callee (f := 19) rfl ?_); refine goesL_ (some 42) rfl rfl Try.func19 (by kernel_rfl) rfl #[.agg #[.string t307, .slice Ao21 t308.length co21], .agg #[.string a0_0, .slice A0_1 l0_1.length c0_1]] rfl (by (try simp only [List.map_toArray, List.map_cons, List.map_nil]); first | done | rfl | (simp only [List.length_drop, List.length_take]; rfl)) ?_; (with_reducible refine (palinodelaw18_defs.calls kj6 t307 _ _ t308 a0_0 _ _ l0_1 t313 _ ?side1 ?side2 ?side3 ?side4 A15.out).mono ?_); (case side1 => refine (Kd.R_reads' (e := 43) (base := w.heap.size) (ok := fun k_ => True) (n := t308.length) (c := co21) ?_).2.2; exact (by (with_reducible repeat (first | apply Kd.R_alloc | apply Kd.R_drewN | apply Kd.R_drew)); exact (Kd.R_mono (Kd.R_far (p := ⟨gb312, 1, none⟩) (Kd.R_far (p := ⟨gb312, 0, none⟩) (Kd.R_types HO310.out BK312.out (by decide)) (fun _ hk => hk.2) (.string t307)) (fun _ hk => hk.2) (.slice Ao21 t308.length co21)) (fun _ h_ => h_.1)))); (case side2 => exact (Kd.R_reads' HO310.out).2.1); (case side3 => exact Kd.C_below HR0_1.out (Yr HB)); (case side4 => exact HC0_1.out); rintro e w23 ⟨rfl, hb⟩; refine ⟨_, rfl, ?_⟩; have n0_ := Aside0.mk (Kd.R_below (by (with_reducible repeat (first | apply Kd.R_alloc | apply Kd.R_drewN | apply Kd.R_drew)); exact (Kd.R_mono (Kd.R_far (p := ⟨gb312, 1, none⟩) (Kd.R_far (p := ⟨gb312, 0, none⟩) (Kd.R_types HO310.out BK312.out (by decide)) (fun _ hk => hk.2) (.string t307)) (fun _ hk => hk.2) (.slice Ao21 t308.length co21)) (fun _ h_ => h_.1))) hb); have n1_ := Aside0.mk (Zv BK302 hb); have n2_ := Aside0.mk (Zb (g := gb312) (o := .cells #[.string t307, .slice Ao21 t308.length co21] 24 (0, 0)) (by (with_reducible repeat first | apply Zn | apply Zd | apply Za); refine Zp (cs := #[.string t307, .slice none 0 0]) ?_ 1 _ rfl; (with_reducible repeat first | apply Zn | apply Zd | apply Za); refine Zp (cs := #[.string (⟨#[]⟩ : ByteArray), .slice none 0 0]) ?_ 0 _ rfl; (with_reducible repeat first | apply Zn | apply Zd | apply Za); exact BK312.out) hb); have n3_ := Aside0.mk (Yv HB hb); clear HO310; clear BK302; clear BK312; clear HB; have HO310 := n0_; have BK302 := n1_; have BK312 := n2_; have HB := n3_; clear n0_ n1_ n2_ n3_; (try clear hb); (try clear hb2); (try clear hk); (try clear hi)))
     (try simp only [Act.put, List.setIfInBounds_toArray, List.set_cons_zero, List.set_cons_succ])
     go_cut [2] (fun v2 wc => ∃ (kq : Nat) (x2_15 : Int), v2 = .int .i64 x2_15 ∧ Aside0 (palinodelaw18_DefineBack.j1 kq a1 x2_15 a3 t303 t304 t311 t313 = some r) ∧ Aside0 (kq ≤ kj6) ∧ Aside0 (Kd.R k43 43 wc w.heap.size (fun _ => True) (.slice Ao21 t308.length co21) t308) ∧ Aside0 (wc.heap[gb302]? = some (.cells #[.string a0_0, (.slice A0_1 l0_1.length c0_1)] 24 (0, 0))) ∧ Aside0 (wc.heap[gb312]? = some (.cells #[.string t307, (.slice Ao21 t308.length co21)] 24 (0, 0))) ∧ Aside0 (Below w.heap.size w wc))
     case first =>
      have H := HC16.out
      clear HC16
      by_cases c24 : a2 < 0
      ·
       rw [if_pos c24] at H
       have c24b0 : decide (a2 < 0) = true := decide_eq_true c24
       clear c24
       (first | rw [c24b0] | (simp only [i64_w, i32_w]; rw [c24b0]) | skip)
       have H' := Aside0.mk H
       clear H
       go_wp2
       go_meet
       case rel => exact ⟨_, (wrap64 (-(wrap64 (a2 + 1)))), (by first | rfl | (simp; done) | (simp [*]; done)), H', ⟨by have := HJ6.out; first | omega | exact Nat.le_refl _⟩, ⟨by (with_reducible repeat (first | apply Kd.R_alloc | apply Kd.R_drewN | apply Kd.R_drew)); exact HO310.out⟩, ⟨by (with_reducible repeat first | apply Zn | apply Zd | apply Za); exact BK302.out⟩, ⟨by (with_reducible repeat first | apply Zn | apply Zd | apply Za); exact BK312.out⟩, ⟨Yr HB⟩⟩
      ·
       rw [if_neg c24] at H
       have c24b0 : decide (a2 < 0) = false := decide_eq_false c24
       clear c24
       (first | rw [c24b0] | (simp only [i64_w, i32_w]; rw [c24b0]) | skip)
       have H' := Aside0.mk H
       clear H
       go_wp2
       go_meet
       case rel => exact ⟨_, (a2), (by first | rfl | (simp; done) | (simp [*]; done)), H', ⟨by have := HJ6.out; first | omega | exact Nat.le_refl _⟩, ⟨by (with_reducible repeat (first | apply Kd.R_alloc | apply Kd.R_drewN | apply Kd.R_drew)); exact HO310.out⟩, ⟨by (with_reducible repeat first | apply Zn | apply Zd | apply Za); exact BK302.out⟩, ⟨by (with_reducible repeat first | apply Zn | apply Zd | apply Za); exact BK312.out⟩, ⟨Yr HB⟩⟩
     case rest =>
      clear HC16
      try clear c1
      try clear c2
      try clear p2
      try clear q3
      try clear c5
      try clear p6
      try clear c8
      try clear c13
      try clear c15
      try clear c18
      try clear c19
      try clear c24
      try clear c24b0
      try clear hcz10_0
      try clear hcz10_1
      try clear hcz20_0
      try clear hcz20_1
      try clear hcz22_0
      try clear hcz22_1
      try clear hfz10_0
      try clear hfz10_1
      try clear hfz20_0
      try clear hfz20_1
      try clear hfz22_0
      try clear hfz22_1
      try clear p2
      try clear q3
      try clear q306
      obtain ⟨kq, x2_15, rfl, HA, HJ15, HO_313001, BK302, BK312, HB⟩ := hcut
      cases kq with
      | zero => exact absurd HA.out (by simp [palinodelaw18_DefineBack.j1])
      | succ kj15 =>
       have H := HA.out
       clear HA
       simp only [palinodelaw18_DefineBack.j1] at H
       by_cases c25 : (t304.size : Int) = 0
       ·
        rw [if_pos c25] at H
        exact absurd H (by simp)
       ·
        rw [if_neg c25] at H
        have c25b0 : ((t304.size : Int) == 0) = false := beq_eq_false_iff_ne.mpr c25
        have c25b1 : ((t304.size : Int) != 0) = true := bne_iff_ne.mpr c25
        obtain ⟨ji26, hji26⟩ : ∃ j_ : Int, (Int.tmod x2_15 (t304.size : Int)) = j_ := ⟨_, rfl⟩
        replace H : (if 0 ≤ (ji26) then (if (ji26) ≤ (t304.size : Int) then ((define_Decode.f (t304.extract 0 ((ji26) : Int).toNat)).bind fun bt314 => (if t304.size + a3.size ≤ 9223372036854775807 then ((define_Decode.f (t304 ++ a3)).bind fun bt320 => (if t313 = true then (if t311.isNone = true then ((palinodelaw18_is.f bt314.2.2 3).bind fun t327 => (if t327 = true then (if a3.toList = ([] : List UInt8) then (palinodelaw18_DefineBack.j2 kj15 a1 t303) else ((palinodelaw18_is.f bt320.2.2 3).bind fun t328 => (if t328 = true then (palinodelaw18_DefineBack.j2 kj15 a1 t303) else (some false)))) else (some false))) else (some false)) else (some false))) else (none))) else (none)) else (none)) = some r := by first | (rw [hji26] at H; exact H) | (simp only [hji26] at H ⊢; exact H)
        by_cases c27 : 0 ≤ (ji26)
        ·
         rw [if_pos c27] at H
         have c27b0 := eq_true c27
         have c27b1 : decide (0 ≤ (ji26)) = true := decide_eq_true c27
         clear c27
         by_cases c28 : (ji26) ≤ (t304.size : Int)
         ·
          rw [if_pos c28] at H
          have c28b0 := eq_true c28
          have c28b1 : decide ((ji26) ≤ (t304.size : Int)) = true := decide_eq_true c28
          clear c28
          replace H := Option.bind_eq_some_iff.mp H
          obtain ⟨⟨t314, t315, t318⟩, A290, H⟩ := H
          replace H : (if t304.size + a3.size ≤ 9223372036854775807 then ((define_Decode.f (t304 ++ a3)).bind fun bt320 => (if t313 = true then (if t311.isNone = true then ((palinodelaw18_is.f t318 3).bind fun t327 => (if t327 = true then (if a3.toList = ([] : List UInt8) then (palinodelaw18_DefineBack.j2 kj15 a1 t303) else ((palinodelaw18_is.f bt320.2.2 3).bind fun t328 => (if t328 = true then (palinodelaw18_DefineBack.j2 kj15 a1 t303) else (some false)))) else (some false))) else (some false)) else (some false))) else (none)) = some r := H
          have A29 := Aside0.mk A290
          clear A290
          by_cases c30 : t304.size + a3.size ≤ 9223372036854775807
          ·
           rw [if_pos c30] at H
           have c30b0 := eq_true c30
           have c30b1 : decide (t304.size + a3.size ≤ 9223372036854775807) = true := decide_eq_true c30
           try have c30b2 : (9223372036854775807 < t304.size + a3.size) = False := eq_false (Nat.not_lt.2 c30)
           replace H := Option.bind_eq_some_iff.mp H
           obtain ⟨⟨t320, t321, t324⟩, A310, H⟩ := H
           replace H : (if t313 = true then (if t311.isNone = true then ((palinodelaw18_is.f t318 3).bind fun t327 => (if t327 = true then (if a3.toList = ([] : List UInt8) then (palinodelaw18_DefineBack.j2 kj15 a1 t303) else ((palinodelaw18_is.f t324 3).bind fun t328 => (if t328 = true then (palinodelaw18_DefineBack.j2 kj15 a1 t303) else (some false)))) else (some false))) else (some false)) else (some false)) = some r := H
           have A31 := Aside0.mk A310
           clear A310
           by_cases c32 : t313 = true
           ·
            subst c32
            have H1 : (if t311.isNone = true then ((palinodelaw18_is.f t318 3).bind fun t327 => (if t327 = true then (if a3.toList = ([] : List UInt8) then (palinodelaw18_DefineBack.j2 kj15 a1 t303) else ((palinodelaw18_is.f t324 3).bind fun t328 => (if t328 = true then (palinodelaw18_DefineBack.j2 kj15 a1 t303) else (some false)))) else (some false))) else (some false)) = some r := by rw [if_pos rfl] at H; exact H
            clear H
            have H := H1
            clear H1
            rcases t311 with _ | q326
            ·
             have H1 : ((palinodelaw18_is.f t318 3).bind fun t327 => (if t327 = true then (if a3.toList = ([] : List UInt8) then (palinodelaw18_DefineBack.j2 kj15 a1 t303) else ((palinodelaw18_is.f t324 3).bind fun t328 => (if t328 = true then (palinodelaw18_DefineBack.j2 kj15 a1 t303) else (some false)))) else (some false))) = some r := by rw [if_pos (show (none : Option Int).isNone = true by rfl)] at H; exact H
             clear H
             have H := H1
             clear H1
             try simp only [errW_none, errW_some]
             replace H := Option.bind_eq_some_iff.mp H
             obtain ⟨t327, A330, H⟩ := H
             replace H : (if t327 = true then (if a3.toList = ([] : List UInt8) then (palinodelaw18_DefineBack.j2 kj15 a1 t303) else ((palinodelaw18_is.f t324 3).bind fun t328 => (if t328 = true then (palinodelaw18_DefineBack.j2 kj15 a1 t303) else (some false)))) else (some false)) = some r := H
             have A33 := Aside0.mk A330
             clear A330
             by_cases c34 : t327 = true
             ·
              subst c34
              have H1 : (if a3.toList = ([] : List UInt8) then (palinodelaw18_DefineBack.j2 kj15 a1 t303) else ((palinodelaw18_is.f t324 3).bind fun t328 => (if t328 = true then (palinodelaw18_DefineBack.j2 kj15 a1 t303) else (some false)))) = some r := by rw [if_pos rfl] at H; exact H
              clear H
              have H := H1
              clear H1
              by_cases c35 : a3.toList = ([] : List UInt8)
              ·
               rw [if_pos c35] at H
               have c35b0 : (a3.toList == ([] : List UInt8)) = true := beq_iff_eq.mpr c35
               have c35b1 : (a3.toList != ([] : List UInt8)) = false := bne_eq_false_iff_eq.mpr c35
               clear c35
               have H' := Aside0.mk H
               clear H
               go_wp2_with (first | ((with_reducible refine gate_callee (f := 18) rfl ?_); refine goesL_ (some 55) rfl rfl Try.func18 (by kernel_rfl) rfl #[.string (t304.extract 0 ((ji26) : Int).toNat)] rfl (by (try simp only [List.map_toArray, List.map_cons, List.map_nil]); first | done | (simp only [hji26]; rfl) | rfl | (simp only [List.length_drop, List.length_take]; rfl)) ?_; (with_reducible refine (define_Decode.calls (t304.extract 0 ((ji26) : Int).toNat) t314 t315 t318 _ A29.out).mono ?_); rintro e w36 ⟨v316, rfl, ho0, hb⟩; refine ⟨_, rfl, ?_⟩; have n0_ := Aside0.mk (Kd.R_elder' (by (with_reducible repeat (first | apply Kd.R_alloc | apply Kd.R_drewN | apply Kd.R_drew)); exact HO_313001.out) (Kd.R_base ho0) hb); have n1_ := Aside0.mk (Kd.R_lower (Kd.R_new' ho0 (Kd.R_lt (by (with_reducible repeat (first | apply Kd.R_alloc | apply Kd.R_drewN | apply Kd.R_drew)); exact HO_313001.out))) (below_size (Yr HB))); have n2_ := Aside0.mk (Zv BK302 hb); have n3_ := Aside0.mk (Zv BK312 hb); have n4_ := Aside0.mk (Yv HB hb); clear HO_313001; clear BK302; clear BK312; clear HB; have HO_313001 := n0_; have HO317 := n1_; have BK302 := n2_; have BK312 := n3_; have HB := n4_; clear n0_ n1_ n2_ n3_ n4_; (try clear hb); (try clear hb2); (try clear hk); (try clear hi); (try clear ho0); (try simp only [errW_none, errW_some])) | ((with_reducible refine gate_dst (N := 15) rfl ?_); refine box_event ?hg (N := 15) ?hd (cs := #[.string (⟨#[]⟩ : ByteArray), .slice none 0 0]) (t := 24) ?hr ?_; (case hd => rfl); (case hg => rfl); (case hr => first | (go_simp; done) | (go_simp; rfl)); intro gb319 hg w37 hbox hb; have n0_ := Aside0.mk (Kd.R_below (by (with_reducible repeat (first | apply Kd.R_alloc | apply Kd.R_drewN | apply Kd.R_drew)); exact HO_313001.out) hb); have n1_ := Aside0.mk (Kd.R_below (by (with_reducible repeat (first | apply Kd.R_alloc | apply Kd.R_drewN | apply Kd.R_drew)); exact HO317.out) hb); have n2_ := Aside0.mk (Zv BK302 hb); have n3_ := Aside0.mk (Zv BK312 hb); have n4_ := Aside0.mk (Yv HB hb); have n5_ := Aside0.mk (hbox); have n6_ := Aside0.mk (Yg HB hg); have n7_ := Aside0.mk (Yg HB hg); have n8_ := Aside0.mk (Zl BK302 hg); have n9_ := Aside0.mk (Zg BK302 hg); have n10_ := Aside0.mk (Zl BK312 hg); have n11_ := Aside0.mk (Zg BK312 hg); clear HO_313001; clear HO317; clear BK302; clear BK312; clear HB; have HO_313001 := n0_; have HO317 := n1_; have BK302 := n2_; have BK312 := n3_; have HB := n4_; have BK319 := n5_; have GW319 := n6_; have GE319 := n7_; have NB302_319 := n8_; have NB319_302 := n9_; have NB312_319 := n10_; have NB319_312 := n11_; clear n0_ n1_ n2_ n3_ n4_ n5_ n6_ n7_ n8_ n9_ n10_ n11_; clear hb hbox hg; obtain ⟨hnb38, hnc38⟩ := Zo NB319_302; obtain ⟨hnb39, hnc39⟩ := Zo NB319_312; obtain ⟨⟨hcz40_0, hcz40_1⟩, hfz40_0, hfz40_1⟩ := Zk2 BK319; obtain ⟨Ao41, co41, eo41⟩ := Kd.R_slice HO317.out; subst eo41) | ((with_reducible refine gate_callee (f := 18) rfl ?_); refine goesL_ (some 62) rfl rfl Try.func18 (by kernel_rfl) rfl #[.string (t304 ++ a3)] rfl (by (try simp only [List.map_toArray, List.map_cons, List.map_nil]); first | done | rfl | (simp only [List.length_drop, List.length_take]; rfl)) ?_; (with_reducible refine (define_Decode.calls (t304 ++ a3) t320 t321 t324 _ A31.out).mono ?_); rintro e w42 ⟨v322, rfl, ho0, hb⟩; refine ⟨_, rfl, ?_⟩; have n0_ := Aside0.mk (Kd.R_elder' (by (with_reducible repeat (first | apply Kd.R_alloc | apply Kd.R_drewN | apply Kd.R_drew)); exact (Kd.R_mono (Kd.R_far (p := ⟨gb319, 1, none⟩) (Kd.R_far (p := ⟨gb319, 0, none⟩) (Kd.R_types HO_313001.out BK319.out (by decide)) (fun _ hk => hk.2) (.string t314)) (fun _ hk => hk.2) (.slice Ao41 t315.length co41)) (fun _ h_ => h_.1))) (Kd.R_base ho0) hb); have n1_ := Aside0.mk (Kd.R_elder' (by (with_reducible repeat (first | apply Kd.R_alloc | apply Kd.R_drewN | apply Kd.R_drew)); exact (Kd.R_mono (Kd.R_far (p := ⟨gb319, 1, none⟩) (Kd.R_far (p := ⟨gb319, 0, none⟩) (Kd.R_types HO317.out BK319.out (by decide)) (fun _ hk => hk.2) (.string t314)) (fun _ hk => hk.2) (.slice Ao41 t315.length co41)) (fun _ h_ => h_.1))) (Kd.R_base ho0) hb); have n2_ := Aside0.mk (Kd.R_lower (Kd.R_new' (Kd.R_new' ho0 (Kd.R_lt (by (with_reducible repeat (first | apply Kd.R_alloc | apply Kd.R_drewN | apply Kd.R_drew)); exact (Kd.R_mono (Kd.R_far (p := ⟨gb319, 1, none⟩) (Kd.R_far (p := ⟨gb319, 0, none⟩) (Kd.R_types HO_313001.out BK319.out (by decide)) (fun _ hk => hk.2) (.string t314)) (fun _ hk => hk.2) (.slice Ao41 t315.length co41)) (fun _ h_ => h_.1))))) (Kd.R_lt (by (with_reducible repeat (first | apply Kd.R_alloc | apply Kd.R_drewN | apply Kd.R_drew)); exact (Kd.R_mono (Kd.R_far (p := ⟨gb319, 1, none⟩) (Kd.R_far (p := ⟨gb319, 0, none⟩) (Kd.R_types HO317.out BK319.out (by decide)) (fun _ hk => hk.2) (.string t314)) (fun _ hk => hk.2) (.slice Ao41 t315.length co41)) (fun _ h_ => h_.1))))) (below_size (Yr HB))); have n3_ := Aside0.mk (Zv BK302 hb); have n4_ := Aside0.mk (Zv BK312 hb); have n5_ := Aside0.mk (Zb (g := gb319) (o := .cells #[.string t314, .slice Ao41 t315.length co41] 24 (0, 0)) (by (with_reducible repeat first | apply Zn | apply Zd | apply Za); refine Zp (cs := #[.string t314, .slice none 0 0]) ?_ 1 _ rfl; (with_reducible repeat first | apply Zn | apply Zd | apply Za); refine Zp (cs := #[.string (⟨#[]⟩ : ByteArray), .slice none 0 0]) ?_ 0 _ rfl; (with_reducible repeat first | apply Zn | apply Zd | apply Za); exact BK319.out) hb); have n6_ := Aside0.mk (Yv HB hb); clear HO_313001; clear HO317; clear BK302; clear BK312; clear BK319; clear HB; have HO_313001 := n0_; have HO317 := n1_; have HO323 := n2_; have BK302 := n3_; have BK312 := n4_; have BK319 := n5_; have HB := n6_; clear n0_ n1_ n2_ n3_ n4_ n5_ n6_; (try clear hb); (try clear hb2); (try clear hk); (try clear hi); (try clear ho0); (try simp only [errW_none, errW_some])) | ((with_reducible refine gate_dst (N := 17) rfl ?_); refine box_event ?hg (N := 17) ?hd (cs := #[.string (⟨#[]⟩ : ByteArray), .slice none 0 0]) (t := 24) ?hr ?_; (case hd => rfl); (case hg => rfl); (case hr => first | (go_simp; done) | (go_simp; rfl)); intro gb325 hg w43 hbox hb; have n0_ := Aside0.mk (Kd.R_below (by (with_reducible repeat (first | apply Kd.R_alloc | apply Kd.R_drewN | apply Kd.R_drew)); exact HO_313001.out) hb); have n1_ := Aside0.mk (Kd.R_below (by (with_reducible repeat (first | apply Kd.R_alloc | apply Kd.R_drewN | apply Kd.R_drew)); exact HO317.out) hb); have n2_ := Aside0.mk (Kd.R_below (by (with_reducible repeat (first | apply Kd.R_alloc | apply Kd.R_drewN | apply Kd.R_drew)); exact HO323.out) hb); have n3_ := Aside0.mk (Zv BK302 hb); have n4_ := Aside0.mk (Zv BK312 hb); have n5_ := Aside0.mk (Zv BK319 hb); have n6_ := Aside0.mk (Yv HB hb); have n7_ := Aside0.mk (hbox); have n8_ := Aside0.mk (Yg HB hg); have n9_ := Aside0.mk (Yg HB hg); have n10_ := Aside0.mk (Zl BK302 hg); have n11_ := Aside0.mk (Zg BK302 hg); have n12_ := Aside0.mk (Zl BK312 hg); have n13_ := Aside0.mk (Zg BK312 hg); have n14_ := Aside0.mk (Zl BK319 hg); have n15_ := Aside0.mk (Zg BK319 hg); clear HO_313001; clear HO317; clear HO323; clear BK302; clear BK312; clear BK319; clear HB; have HO_313001 := n0_; have HO317 := n1_; have HO323 := n2_; have BK302 := n3_; have BK312 := n4_; have BK319 := n5_; have HB := n6_; have BK325 := n7_; have GW325 := n8_; have GE325 := n9_; have NB302_325 := n10_; have NB325_302 := n11_; have NB312_325 := n12_; have NB325_312 := n13_; have NB319_325 := n14_; have NB325_319 := n15_; clear n0_ n1_ n2_ n3_ n4_ n5_ n6_ n7_ n8_ n9_ n10_ n11_ n12_ n13_ n14_ n15_; clear hb hbox hg; obtain ⟨hnb44, hnc44⟩ := Zo NB325_302; obtain ⟨hnb45, hnc45⟩ := Zo NB325_312; obtain ⟨hnb46, hnc46⟩ := Zo NB325_319; obtain ⟨⟨hcz47_0, hcz47_1⟩, hfz47_0, hfz47_1⟩ := Zk2 BK325; obtain ⟨Ao48, co48, eo48⟩ := Kd.R_slice HO323.out; subst eo48; have CA33 := fun W => palinodelaw18_is.calls t318 3 true W A33.out; try simp only [errW_none, errW_some] at CA33) | (go_at_call 20; (with_reducible refine (CA33 _).mono ?_); rintro e w' ⟨rfl, ⟨nd, rfl⟩⟩))
               go_meet
               case rel => exact ⟨_, H', ⟨by have := HJ6.out; have := HJ15.out; first | omega | exact Nat.le_refl _⟩, ⟨by (with_reducible repeat first | apply Zn | apply Zd | apply Za); refine Zq ?_ NB302_325.out _; (with_reducible repeat first | apply Zn | apply Zd | apply Za); refine Zq ?_ NB302_325.out _; (with_reducible repeat first | apply Zn | apply Zd | apply Za); exact BK302.out⟩, ⟨Yr HB⟩⟩
              ·
               rw [if_neg c35] at H
               have c35b0 : (a3.toList == ([] : List UInt8)) = false := beq_eq_false_iff_ne.mpr c35
               have c35b1 : (a3.toList != ([] : List UInt8)) = true := bne_iff_ne.mpr c35
               replace H := Option.bind_eq_some_iff.mp H
               obtain ⟨t328, A490, H⟩ := H
               replace H : (if t328 = true then (palinodelaw18_DefineBack.j2 kj15 a1 t303) else (some false)) = some r := H
               have A49 := Aside0.mk A490
               clear A490
               by_cases c50 : t328 = true
               ·
                subst c50
                have H1 : (palinodelaw18_DefineBack.j2 kj15 a1 t303) = some r := by rw [if_pos rfl] at H; exact H
                clear H
                have H := H1
                clear H1
                have H' := Aside0.mk H
                clear H
                go_wp2_with (first | ((with_reducible refine gate_callee (f := 18) rfl ?_); refine goesL_ (some 55) rfl rfl Try.func18 (by kernel_rfl) rfl #[.string (t304.extract 0 ((ji26) : Int).toNat)] rfl (by (try simp only [List.map_toArray, List.map_cons, List.map_nil]); first | done | (simp only [hji26]; rfl) | rfl | (simp only [List.length_drop, List.length_take]; rfl)) ?_; (with_reducible refine (define_Decode.calls (t304.extract 0 ((ji26) : Int).toNat) t314 t315 t318 _ A29.out).mono ?_); rintro e w51 ⟨v316, rfl, ho0, hb⟩; refine ⟨_, rfl, ?_⟩; have n0_ := Aside0.mk (Kd.R_elder' (by (with_reducible repeat (first | apply Kd.R_alloc | apply Kd.R_drewN | apply Kd.R_drew)); exact HO_313001.out) (Kd.R_base ho0) hb); have n1_ := Aside0.mk (Kd.R_lower (Kd.R_new' ho0 (Kd.R_lt (by (with_reducible repeat (first | apply Kd.R_alloc | apply Kd.R_drewN | apply Kd.R_drew)); exact HO_313001.out))) (below_size (Yr HB))); have n2_ := Aside0.mk (Zv BK302 hb); have n3_ := Aside0.mk (Zv BK312 hb); have n4_ := Aside0.mk (Yv HB hb); clear HO_313001; clear BK302; clear BK312; clear HB; have HO_313001 := n0_; have HO317 := n1_; have BK302 := n2_; have BK312 := n3_; have HB := n4_; clear n0_ n1_ n2_ n3_ n4_; (try clear hb); (try clear hb2); (try clear hk); (try clear hi); (try clear ho0); (try simp only [errW_none, errW_some])) | ((with_reducible refine gate_dst (N := 15) rfl ?_); refine box_event ?hg (N := 15) ?hd (cs := #[.string (⟨#[]⟩ : ByteArray), .slice none 0 0]) (t := 24) ?hr ?_; (case hd => rfl); (case hg => rfl); (case hr => first | (go_simp; done) | (go_simp; rfl)); intro gb319 hg w52 hbox hb; have n0_ := Aside0.mk (Kd.R_below (by (with_reducible repeat (first | apply Kd.R_alloc | apply Kd.R_drewN | apply Kd.R_drew)); exact HO_313001.out) hb); have n1_ := Aside0.mk (Kd.R_below (by (with_reducible repeat (first | apply Kd.R_alloc | apply Kd.R_drewN | apply Kd.R_drew)); exact HO317.out) hb); have n2_ := Aside0.mk (Zv BK302 hb); have n3_ := Aside0.mk (Zv BK312 hb); have n4_ := Aside0.mk (Yv HB hb); have n5_ := Aside0.mk (hbox); have n6_ := Aside0.mk (Yg HB hg); have n7_ := Aside0.mk (Yg HB hg); have n8_ := Aside0.mk (Zl BK302 hg); have n9_ := Aside0.mk (Zg BK302 hg); have n10_ := Aside0.mk (Zl BK312 hg); have n11_ := Aside0.mk (Zg BK312 hg); clear HO_313001; clear HO317; clear BK302; clear BK312; clear HB; have HO_313001 := n0_; have HO317 := n1_; have BK302 := n2_; have BK312 := n3_; have HB := n4_; have BK319 := n5_; have GW319 := n6_; have GE319 := n7_; have NB302_319 := n8_; have NB319_302 := n9_; have NB312_319 := n10_; have NB319_312 := n11_; clear n0_ n1_ n2_ n3_ n4_ n5_ n6_ n7_ n8_ n9_ n10_ n11_; clear hb hbox hg; obtain ⟨hnb53, hnc53⟩ := Zo NB319_302; obtain ⟨hnb54, hnc54⟩ := Zo NB319_312; obtain ⟨⟨hcz55_0, hcz55_1⟩, hfz55_0, hfz55_1⟩ := Zk2 BK319; obtain ⟨Ao56, co56, eo56⟩ := Kd.R_slice HO317.out; subst eo56) | ((with_reducible refine gate_callee (f := 18) rfl ?_); refine goesL_ (some 62) rfl rfl Try.func18 (by kernel_rfl) rfl #[.string (t304 ++ a3)] rfl (by (try simp only [List.map_toArray, List.map_cons, List.map_nil]); first | done | rfl | (simp only [List.length_drop, List.length_take]; rfl)) ?_; (with_reducible refine (define_Decode.calls (t304 ++ a3) t320 t321 t324 _ A31.out).mono ?_); rintro e w57 ⟨v322, rfl, ho0, hb⟩; refine ⟨_, rfl, ?_⟩; have n0_ := Aside0.mk (Kd.R_elder' (by (with_reducible repeat (first | apply Kd.R_alloc | apply Kd.R_drewN | apply Kd.R_drew)); exact (Kd.R_mono (Kd.R_far (p := ⟨gb319, 1, none⟩) (Kd.R_far (p := ⟨gb319, 0, none⟩) (Kd.R_types HO_313001.out BK319.out (by decide)) (fun _ hk => hk.2) (.string t314)) (fun _ hk => hk.2) (.slice Ao56 t315.length co56)) (fun _ h_ => h_.1))) (Kd.R_base ho0) hb); have n1_ := Aside0.mk (Kd.R_elder' (by (with_reducible repeat (first | apply Kd.R_alloc | apply Kd.R_drewN | apply Kd.R_drew)); exact (Kd.R_mono (Kd.R_far (p := ⟨gb319, 1, none⟩) (Kd.R_far (p := ⟨gb319, 0, none⟩) (Kd.R_types HO317.out BK319.out (by decide)) (fun _ hk => hk.2) (.string t314)) (fun _ hk => hk.2) (.slice Ao56 t315.length co56)) (fun _ h_ => h_.1))) (Kd.R_base ho0) hb); have n2_ := Aside0.mk (Kd.R_lower (Kd.R_new' (Kd.R_new' ho0 (Kd.R_lt (by (with_reducible repeat (first | apply Kd.R_alloc | apply Kd.R_drewN | apply Kd.R_drew)); exact (Kd.R_mono (Kd.R_far (p := ⟨gb319, 1, none⟩) (Kd.R_far (p := ⟨gb319, 0, none⟩) (Kd.R_types HO_313001.out BK319.out (by decide)) (fun _ hk => hk.2) (.string t314)) (fun _ hk => hk.2) (.slice Ao56 t315.length co56)) (fun _ h_ => h_.1))))) (Kd.R_lt (by (with_reducible repeat (first | apply Kd.R_alloc | apply Kd.R_drewN | apply Kd.R_drew)); exact (Kd.R_mono (Kd.R_far (p := ⟨gb319, 1, none⟩) (Kd.R_far (p := ⟨gb319, 0, none⟩) (Kd.R_types HO317.out BK319.out (by decide)) (fun _ hk => hk.2) (.string t314)) (fun _ hk => hk.2) (.slice Ao56 t315.length co56)) (fun _ h_ => h_.1))))) (below_size (Yr HB))); have n3_ := Aside0.mk (Zv BK302 hb); have n4_ := Aside0.mk (Zv BK312 hb); have n5_ := Aside0.mk (Zb (g := gb319) (o := .cells #[.string t314, .slice Ao56 t315.length co56] 24 (0, 0)) (by (with_reducible repeat first | apply Zn | apply Zd | apply Za); refine Zp (cs := #[.string t314, .slice none 0 0]) ?_ 1 _ rfl; (with_reducible repeat first | apply Zn | apply Zd | apply Za); refine Zp (cs := #[.string (⟨#[]⟩ : ByteArray), .slice none 0 0]) ?_ 0 _ rfl; (with_reducible repeat first | apply Zn | apply Zd | apply Za); exact BK319.out) hb); have n6_ := Aside0.mk (Yv HB hb); clear HO_313001; clear HO317; clear BK302; clear BK312; clear BK319; clear HB; have HO_313001 := n0_; have HO317 := n1_; have HO323 := n2_; have BK302 := n3_; have BK312 := n4_; have BK319 := n5_; have HB := n6_; clear n0_ n1_ n2_ n3_ n4_ n5_ n6_; (try clear hb); (try clear hb2); (try clear hk); (try clear hi); (try clear ho0); (try simp only [errW_none, errW_some])) | ((with_reducible refine gate_dst (N := 17) rfl ?_); refine box_event ?hg (N := 17) ?hd (cs := #[.string (⟨#[]⟩ : ByteArray), .slice none 0 0]) (t := 24) ?hr ?_; (case hd => rfl); (case hg => rfl); (case hr => first | (go_simp; done) | (go_simp; rfl)); intro gb325 hg w58 hbox hb; have n0_ := Aside0.mk (Kd.R_below (by (with_reducible repeat (first | apply Kd.R_alloc | apply Kd.R_drewN | apply Kd.R_drew)); exact HO_313001.out) hb); have n1_ := Aside0.mk (Kd.R_below (by (with_reducible repeat (first | apply Kd.R_alloc | apply Kd.R_drewN | apply Kd.R_drew)); exact HO317.out) hb); have n2_ := Aside0.mk (Kd.R_below (by (with_reducible repeat (first | apply Kd.R_alloc | apply Kd.R_drewN | apply Kd.R_drew)); exact HO323.out) hb); have n3_ := Aside0.mk (Zv BK302 hb); have n4_ := Aside0.mk (Zv BK312 hb); have n5_ := Aside0.mk (Zv BK319 hb); have n6_ := Aside0.mk (Yv HB hb); have n7_ := Aside0.mk (hbox); have n8_ := Aside0.mk (Yg HB hg); have n9_ := Aside0.mk (Yg HB hg); have n10_ := Aside0.mk (Zl BK302 hg); have n11_ := Aside0.mk (Zg BK302 hg); have n12_ := Aside0.mk (Zl BK312 hg); have n13_ := Aside0.mk (Zg BK312 hg); have n14_ := Aside0.mk (Zl BK319 hg); have n15_ := Aside0.mk (Zg BK319 hg); clear HO_313001; clear HO317; clear HO323; clear BK302; clear BK312; clear BK319; clear HB; have HO_313001 := n0_; have HO317 := n1_; have HO323 := n2_; have BK302 := n3_; have BK312 := n4_; have BK319 := n5_; have HB := n6_; have BK325 := n7_; have GW325 := n8_; have GE325 := n9_; have NB302_325 := n10_; have NB325_302 := n11_; have NB312_325 := n12_; have NB325_312 := n13_; have NB319_325 := n14_; have NB325_319 := n15_; clear n0_ n1_ n2_ n3_ n4_ n5_ n6_ n7_ n8_ n9_ n10_ n11_ n12_ n13_ n14_ n15_; clear hb hbox hg; obtain ⟨hnb59, hnc59⟩ := Zo NB325_302; obtain ⟨hnb60, hnc60⟩ := Zo NB325_312; obtain ⟨hnb61, hnc61⟩ := Zo NB325_319; obtain ⟨⟨hcz62_0, hcz62_1⟩, hfz62_0, hfz62_1⟩ := Zk2 BK325; obtain ⟨Ao63, co63, eo63⟩ := Kd.R_slice HO323.out; subst eo63; have CA33 := fun W => palinodelaw18_is.calls t318 3 true W A33.out; try simp only [errW_none, errW_some] at CA33) | (go_at_call 20; (with_reducible refine (CA33 _).mono ?_); rintro e w' ⟨rfl, ⟨nd, rfl⟩⟩; have CA49 := fun W => palinodelaw18_is.calls t324 3 true W A49.out; try simp only [errW_none, errW_some] at CA49) | (go_at_call 20; (with_reducible refine (CA49 _).mono ?_); rintro e w' ⟨rfl, ⟨nd, rfl⟩⟩))
                go_meet
                case rel => exact ⟨_, H', ⟨by have := HJ6.out; have := HJ15.out; first | omega | exact Nat.le_refl _⟩, ⟨by (with_reducible repeat first | apply Zn | apply Zd | apply Za); refine Zq ?_ NB302_325.out _; (with_reducible repeat first | apply Zn | apply Zd | apply Za); refine Zq ?_ NB302_325.out _; (with_reducible repeat first | apply Zn | apply Zd | apply Za); exact BK302.out⟩, ⟨Yr HB⟩⟩
               ·
                replace c50 := Bool.eq_false_iff.mpr c50
                subst c50
                have H1 : (some false) = some r := by rw [if_neg (show ¬ (false = true) by decide)] at H; exact H
                clear H
                have H := H1
                clear H1
                exact absurd ((Option.some.inj H).trans HRT_.out) (by decide)
             ·
              replace c34 := Bool.eq_false_iff.mpr c34
              subst c34
              have H1 : (some false) = some r := by rw [if_neg (show ¬ (false = true) by decide)] at H; exact H
              clear H
              have H := H1
              clear H1
              exact absurd ((Option.some.inj H).trans HRT_.out) (by decide)
            ·
             have H1 : (some false) = some r := by rw [if_neg (show ¬ (some q326).isNone = true by simp)] at H; exact H
             clear H
             have H := H1
             clear H1
             try simp only [errW_none, errW_some]
             exact absurd ((Option.some.inj H).trans HRT_.out) (by decide)
           ·
            replace c32 := Bool.eq_false_iff.mpr c32
            subst c32
            have H1 : (some false) = some r := by rw [if_neg (show ¬ (false = true) by decide)] at H; exact H
            clear H
            have H := H1
            clear H1
            exact absurd ((Option.some.inj H).trans HRT_.out) (by decide)
          ·
           rw [if_neg c30] at H
           exact absurd H (by simp)
         ·
          rw [if_neg c28] at H
          exact absurd H (by simp)
        ·
         rw [if_neg c27] at H
         exact absurd H (by simp)
    ·
     replace c13 := Bool.eq_false_iff.mpr c13
     subst c13
     have H1 : (palinodelaw18_DefineBack.j2 kj6 a1 t303) = some r := by rw [if_neg (show ¬ (false = true) by decide)] at H; exact H
     clear H
     have H := H1
     clear H1
     have H' := Aside0.mk H
     clear H
     go_wp2
     go_meet
     case rel => exact ⟨_, H', ⟨by have := HJ6.out; first | omega | exact Nat.le_refl _⟩, ⟨by (with_reducible repeat first | apply Zn | apply Zd | apply Za); exact BK302.out⟩, ⟨Yr HB⟩⟩
   case rest =>
    clear HC12
    try clear c1
    try clear c2
    try clear p2
    try clear c3
    try clear q3
    try clear c4
    try clear c5
    try clear c6
    try clear p6
    try clear c8
    try clear c13
    try clear c15
    try clear c18
    try clear c19
    try clear c24
    try clear c24b0
    try clear c25
    try clear c25b0
    try clear c25b1
    try clear c27
    try clear c27b0
    try clear c27b1
    try clear c28
    try clear c28b0
    try clear c28b1
    try clear c30
    try clear c30b0
    try clear c30b1
    try clear c30b2
    try clear q30
    try clear c32
    try clear q32
    try clear c34
    try clear c35
    try clear c35b0
    try clear c35b1
    try clear c38
    try clear c39
    try clear c44
    try clear c45
    try clear c46
    try clear c50
    try clear c53
    try clear c54
    try clear c59
    try clear c60
    try clear c61
    try clear hcz10_0
    try clear hcz10_1
    try clear hcz20_0
    try clear hcz20_1
    try clear hcz22_0
    try clear hcz22_1
    try clear hcz40_0
    try clear hcz40_1
    try clear hcz47_0
    try clear hcz47_1
    try clear hcz55_0
    try clear hcz55_1
    try clear hcz62_0
    try clear hcz62_1
    try clear hfz10_0
    try clear hfz10_1
    try clear hfz20_0
    try clear hfz20_1
    try clear hfz22_0
    try clear hfz22_1
    try clear hfz40_0
    try clear hfz40_1
    try clear hfz47_0
    try clear hfz47_1
    try clear hfz55_0
    try clear hfz55_1
    try clear hfz62_0
    try clear hfz62_1
    try clear p2
    try clear p6
    try clear q3
    try clear q306
    try clear q326
    obtain ⟨kq, HA, HJ11, BK302, HB⟩ := hcut
    cases kq with
    | zero => exact absurd HA.out (by simp [palinodelaw18_DefineBack.j2])
    | succ kj11 =>
     have H := HA.out
     clear HA
     simp only [palinodelaw18_DefineBack.j2] at H
     replace H := Option.bind_eq_some_iff.mp H
     obtain ⟨⟨t329, t330, t333⟩, A640, H⟩ := H
     replace H : (if t333.isNone = true then ((define_Encode.f kj11 t329 t330).bind fun bt336 => (if t303 = true then (if bt336.1.toList = a1.toList then (if bt336.2.isNone = true then ((define_Right.f kj11 t329 t330).bind fun t339 => (some t339)) else (some false)) else (some false)) else (some false))) else (if t303 = true then (some (t329.toList == ([] : List UInt8))) else (some false))) = some r := H
     have A64 := Aside0.mk A640
     clear A640
     rcases t333 with _ | q335
     ·
      have H1 : ((define_Encode.f kj11 t329 t330).bind fun bt336 => (if t303 = true then (if bt336.1.toList = a1.toList then (if bt336.2.isNone = true then ((define_Right.f kj11 t329 t330).bind fun t339 => (some t339)) else (some false)) else (some false)) else (some false))) = some r := by rw [if_pos (show (none : Option Int).isNone = true by rfl)] at H; exact H
      clear H
      have H := H1
      clear H1
      try simp only [errW_none, errW_some]
      replace H := Option.bind_eq_some_iff.mp H
      obtain ⟨⟨t336, t337⟩, A650, H⟩ := H
      replace H : (if t303 = true then (if t336.toList = a1.toList then (if t337.isNone = true then ((define_Right.f kj11 t329 t330).bind fun t339 => (some t339)) else (some false)) else (some false)) else (some false)) = some r := H
      have A65 := Aside0.mk A650
      clear A650
      by_cases c66 : t303 = true
      ·
       subst c66
       have H1 : (if t336.toList = a1.toList then (if t337.isNone = true then ((define_Right.f kj11 t329 t330).bind fun t339 => (some t339)) else (some false)) else (some false)) = some r := by rw [if_pos rfl] at H; exact H
       clear H
       have H := H1
       clear H1
       by_cases c67 : t336.toList = a1.toList
       ·
        rw [if_pos c67] at H
        have c67b0 : (t336.toList == a1.toList) = true := beq_iff_eq.mpr c67
        have c67b1 : (t336.toList != a1.toList) = false := bne_eq_false_iff_eq.mpr c67
        clear c67
        rcases t337 with _ | q338
        ·
         have H1 : ((define_Right.f kj11 t329 t330).bind fun t339 => (some t339)) = some r := by rw [if_pos (show (none : Option Int).isNone = true by rfl)] at H; exact H
         clear H
         have H := H1
         clear H1
         try simp only [errW_none, errW_some]
         replace H := Option.bind_eq_some_iff.mp H
         obtain ⟨t339, A680, H⟩ := H
         replace H : (some t339) = some r := H
         have A68 := Aside0.mk A680
         clear A680
         obtain rfl := Option.some.inj H
         go_wp2_with (first | ((with_reducible refine gate_callee (f := 18) rfl ?_); refine goesL_ (some 87) rfl rfl Try.func18 (by kernel_rfl) rfl #[.string a1] rfl (by (try simp only [List.map_toArray, List.map_cons, List.map_nil]); first | done | rfl | (simp only [List.length_drop, List.length_take]; rfl)) ?_; (with_reducible refine (define_Decode.calls a1 t329 t330 none _ A64.out).mono ?_); rintro e w69 ⟨v331, rfl, ho0, hb⟩; refine ⟨_, rfl, ?_⟩; have n0_ := Aside0.mk (Kd.R_lower ho0 (below_size (Yr HB))); have n1_ := Aside0.mk (Zv BK302 hb); have n2_ := Aside0.mk (Yv HB hb); clear BK302; clear HB; have HO332 := n0_; have BK302 := n1_; have HB := n2_; clear n0_ n1_ n2_; (try clear hb); (try clear hb2); (try clear hk); (try clear hi); (try clear ho0); (try simp only [errW_none, errW_some])) | ((with_reducible refine gate_dst (N := 19) rfl ?_); refine box_event ?hg (N := 19) ?hd (cs := #[.string (⟨#[]⟩ : ByteArray), .slice none 0 0]) (t := 24) ?hr ?_; (case hd => rfl); (case hg => rfl); (case hr => first | (go_simp; done) | (go_simp; rfl)); intro gb334 hg w70 hbox hb; have n0_ := Aside0.mk (Kd.R_below (by (with_reducible repeat (first | apply Kd.R_alloc | apply Kd.R_drewN | apply Kd.R_drew)); exact HO332.out) hb); have n1_ := Aside0.mk (Zv BK302 hb); have n2_ := Aside0.mk (Yv HB hb); have n3_ := Aside0.mk (hbox); have n4_ := Aside0.mk (Yg HB hg); have n5_ := Aside0.mk (Yg HB hg); have n6_ := Aside0.mk (Zl BK302 hg); have n7_ := Aside0.mk (Zg BK302 hg); clear HO332; clear BK302; clear HB; have HO332 := n0_; have BK302 := n1_; have HB := n2_; have BK334 := n3_; have GW334 := n4_; have GE334 := n5_; have NB302_334 := n6_; have NB334_302 := n7_; clear n0_ n1_ n2_ n3_ n4_ n5_ n6_ n7_; clear hb hbox hg; obtain ⟨hnb71, hnc71⟩ := Zo NB334_302; obtain ⟨⟨hcz72_0, hcz72_1⟩, hfz72_0, hfz72_1⟩ := Zk2 BK334; obtain ⟨Ao73, co73, eo73⟩ := Kd.R_slice HO332.out; subst eo73) | ((with_reducible refine gate_callee (f := 15) rfl ?_); refine goesL_ (some 100) rfl rfl Try.func15 (by kernel_rfl) rfl #[.agg #[.string t329, .slice Ao73 t330.length co73]] rfl (by (try simp only [List.map_toArray, List.map_cons, List.map_nil]); first | done | rfl | (simp only [List.length_drop, List.length_take]; rfl)) ?_; (with_reducible refine (define_Encode.calls kj11 t329 _ _ t330 t336 none _ ?side1 ?side2 A65.out).mono ?_); (case side1 => refine (Kd.R_reads' (e := 43) (base := w.heap.size) (ok := fun k_ => True) (n := t330.length) (c := co73) ?_).2.2; exact (by (with_reducible repeat (first | apply Kd.R_alloc | apply Kd.R_drewN | apply Kd.R_drew)); exact (Kd.R_mono (Kd.R_far (p := ⟨gb334, 1, none⟩) (Kd.R_far (p := ⟨gb334, 0, none⟩) (Kd.R_types HO332.out BK334.out (by decide)) (fun _ hk => hk.2) (.string t329)) (fun _ hk => hk.2) (.slice Ao73 t330.length co73)) (fun _ h_ => h_.1)))); (case side2 => exact (Kd.R_reads' HO332.out).2.1); rintro e w74 ⟨rfl, hb⟩; refine ⟨_, rfl, ?_⟩; have n0_ := Aside0.mk (Kd.R_below (by (with_reducible repeat (first | apply Kd.R_alloc | apply Kd.R_drewN | apply Kd.R_drew)); exact (Kd.R_mono (Kd.R_far (p := ⟨gb334, 1, none⟩) (Kd.R_far (p := ⟨gb334, 0, none⟩) (Kd.R_types HO332.out BK334.out (by decide)) (fun _ hk => hk.2) (.string t329)) (fun _ hk => hk.2) (.slice Ao73 t330.length co73)) (fun _ h_ => h_.1))) hb); have n1_ := Aside0.mk (Zv BK302 hb); have n2_ := Aside0.mk (Zb (g := gb334) (o := .cells #[.string t329, .slice Ao73 t330.length co73] 24 (0, 0)) (by (with_reducible repeat first | apply Zn | apply Zd | apply Za); refine Zp (cs := #[.string t329, .slice none 0 0]) ?_ 1 _ rfl; (with_reducible repeat first | apply Zn | apply Zd | apply Za); refine Zp (cs := #[.string (⟨#[]⟩ : ByteArray), .slice none 0 0]) ?_ 0 _ rfl; (with_reducible repeat first | apply Zn | apply Zd | apply Za); exact BK334.out) hb); have n3_ := Aside0.mk (Yv HB hb); clear HO332; clear BK302; clear BK334; clear HB; have HO332 := n0_; have BK302 := n1_; have BK334 := n2_; have HB := n3_; clear n0_ n1_ n2_ n3_; (try clear hb); (try clear hb2); (try clear hk); (try clear hi); (try simp only [errW_none, errW_some]); obtain ⟨⟨hcz75_0, hcz75_1⟩, hfz75_0, hfz75_1⟩ := Zk2 BK334) | (go_at_call 11; (with_reducible refine (define_Right.calls kj11 t329 _ _ t330 t339 _ ?side1 ?side2 A68.out).mono ?_); (case side1 => repeat (first | exact (Kd.R_reads' HO332.out).2.2 | (with_reducible refine Kd.C_alloc ?_ _) | (with_reducible refine Kd.C_drewN ?_ _) | (with_reducible refine Kd.C_drew ?_))); (case side2 => exact (Kd.R_reads' HO332.out).2.1); rintro e w76 ⟨rfl, hb⟩; have n0_ := Aside0.mk (Kd.R_below (by (with_reducible repeat (first | apply Kd.R_alloc | apply Kd.R_drewN | apply Kd.R_drew)); exact HO332.out) hb); have n1_ := Aside0.mk (Zv BK302 hb); have n2_ := Aside0.mk (Zv BK334 hb); have n3_ := Aside0.mk (Yv HB hb); clear HO332; clear BK302; clear BK334; clear HB; have HO332 := n0_; have BK302 := n1_; have BK334 := n2_; have HB := n3_; clear n0_ n1_ n2_ n3_; (try clear hb); (try clear hb2); (try clear hk); (try clear hi)))
         go_ret
         exact ⟨by first | rfl | (simp [errW_none, errW_some] <;> rfl) | (simp [*, errW_none, errW_some] <;> rfl), Yr HB⟩
        ·
         have H1 : (some false) = some r := by rw [if_neg (show ¬ (some q338).isNone = true by simp)] at H; exact H
         clear H
         have H := H1
         clear H1
         try simp only [errW_none, errW_some]
         exact absurd ((Option.some.inj H).trans HRT_.out) (by decide)
       ·
        rw [if_neg c67] at H
        have c67b0 : (t336.toList == a1.toList) = false := beq_eq_false_iff_ne.mpr c67
        have c67b1 : (t336.toList != a1.toList) = true := bne_iff_ne.mpr c67
        exact absurd ((Option.some.inj H).trans HRT_.out) (by decide)
      ·
       replace c66 := Bool.eq_false_iff.mpr c66
       subst c66
       have H1 : (some false) = some r := by rw [if_neg (show ¬ (false = true) by decide)] at H; exact H
       clear H
       have H := H1
       clear H1
       exact absurd ((Option.some.inj H).trans HRT_.out) (by decide)
     ·
      have H1 : (if t303 = true then (some (t329.toList == ([] : List UInt8))) else (some false)) = some r := by rw [if_neg (show ¬ (some q335).isNone = true by simp)] at H; exact H
      clear H
      have H := H1
      clear H1
      try simp only [errW_none, errW_some]
      by_cases c77 : t303 = true
      ·
       subst c77
       have H1 : (some (t329.toList == ([] : List UInt8))) = some r := by rw [if_pos rfl] at H; exact H
       clear H
       have H := H1
       clear H1
       obtain rfl := Option.some.inj H
       go_wp2_with (first | ((with_reducible refine gate_callee (f := 18) rfl ?_); refine goesL_ (some 87) rfl rfl Try.func18 (by kernel_rfl) rfl #[.string a1] rfl (by (try simp only [List.map_toArray, List.map_cons, List.map_nil]); first | done | rfl | (simp only [List.length_drop, List.length_take]; rfl)) ?_; (with_reducible refine (define_Decode.calls a1 t329 t330 (some q335) _ A64.out).mono ?_); rintro e w78 ⟨v331, rfl, ho0, hb⟩; refine ⟨_, rfl, ?_⟩; have n0_ := Aside0.mk (Kd.R_lower ho0 (below_size (Yr HB))); have n1_ := Aside0.mk (Zv BK302 hb); have n2_ := Aside0.mk (Yv HB hb); clear BK302; clear HB; have HO332 := n0_; have BK302 := n1_; have HB := n2_; clear n0_ n1_ n2_; (try clear hb); (try clear hb2); (try clear hk); (try clear hi); (try clear ho0); (try simp only [errW_none, errW_some])) | ((with_reducible refine gate_dst (N := 19) rfl ?_); refine box_event ?hg (N := 19) ?hd (cs := #[.string (⟨#[]⟩ : ByteArray), .slice none 0 0]) (t := 24) ?hr ?_; (case hd => rfl); (case hg => rfl); (case hr => first | (go_simp; done) | (go_simp; rfl)); intro gb334 hg w79 hbox hb; have n0_ := Aside0.mk (Kd.R_below (by (with_reducible repeat (first | apply Kd.R_alloc | apply Kd.R_drewN | apply Kd.R_drew)); exact HO332.out) hb); have n1_ := Aside0.mk (Zv BK302 hb); have n2_ := Aside0.mk (Yv HB hb); have n3_ := Aside0.mk (hbox); have n4_ := Aside0.mk (Yg HB hg); have n5_ := Aside0.mk (Yg HB hg); have n6_ := Aside0.mk (Zl BK302 hg); have n7_ := Aside0.mk (Zg BK302 hg); clear HO332; clear BK302; clear HB; have HO332 := n0_; have BK302 := n1_; have HB := n2_; have BK334 := n3_; have GW334 := n4_; have GE334 := n5_; have NB302_334 := n6_; have NB334_302 := n7_; clear n0_ n1_ n2_ n3_ n4_ n5_ n6_ n7_; clear hb hbox hg; obtain ⟨hnb80, hnc80⟩ := Zo NB334_302; obtain ⟨⟨hcz81_0, hcz81_1⟩, hfz81_0, hfz81_1⟩ := Zk2 BK334; obtain ⟨Ao82, co82, eo82⟩ := Kd.R_slice HO332.out; subst eo82))
       go_ret
       exact ⟨by first | rfl | (simp [errW_none, errW_some] <;> rfl) | (simp [*, errW_none, errW_some] <;> rfl), Yr HB⟩
      ·
       replace c77 := Bool.eq_false_iff.mpr c77
       subst c77
       have H1 : (some false) = some r := by rw [if_neg (show ¬ (false = true) by decide)] at H; exact H
       clear H
       have H := H1
       clear H1
       exact absurd ((Option.some.inj H).trans HRT_.out) (by decide)

/-- THE ONE PURE STATEMENT of palinodelaw18_DefineBack. -/
def palinodelaw18_DefineBack.Pure : Prop := (∀ k_ r_, palinodelaw18_examples.f k_ = some r_ → r_ = true) ∧ ∀ (a0_0 : ByteArray) (l0_1 : List (S43)) (a1 : ByteArray) (a2 : Int) (a3 : ByteArray), a0_0.size ≤ 140737488351232 → (l0_1.length ≤ maxLen ∧ l0_1.length * 16 ≤ 140737488351232 ∧ ∀ x_ ∈ l0_1, V43 x_) → a1.size ≤ 140737488351232 → (Lit.int .i64 a2).wf = true → a3.size ≤ 140737488351232 → ∃ k, palinodelaw18_DefineBack.f k a0_0 l0_1 a1 a2 a3 = some true
theorem palinodelaw18_DefineBack.walk (P : palinodelaw18_DefineBack.Pure) (a0_0 : ByteArray) (A0_1 : Option Addr) (c0_1 : Nat) (l0_1 : List (S43)) (a1 : ByteArray) (a2 : Int) (a3 : ByteArray) (w : World) (v0_0 : a0_0.size ≤ 140737488351232) (hr0_1 : Kd.C k43 w A0_1 l0_1.length l0_1) (hc0_1 : l0_1.length ≤ c0_1) (v0_1 : (l0_1.length ≤ maxLen ∧ l0_1.length * 16 ≤ 140737488351232 ∧ ∀ x_ ∈ l0_1, V43 x_)) (v1 : a1.size ≤ 140737488351232) (v2 : (Lit.int .i64 a2).wf = true) (v3 : a3.size ≤ 140737488351232) :
  Calls Try.prog 5 #[.agg #[.string a0_0, .slice A0_1 l0_1.length c0_1], .string a1, .int .i64 a2, .string a3] w fun e w' => e = .returned (.bool true) ∧ Below w.heap.size w w' := by
 obtain ⟨k, h⟩ := P.2 a0_0 l0_1 a1 a2 a3 v0_0 v0_1 v1 v2 v3
 refine (palinodelaw18_DefineBack.calls k a0_0 A0_1 c0_1 l0_1 a1 a2 a3 true w hr0_1 hc0_1 h ⟨P.1⟩).mono ?_
 rintro e w' ⟨rfl, hd⟩
 exact ⟨rfl, hd⟩

end Go.Proofs.Ytnmlnngmfagmfaa.Print
