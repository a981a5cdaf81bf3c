-- Printed out of the translation by a program of this session's own. Not trusted: Lean checks it.
import Derived.Test.YtfhlpkcapohnoaaPrint0
import Derived.Test.YtfhlpkcapohnoaaPrint2
import Derived.Test.YtfhlpkcapohnoaaPrint6
import Derived.Test.YtfhlpkcapohnoaaPrint7
namespace Go.Proofs.Ytfhlpkcapohnoaa.Print
open Go.RowKit Go.Proofs.YtfhlpkcapohnoaaW.PrintWords Go.Proofs.YtfhlpkcapohnoaaW.PrintLast Go.Proofs.YtfhlpkcapohnoaaX
set_option linter.unusedVariables false
set_option linter.unusedSimpArgs false

/-! ### define_Tries: function 30 -/
def define_Tries.l0 : Nat → Int → List (S53) → Int → Int → Option (Int)
 | 0, _, _, _, _ => none
 | k + 1, x3, x10, x11, x12 => if x12 < x11 then (if 0 ≤ x12 then (if x12 < (x10.length : Int) then (define_Tries.l0 k (wrap64 (x3 + (wrap64 (2 * (wrap64 (((rd_T53 x10 x12).f0) + 1)))))) x10 x11 (wrap64 (x12 + 1))) else (none)) else (none)) else (some x3)
def define_Tries.f (k : Nat) (a0_0 : ByteArray) (l0_1 : List (S53)) : Option (Int) := (define_Right.f k a0_0 l0_1).bind fun t352 => (if t352 = true then (define_Tries.l0 k 0 l0_1 (l0_1.length : Int) 0) else (some 0))
theorem define_Tries.mono_l : ∀ k, (∀ y0 y1 y2 y3, LeO (define_Tries.l0 k y0 y1 y2 y3) (define_Tries.l0 (k + 1) y0 y1 y2 y3))
 | 0 => fun _ _ _ _ r h => by simp [define_Tries.l0] at h
 | k + 1 => by
  have ih0 := define_Tries.mono_l k
  ·
   intro y0 y1 y2 y3
   unfold define_Tries.l0
   repeat' first
   | (with_reducible exact ih0 _ _ _ _)
   | (with_reducible exact define_Right.mono _ _ _)
   | (with_reducible exact LeO.refl _)
   | (with_reducible exact LeO.none _)
   | (with_reducible refine LeO.ite ?_ ?_)
   | (with_reducible refine LeO.bind ?_ (fun _ => ?_))
   | exact ih0 _ _ _ _
   | exact define_Right.mono _ _ _
   | exact LeO.none _
   | refine LeO.ite ?_ ?_
   | refine LeO.bind ?_ (fun _ => ?_)
theorem define_Tries.mono : ∀ a0 a1 k, LeO (define_Tries.f k a0 a1) (define_Tries.f (k + 1) a0 a1) := by
 intro a0 a1 k
 have ih0 := define_Tries.mono_l k
 unfold define_Tries.f
 repeat' first
   | (with_reducible exact ih0 _ _ _ _)
   | (with_reducible exact define_Right.mono _ _ _)
   | (with_reducible exact LeO.refl _)
   | (with_reducible exact LeO.none _)
   | (with_reducible refine LeO.ite ?_ ?_)
   | (with_reducible refine LeO.bind ?_ (fun _ => ?_))
   | exact ih0 _ _ _ _
   | exact define_Right.mono _ _ _
   | exact LeO.none _
   | refine LeO.ite ?_ ?_
   | refine LeO.bind ?_ (fun _ => ?_)
set_option maxHeartbeats 8000000 in
set_option maxRecDepth 100000 in
theorem define_Tries.calls (k : Nat) (a0_0 : ByteArray) (A0_1 : Option Addr) (c0_1 : Nat) (l0_1 : List (S53)) (r : Int) (w : World) (hr0_1 : Kd.C k53 w A0_1 l0_1.length l0_1) (hc0_1 : l0_1.length ≤ c0_1) (h : define_Tries.f k a0_0 l0_1 = some r) :
  Calls Try.prog 30 #[.agg #[.string a0_0, .slice A0_1 l0_1.length c0_1]] w fun e w' => e = .returned (.int .i64 r) ∧ Below w.heap.size w w' := by
 have hu24 := Try.underlying24
 have hu53 := Try.underlying53
 have HR0_1 := Aside0.mk hr0_1
 have HC0_1 := Aside0.mk hc0_1
 clear hr0_1 hc0_1
 have HB := Aside0.mk (Below.refl w.heap.size w)
 have H : ((define_Right.f k a0_0 l0_1).bind fun t352 => (if t352 = true then (define_Tries.l0 k 0 l0_1 (l0_1.length : Int) 0) else (some 0))) = some r := h
 clear h
 replace H := Option.bind_eq_some_iff.mp H
 obtain ⟨t352, A20, H⟩ := H
 replace H : (if t352 = true then (define_Tries.l0 k 0 l0_1 (l0_1.length : Int) 0) else (some 0)) = some r := H
 have A2 := Aside0.mk A20
 clear A20
 by_cases c3 : t352 = true
 ·
  subst c3
  have H1 : (define_Tries.l0 k 0 l0_1 (l0_1.length : Int) 0) = some r := by rw [if_pos rfl] at H; exact H
  clear H
  have H := H1
  clear H1
  have H' := Aside0.mk H
  clear H
  go_enter Try.func30, Try.ntmps30
  go_wp2_with (first | ((with_reducible refine gate_dst (N := 1) rfl ?_); refine box_event ?hg (N := 1) ?hd (cs := #[.string a0_0, .slice A0_1 l0_1.length c0_1]) (t := 24) ?hr ?_; (case hd => rfl); (case hg => rfl); (case hr => first | (go_simp; done) | (go_simp; rfl)); intro gb351 hg w4 hbox hb; have n0_ := Aside0.mk (Yv HB hb); have n1_ := Aside0.mk (hbox); have n2_ := Aside0.mk (Yg HB hg); have n3_ := Aside0.mk (Yg HB hg); clear HB; have HB := n0_; have BK351 := n1_; have GW351 := n2_; have GE351 := n3_; clear n0_ n1_ n2_ n3_; clear hb hbox hg; obtain ⟨⟨hcz5_0, hcz5_1⟩, hfz5_0, hfz5_1⟩ := Zk2 BK351) | ((with_reducible refine gate_callee (f := 26) rfl ?_); refine goesL_ (some 7) rfl rfl Try.func26 (by kernel_rfl) rfl #[.agg #[.string a0_0, .slice A0_1 l0_1.length c0_1]] rfl (by (try simp only [List.map_toArray, List.map_cons, List.map_nil]); first | done | rfl | (simp only [List.length_drop, List.length_take]; rfl)) ?_; (with_reducible refine (define_Right.calls k a0_0 _ _ l0_1 true _ ?side1 ?side2 A2.out).mono ?_); (case side1 => repeat (first | exact (Kd.C_below HR0_1.out HB.out) | (with_reducible refine Kd.C_alloc ?_ _) | (with_reducible refine Kd.C_drewN ?_ _) | (with_reducible refine Kd.C_drew ?_))); (case side2 => exact HC0_1.out); rintro e w6 ⟨rfl, hb⟩; refine ⟨_, rfl, ?_⟩; have n0_ := Aside0.mk (Zv BK351 hb); have n1_ := Aside0.mk (Yv HB hb); clear BK351; clear HB; have BK351 := n0_; have HB := n1_; clear n0_ n1_; (try clear hb); (try clear hb2); (try clear hk); (try clear hi); obtain ⟨⟨hcz7_0, hcz7_1⟩, hfz7_0, hfz7_1⟩ := Zk2 BK351))
  go_loopg [3, 12] k (fun kq v3 v12 w' => ∃ (x3_1 : Int) (x12_1 : Int), v3 = .int .i64 x3_1 ∧ v12 = .int .i64 x12_1 ∧ Aside0 (define_Tries.l0 kq x3_1 l0_1 (l0_1.length : Int) x12_1 = some r) ∧ Aside0 (kq ≤ k) ∧ Aside0 (w'.heap[gb351]? = some (.cells #[.string a0_0, (.slice A0_1 l0_1.length c0_1)] 24 (0, 0))) ∧ Aside0 (Below w.heap.size w w'))
  case atStart => exact ⟨(0), (0), (by first | rfl | (simp; done) | (simp [*]; done)), (by first | rfl | (simp; done) | (simp [*]; done)), H', ⟨Nat.le_refl _⟩, ⟨by (with_reducible repeat first | apply Zn | apply Zd | apply Za); exact BK351.out⟩, ⟨Yr HB⟩⟩
  case round =>
   clear H'
   try clear c2
   try clear p2
   try clear c3
   try clear hcz5_0
   try clear hcz5_1
   try clear hcz7_0
   try clear hcz7_1
   try clear hfz5_0
   try clear hfz5_1
   try clear hfz7_0
   try clear hfz7_1
   obtain ⟨x3_1, x12_1, rfl, rfl, HA, HK1, BK351, HB⟩ := hrel
   cases gk with
   | zero => exact absurd HA.out (by simp [define_Tries.l0])
   | succ k1 =>
    have H := HA.out
    clear HA
    simp only [define_Tries.l0] at H
    by_cases c8 : x12_1 < (l0_1.length : Int)
    ·
     rw [if_pos c8] at H
     have c8b0 : decide (x12_1 < (l0_1.length : Int)) = true := decide_eq_true c8
     clear c8
     by_cases c9 : 0 ≤ x12_1
     ·
      rw [if_pos c9] at H
      have c9b0 : decide (0 ≤ x12_1) = true := decide_eq_true c9
      clear c9
      by_cases c10 : x12_1 < (l0_1.length : Int)
      ·
       rw [if_pos c10] at H
       have c10b0 : decide (x12_1 < (l0_1.length : Int)) = true := decide_eq_true c10
       clear c10
       have H' := Aside0.mk H
       clear H
       have p353 : 0 ≤ (x12_1 : Int) := of_decide_eq_true (by first | (with_reducible assumption) | assumption)
       have q353 : x12_1 < (l0_1.length : Int) := of_decide_eq_true (by first | (with_reducible assumption) | assumption)
       obtain ⟨ad353, e353, hx353_0, hx353_1⟩ := at_T53 HR0_1.out x12_1 p353 q353
       cases e353
       replace hx353_0 := (HB.out.cell (World.block_lt_of_cell? w _ hx353_0)).trans hx353_0
       replace hx353_1 := (HB.out.cell (World.block_lt_of_cell? w _ hx353_1)).trans hx353_1
       replace p353 := eq_true p353
       replace q353 := eq_true q353
       go_wp2_with (first | ((with_reducible refine gate_dst (N := 5) rfl ?_); refine box_event ?hg (N := 5) ?hd (cs := #[.int .i64 0, .int .i64 0]) (t := 53) ?hr ?_; (case hd => rfl); (case hg => rfl); (case hr => first | (go_simp; done) | (go_simp; rfl)); intro gb354 hg w11 hbox hb; have n0_ := Aside0.mk (Zv BK351 hb); have n1_ := Aside0.mk (Yv HB hb); have n2_ := Aside0.mk (hbox); have n3_ := Aside0.mk (Yg HB hg); have n4_ := Aside0.mk (Yg HB hg); have n5_ := Aside0.mk (Zl BK351 hg); have n6_ := Aside0.mk (Zg BK351 hg); clear BK351; clear HB; have BK351 := n0_; have HB := n1_; have BK354 := n2_; have GW354 := n3_; have GE354 := n4_; have NB351_354 := n5_; have NB354_351 := n6_; clear n0_ n1_ n2_ n3_ n4_ n5_ n6_; clear hb hbox hg; obtain ⟨hnb12, hnc12⟩ := Zo NB354_351; obtain ⟨⟨hcz13_0, hcz13_1⟩, hfz13_0, hfz13_1⟩ := Zk2 BK354))
       go_roundg k1
       case measure => have := HK1.out; omega
       case rel => exact ⟨(wrap64 (x3_1 + (wrap64 (2 * (wrap64 (((rd_T53 l0_1 x12_1).f0) + 1)))))), (wrap64 (x12_1 + 1)), (by first | rfl | (simp; done) | (simp [*]; done)), (by first | rfl | (simp; done) | (simp [*]; done)), H', ⟨by have := HK1.out; omega⟩, ⟨by (with_reducible repeat first | apply Zn | apply Zd | apply Za); refine Zq ?_ NB351_354.out _; (with_reducible repeat first | apply Zn | apply Zd | apply Za); refine Zq ?_ NB351_354.out _; (with_reducible repeat first | apply Zn | apply Zd | apply Za); exact BK351.out⟩, ⟨Yr HB⟩⟩
      ·
       rw [if_neg c10] at H
       exact absurd H (by simp)
     ·
      rw [if_neg c9] at H
      exact absurd H (by simp)
    ·
     rw [if_neg c8] at H
     have c8b0 : decide (x12_1 < (l0_1.length : Int)) = false := decide_eq_false c8
     clear c8
     obtain rfl := Option.some.inj H
     go_wp2
     go_ret
     exact ⟨by first | rfl | (simp [errW_none, errW_some] <;> rfl) | (simp [*, errW_none, errW_some] <;> rfl), Yr HB⟩
 ·
  replace c3 := Bool.eq_false_iff.mpr c3
  subst c3
  have H1 : (some 0) = some r := by rw [if_neg (show ¬ (false = true) by decide)] at H; exact H
  clear H
  have H := H1
  clear H1
  obtain rfl := Option.some.inj H
  go_enter Try.func30, Try.ntmps30
  go_wp2_with (first | ((with_reducible refine gate_dst (N := 1) rfl ?_); refine box_event ?hg (N := 1) ?hd (cs := #[.string a0_0, .slice A0_1 l0_1.length c0_1]) (t := 24) ?hr ?_; (case hd => rfl); (case hg => rfl); (case hr => first | (go_simp; done) | (go_simp; rfl)); intro gb351 hg w14 hbox hb; have n0_ := Aside0.mk (Yv HB hb); have n1_ := Aside0.mk (hbox); have n2_ := Aside0.mk (Yg HB hg); have n3_ := Aside0.mk (Yg HB hg); clear HB; have HB := n0_; have BK351 := n1_; have GW351 := n2_; have GE351 := n3_; clear n0_ n1_ n2_ n3_; clear hb hbox hg; obtain ⟨⟨hcz15_0, hcz15_1⟩, hfz15_0, hfz15_1⟩ := Zk2 BK351) | ((with_reducible refine gate_callee (f := 26) rfl ?_); refine goesL_ (some 7) rfl rfl Try.func26 (by kernel_rfl) rfl #[.agg #[.string a0_0, .slice A0_1 l0_1.length c0_1]] rfl (by (try simp only [List.map_toArray, List.map_cons, List.map_nil]); first | done | rfl | (simp only [List.length_drop, List.length_take]; rfl)) ?_; (with_reducible refine (define_Right.calls k a0_0 _ _ l0_1 false _ ?side1 ?side2 A2.out).mono ?_); (case side1 => repeat (first | exact (Kd.C_below HR0_1.out HB.out) | (with_reducible refine Kd.C_alloc ?_ _) | (with_reducible refine Kd.C_drewN ?_ _) | (with_reducible refine Kd.C_drew ?_))); (case side2 => exact HC0_1.out); rintro e w16 ⟨rfl, hb⟩; refine ⟨_, rfl, ?_⟩; have n0_ := Aside0.mk (Zv BK351 hb); have n1_ := Aside0.mk (Yv HB hb); clear BK351; clear HB; have BK351 := n0_; have HB := n1_; clear n0_ n1_; (try clear hb); (try clear hb2); (try clear hk); (try clear hi)))
  go_ret
  exact ⟨by first | rfl | (simp [errW_none, errW_some] <;> rfl) | (simp [*, errW_none, errW_some] <;> rfl), Yr HB⟩

/-! ### palinodelaw19_SagaEnds: function 10 -/
mutual
def palinodelaw19_SagaEnds.j0 : Nat → List Int → Int → Bool → Bool → ByteArray → List (S53) → Option (Bool)
 | 0, _, _, _, _, _, _ => none
 | k + 1, x1, x2, x7, x31, x356000, x356001 => if x31 = true then (some x7) else ((palinodelaw19_run.f k x356000 x356001 x1 x2).bind fun bt359 => (if bt359.2.2.2.2.2.2.2.2 = true then ((saga_Live.f bt359.2.1 bt359.2.2.1 bt359.2.2.2.1 bt359.2.2.2.2.1 bt359.2.2.2.2.2.1 bt359.2.2.2.2.2.2.1 bt359.2.2.2.2.2.2.2.1).bind fun t371 => (if t371 = true then (palinodelaw19_SagaEnds.j1 k x1 x7 bt359.1 true x356000 x356001 bt359.2.1 bt359.2.2.1 bt359.2.2.2.1 bt359.2.2.2.2.1 bt359.2.2.2.2.2.1 bt359.2.2.2.2.2.2.1 bt359.2.2.2.2.2.2.2.1) else ((define_Tries.f k x356000 x356001).bind fun t372 => (palinodelaw19_SagaEnds.j1 k x1 x7 bt359.1 (decide ((bt359.1.length : Int) > t372)) x356000 x356001 bt359.2.1 bt359.2.2.1 bt359.2.2.2.1 bt359.2.2.2.2.1 bt359.2.2.2.2.2.1 bt359.2.2.2.2.2.2.1 bt359.2.2.2.2.2.2.2.1)))) else (palinodelaw19_SagaEnds.j1 k x1 x7 bt359.1 true x356000 x356001 bt359.2.1 bt359.2.2.1 bt359.2.2.2.1 bt359.2.2.2.2.1 bt359.2.2.2.2.2.1 bt359.2.2.2.2.2.2.1 bt359.2.2.2.2.2.2.2.1)))
def palinodelaw19_SagaEnds.j1 : Nat → List Int → Bool → List (S35) → Bool → ByteArray → List (S53) → ByteArray → ByteArray → Int → Int → Int → Int → Bool → Option (Bool)
 | 0, _, _, _, _, _, _, _, _, _, _, _, _, _ => none
 | k + 1, x1, x7, x8, x53, x356000, x356001, x371000, x371001, x371002, x371003, x371004, x371005, x371006 => if x53 = true then (some false) else (if 0 ≤ (wrap64 ((x8.length : Int) - 1)) then (if (wrap64 ((x8.length : Int) - 1)) < (x1.length : Int) then ((palinodelaw19_pick.f (rd x1 (wrap64 ((x8.length : Int) - 1))) 3).bind fun t374 => (if x371002 = 3 then (if x7 = true then (if (wrap64 ((x8.length : Int) - 1)) < (x8.length : Int) then (if ((rd_T35 x8 (wrap64 ((x8.length : Int) - 1))).f2) = 1 then (if ((rd_T35 x8 (wrap64 ((x8.length : Int) - 1))).f1) = (wrap64 ((x356001.length : Int) - 1)) then (some ((wrap64 (1 + t374)) == 1)) else (some false)) else (some false)) else (none)) else (some false)) else (if x371002 = 4 then (if x7 = true then (if (wrap64 ((x8.length : Int) - 1)) < (x8.length : Int) then (if ((rd_T35 x8 (wrap64 ((x8.length : Int) - 1))).f1) = 0 then (if ((rd_T35 x8 (wrap64 ((x8.length : Int) - 1))).f2) = 2 then (if (wrap64 (1 + t374)) = 1 then (some true) else (if ((rd_T35 x8 (wrap64 ((x8.length : Int) - 1))).f2) = 1 then (some ((wrap64 (1 + t374)) == 2)) else (some false))) else (if ((rd_T35 x8 (wrap64 ((x8.length : Int) - 1))).f2) = 1 then (some ((wrap64 (1 + t374)) == 2)) else (some false))) else (some false)) else (none)) else (some false)) else (if x371002 = 5 then (if x7 = true then (if (wrap64 ((x8.length : Int) - 1)) < (x8.length : Int) then (if ((rd_T35 x8 (wrap64 ((x8.length : Int) - 1))).f2) = 2 then (if (wrap64 (1 + t374)) = 1 then (some false) else (if 0 ≤ ((rd_T35 x8 (wrap64 ((x8.length : Int) - 1))).f1) then (if ((rd_T35 x8 (wrap64 ((x8.length : Int) - 1))).f1) < (x356001.length : Int) then (if ((rd_T35 x8 (wrap64 ((x8.length : Int) - 1))).f3) = ((rd_T53 x356001 ((rd_T35 x8 (wrap64 ((x8.length : Int) - 1))).f1)).f0) then (some (x371003 == ((rd_T35 x8 (wrap64 ((x8.length : Int) - 1))).f1))) else (some false)) else (none)) else (none))) else (some false)) else (none)) else (some false)) else (some false))))) else (none)) else (none))
end
def palinodelaw19_SagaEnds.f (k : Nat) (a0_0 : ByteArray) (l0_1 : List (S53)) (l1 : List Int) (a2 : Int) : Option (Bool) := (palinodelaw19_examples.f k).bind fun t356 => ((define_Right.f k a0_0 l0_1).bind fun t357 => (if t357 = true then (if a2 < 0 then (palinodelaw19_SagaEnds.j0 k l1 a2 t356 true a0_0 l0_1) else (if a2 > 1099511627776 then (palinodelaw19_SagaEnds.j0 k l1 a2 t356 true a0_0 l0_1) else ((define_Tries.f k a0_0 l0_1).bind fun t358 => (palinodelaw19_SagaEnds.j0 k l1 a2 t356 (decide ((l1.length : Int) < t358)) a0_0 l0_1)))) else (palinodelaw19_SagaEnds.j0 k l1 a2 t356 true a0_0 l0_1)))
theorem palinodelaw19_SagaEnds.mono_l : ∀ k, (∀ y0 y1 y2 y3 y4 y5, LeO (palinodelaw19_SagaEnds.j0 k y0 y1 y2 y3 y4 y5) (palinodelaw19_SagaEnds.j0 (k + 1) y0 y1 y2 y3 y4 y5)) ∧ (∀ y0 y1 y2 y3 y4 y5 y6 y7 y8 y9 y10 y11 y12, LeO (palinodelaw19_SagaEnds.j1 k y0 y1 y2 y3 y4 y5 y6 y7 y8 y9 y10 y11 y12) (palinodelaw19_SagaEnds.j1 (k + 1) y0 y1 y2 y3 y4 y5 y6 y7 y8 y9 y10 y11 y12))
 | 0 => ⟨fun _ _ _ _ _ _ r h => by simp [palinodelaw19_SagaEnds.j0] at h, fun _ _ _ _ _ _ _ _ _ _ _ _ _ r h => by simp [palinodelaw19_SagaEnds.j1] at h⟩
 | k + 1 => by
  obtain ⟨ih0, ih1⟩ := palinodelaw19_SagaEnds.mono_l k
  refine ⟨?_, ?_⟩
  ·
   intro y0 y1 y2 y3 y4 y5
   unfold palinodelaw19_SagaEnds.j0
   repeat' first
   | (with_reducible exact ih0 _ _ _ _ _ _)
   | (with_reducible exact ih1 _ _ _ _ _ _ _ _ _ _ _ _ _)
   | (with_reducible exact define_Right.mono _ _ _)
   | (with_reducible exact define_Tries.mono _ _ _)
   | (with_reducible exact palinodelaw19_examples.mono _)
   | (with_reducible exact palinodelaw19_run.mono _ _ _ _ _)
   | (with_reducible exact LeO.refl _)
   | (with_reducible exact LeO.none _)
   | (with_reducible refine LeO.ite ?_ ?_)
   | (with_reducible refine LeO.bind ?_ (fun _ => ?_))
   | exact ih0 _ _ _ _ _ _
   | exact ih1 _ _ _ _ _ _ _ _ _ _ _ _ _
   | exact define_Right.mono _ _ _
   | exact define_Tries.mono _ _ _
   | exact palinodelaw19_examples.mono _
   | exact palinodelaw19_run.mono _ _ _ _ _
   | exact LeO.none _
   | refine LeO.ite ?_ ?_
   | refine LeO.bind ?_ (fun _ => ?_)
  ·
   intro y0 y1 y2 y3 y4 y5 y6 y7 y8 y9 y10 y11 y12
   unfold palinodelaw19_SagaEnds.j1
   repeat' first
   | (with_reducible exact ih0 _ _ _ _ _ _)
   | (with_reducible exact ih1 _ _ _ _ _ _ _ _ _ _ _ _ _)
   | (with_reducible exact define_Right.mono _ _ _)
   | (with_reducible exact define_Tries.mono _ _ _)
   | (with_reducible exact palinodelaw19_examples.mono _)
   | (with_reducible exact palinodelaw19_run.mono _ _ _ _ _)
   | (with_reducible exact LeO.refl _)
   | (with_reducible exact LeO.none _)
   | (with_reducible refine LeO.ite ?_ ?_)
   | (with_reducible refine LeO.bind ?_ (fun _ => ?_))
   | exact ih0 _ _ _ _ _ _
   | exact ih1 _ _ _ _ _ _ _ _ _ _ _ _ _
   | exact define_Right.mono _ _ _
   | exact define_Tries.mono _ _ _
   | exact palinodelaw19_examples.mono _
   | exact palinodelaw19_run.mono _ _ _ _ _
   | exact LeO.none _
   | refine LeO.ite ?_ ?_
   | refine LeO.bind ?_ (fun _ => ?_)
theorem palinodelaw19_SagaEnds.mono : ∀ a0 a1 a2 a3 k, LeO (palinodelaw19_SagaEnds.f k a0 a1 a2 a3) (palinodelaw19_SagaEnds.f (k + 1) a0 a1 a2 a3) := by
 intro a0 a1 a2 a3 k
 obtain ⟨ih0, ih1⟩ := palinodelaw19_SagaEnds.mono_l k
 unfold palinodelaw19_SagaEnds.f
 repeat' first
   | (with_reducible exact ih0 _ _ _ _ _ _)
   | (with_reducible exact ih1 _ _ _ _ _ _ _ _ _ _ _ _ _)
   | (with_reducible exact define_Right.mono _ _ _)
   | (with_reducible exact define_Tries.mono _ _ _)
   | (with_reducible exact palinodelaw19_examples.mono _)
   | (with_reducible exact palinodelaw19_run.mono _ _ _ _ _)
   | (with_reducible exact LeO.refl _)
   | (with_reducible exact LeO.none _)
   | (with_reducible refine LeO.ite ?_ ?_)
   | (with_reducible refine LeO.bind ?_ (fun _ => ?_))
   | exact ih0 _ _ _ _ _ _
   | exact ih1 _ _ _ _ _ _ _ _ _ _ _ _ _
   | exact define_Right.mono _ _ _
   | exact define_Tries.mono _ _ _
   | exact palinodelaw19_examples.mono _
   | exact palinodelaw19_run.mono _ _ _ _ _
   | exact LeO.none _
   | refine LeO.ite ?_ ?_
   | refine LeO.bind ?_ (fun _ => ?_)
set_option maxHeartbeats 8000000 in
set_option maxRecDepth 100000 in
theorem palinodelaw19_SagaEnds.calls (k : Nat) (a0_0 : ByteArray) (A0_1 : Option Addr) (c0_1 : Nat) (l0_1 : List (S53)) (A1 : Option Addr) (c1 : Nat) (l1 : List Int) (a2 : Int) (r : Bool) (w : World) (hr0_1 : Kd.C k53 w A0_1 l0_1.length l0_1) (hc0_1 : l0_1.length ≤ c0_1) (hr1 : Kd.C (Kd.int .i64) w A1 l1.length l1) (hc1 : l1.length ≤ c1) (h : palinodelaw19_SagaEnds.f k a0_0 l0_1 l1 a2 = some r) (HEX_ : Aside0 (∀ k_ r_, palinodelaw19_examples.f k_ = some r_ → r_ = true)) (HRT_ : Aside0 (r = true) := by first | exact ⟨rfl⟩ | assumption) :
  Calls Try.prog 10 #[.agg #[.string a0_0, .slice A0_1 l0_1.length c0_1], .slice A1 l1.length c1, .int .i64 a2] w fun e w' => e = .returned (.bool r) ∧ Below w.heap.size w w' := by
 have hu24 := Try.underlying24
 have hu26 := Try.underlying26
 have HR0_1 := Aside0.mk hr0_1
 have HC0_1 := Aside0.mk hc0_1
 clear hr0_1 hc0_1
 have HR1 := Aside0.mk hr1
 have HC1 := Aside0.mk hc1
 clear hr1 hc1
 have HB := Aside0.mk (Below.refl w.heap.size w)
 have H : ((palinodelaw19_examples.f k).bind fun t356 => ((define_Right.f k a0_0 l0_1).bind fun t357 => (if t357 = true then (if a2 < 0 then (palinodelaw19_SagaEnds.j0 k l1 a2 t356 true a0_0 l0_1) else (if a2 > 1099511627776 then (palinodelaw19_SagaEnds.j0 k l1 a2 t356 true a0_0 l0_1) else ((define_Tries.f k a0_0 l0_1).bind fun t358 => (palinodelaw19_SagaEnds.j0 k l1 a2 t356 (decide ((l1.length : Int) < t358)) a0_0 l0_1)))) else (palinodelaw19_SagaEnds.j0 k l1 a2 t356 true a0_0 l0_1)))) = some r := h
 clear h
 replace H := Option.bind_eq_some_iff.mp H
 obtain ⟨t356, A40, H⟩ := H
 replace H : ((define_Right.f k a0_0 l0_1).bind fun t357 => (if t357 = true then (if a2 < 0 then (palinodelaw19_SagaEnds.j0 k l1 a2 t356 true a0_0 l0_1) else (if a2 > 1099511627776 then (palinodelaw19_SagaEnds.j0 k l1 a2 t356 true a0_0 l0_1) else ((define_Tries.f k a0_0 l0_1).bind fun t358 => (palinodelaw19_SagaEnds.j0 k l1 a2 t356 (decide ((l1.length : Int) < t358)) a0_0 l0_1)))) else (palinodelaw19_SagaEnds.j0 k l1 a2 t356 true a0_0 l0_1))) = some r := H
 have A4 := Aside0.mk A40
 have HTA4_ : Aside0 (t356 = true) := ⟨HEX_.out _ _ A40⟩
 clear A40
 have HC5 := Aside0.mk H
 clear H
 go_enter Try.func10, Try.ntmps10
 go_upto_region 2 with (first | ((with_reducible refine gate_dst (N := 3) rfl ?_); (try (refine gate_guard (by rfl) ?_; dsimp only)); refine box_event ?hg (N := 3) ?hd (cs := #[.string a0_0, .slice A0_1 l0_1.length c0_1]) (t := 24) ?hr ?_; (case hd => rfl); (case hg => rfl); (case hr => first | (go_simp; done) | (go_simp; rfl)); intro gb355 hg w6 hbox hb; have n0_ := Aside0.mk (Yv HB hb); have n1_ := Aside0.mk (hbox); have n2_ := Aside0.mk (Yg HB hg); have n3_ := Aside0.mk (Yg HB hg); clear HB; have HB := n0_; have BK355 := n1_; have GW355 := n2_; have GE355 := n3_; clear n0_ n1_ n2_ n3_; clear hb hbox hg) | (go_at_call 13; (with_reducible refine (palinodelaw19_examples.calls k  t356 _ A4.out).mono ?_); rintro e w7 ⟨rfl, hb⟩; have n0_ := Aside0.mk (Zv BK355 hb); have n1_ := Aside0.mk (Yv HB hb); clear BK355; clear HB; have BK355 := n0_; have HB := n1_; clear n0_ n1_; (try clear hb); (try clear hb2); (try clear hk); (try clear hi)))
 repeat (go_quiet (first | ((with_reducible refine gate_dst (N := 3) rfl ?_); (try (refine gate_guard (by rfl) ?_; dsimp only)); refine box_event ?hg (N := 3) ?hd (cs := #[.string a0_0, .slice A0_1 l0_1.length c0_1]) (t := 24) ?hr ?_; (case hd => rfl); (case hg => rfl); (case hr => first | (go_simp; done) | (go_simp; rfl)); intro gb355 hg w6 hbox hb; have n0_ := Aside0.mk (Yv HB hb); have n1_ := Aside0.mk (hbox); have n2_ := Aside0.mk (Yg HB hg); have n3_ := Aside0.mk (Yg HB hg); clear HB; have HB := n0_; have BK355 := n1_; have GW355 := n2_; have GE355 := n3_; clear n0_ n1_ n2_ n3_; clear hb hbox hg) | (go_at_call 13; (with_reducible refine (palinodelaw19_examples.calls k  t356 _ A4.out).mono ?_); rintro e w7 ⟨rfl, hb⟩; have n0_ := Aside0.mk (Zv BK355 hb); have n1_ := Aside0.mk (Yv HB hb); clear BK355; clear HB; have BK355 := n0_; have HB := n1_; clear n0_ n1_; (try clear hb); (try clear hb2); (try clear hk); (try clear hi))); go_upto_region 2 with (first | ((with_reducible refine gate_dst (N := 3) rfl ?_); (try (refine gate_guard (by rfl) ?_; dsimp only)); refine box_event ?hg (N := 3) ?hd (cs := #[.string a0_0, .slice A0_1 l0_1.length c0_1]) (t := 24) ?hr ?_; (case hd => rfl); (case hg => rfl); (case hr => first | (go_simp; done) | (go_simp; rfl)); intro gb355 hg w6 hbox hb; have n0_ := Aside0.mk (Yv HB hb); have n1_ := Aside0.mk (hbox); have n2_ := Aside0.mk (Yg HB hg); have n3_ := Aside0.mk (Yg HB hg); clear HB; have HB := n0_; have BK355 := n1_; have GW355 := n2_; have GE355 := n3_; clear n0_ n1_ n2_ n3_; clear hb hbox hg) | (go_at_call 13; (with_reducible refine (palinodelaw19_examples.calls k  t356 _ A4.out).mono ?_); rintro e w7 ⟨rfl, hb⟩; have n0_ := Aside0.mk (Zv BK355 hb); have n1_ := Aside0.mk (Yv HB hb); clear BK355; clear HB; have BK355 := n0_; have HB := n1_; clear n0_ n1_; (try clear hb); (try clear hb2); (try clear hk); (try clear hi))))
 (try simp only [Act.put, List.setIfInBounds_toArray, List.set_cons_zero, List.set_cons_succ])
 go_cut [31] (fun v31 wc => ∃ (kq : Nat) (x31_4 : Bool), v31 = .bool x31_4 ∧ Aside0 (palinodelaw19_SagaEnds.j0 kq l1 a2 t356 x31_4 a0_0 l0_1 = some r) ∧ Aside0 (kq ≤ k) ∧ Aside0 (wc.heap[gb355]? = some (.cells #[.string a0_0, (.slice A0_1 l0_1.length c0_1)] 24 (0, 0))) ∧ Aside0 (Below w.heap.size w wc))
 case first =>
  have H := HC5.out
  clear HC5
  replace H := Option.bind_eq_some_iff.mp H
  obtain ⟨t357, A80, H⟩ := H
  replace H : (if t357 = true then (if a2 < 0 then (palinodelaw19_SagaEnds.j0 k l1 a2 t356 true a0_0 l0_1) else (if a2 > 1099511627776 then (palinodelaw19_SagaEnds.j0 k l1 a2 t356 true a0_0 l0_1) else ((define_Tries.f k a0_0 l0_1).bind fun t358 => (palinodelaw19_SagaEnds.j0 k l1 a2 t356 (decide ((l1.length : Int) < t358)) a0_0 l0_1)))) else (palinodelaw19_SagaEnds.j0 k l1 a2 t356 true a0_0 l0_1)) = some r := H
  have A8 := Aside0.mk A80
  clear A80
  by_cases c9 : t357 = true
  ·
   subst c9
   have H1 : (if a2 < 0 then (palinodelaw19_SagaEnds.j0 k l1 a2 t356 true a0_0 l0_1) else (if a2 > 1099511627776 then (palinodelaw19_SagaEnds.j0 k l1 a2 t356 true a0_0 l0_1) else ((define_Tries.f k a0_0 l0_1).bind fun t358 => (palinodelaw19_SagaEnds.j0 k l1 a2 t356 (decide ((l1.length : Int) < t358)) a0_0 l0_1)))) = some r := by rw [if_pos rfl] at H; exact H
   clear H
   have H := H1
   clear H1
   by_cases c10 : a2 < 0
   ·
    rw [if_pos c10] at H
    have c10b0 : decide (a2 < 0) = true := decide_eq_true c10
    clear c10
    (first | rw [c10b0] | (simp only [i64_w, i32_w]; rw [c10b0]) | skip)
    have H' := Aside0.mk H
    clear H
    obtain ⟨⟨hcz11_0, hcz11_1⟩, hfz11_0, hfz11_1⟩ := Zk2 BK355
    go_wp2_with (first | (go_at_call 26; (with_reducible refine (define_Right.calls k a0_0 _ _ l0_1 true _ ?side1 ?side2 A8.out).mono ?_); (case side1 => repeat (first | exact (Kd.C_below HR0_1.out HB.out) | (with_reducible refine Kd.C_alloc ?_ _) | (with_reducible refine Kd.C_drewN ?_ _) | (with_reducible refine Kd.C_drew ?_))); (case side2 => exact HC0_1.out); rintro e w12 ⟨rfl, hb⟩; have n0_ := Aside0.mk (Zv BK355 hb); have n1_ := Aside0.mk (Yv HB hb); clear BK355; clear HB; have BK355 := n0_; have HB := n1_; clear n0_ n1_; (try clear hb); (try clear hb2); (try clear hk); (try clear hi)))
    repeat (go_quiet (first | (go_at_call 26; (with_reducible refine (define_Right.calls k a0_0 _ _ l0_1 true _ ?side1 ?side2 A8.out).mono ?_); (case side1 => repeat (first | exact (Kd.C_below HR0_1.out HB.out) | (with_reducible refine Kd.C_alloc ?_ _) | (with_reducible refine Kd.C_drewN ?_ _) | (with_reducible refine Kd.C_drew ?_))); (case side2 => exact HC0_1.out); rintro e w12 ⟨rfl, hb⟩; have n0_ := Aside0.mk (Zv BK355 hb); have n1_ := Aside0.mk (Yv HB hb); clear BK355; clear HB; have BK355 := n0_; have HB := n1_; clear n0_ n1_; (try clear hb); (try clear hb2); (try clear hk); (try clear hi))); try go_wp2_with (first | (go_at_call 26; (with_reducible refine (define_Right.calls k a0_0 _ _ l0_1 true _ ?side1 ?side2 A8.out).mono ?_); (case side1 => repeat (first | exact (Kd.C_below HR0_1.out HB.out) | (with_reducible refine Kd.C_alloc ?_ _) | (with_reducible refine Kd.C_drewN ?_ _) | (with_reducible refine Kd.C_drew ?_))); (case side2 => exact HC0_1.out); rintro e w12 ⟨rfl, hb⟩; have n0_ := Aside0.mk (Zv BK355 hb); have n1_ := Aside0.mk (Yv HB hb); clear BK355; clear HB; have BK355 := n0_; have HB := n1_; clear n0_ n1_; (try clear hb); (try clear hb2); (try clear hk); (try clear hi))))
    go_meet
    case rel => exact ⟨_, (true), (by first | rfl | (simp; done) | (simp [*]; done)), H', ⟨by first | omega | exact Nat.le_refl _⟩, ⟨by (with_reducible repeat first | apply Zn | apply Zd | apply Za); exact BK355.out⟩, ⟨Yr HB⟩⟩
   ·
    rw [if_neg c10] at H
    have c10b0 : decide (a2 < 0) = false := decide_eq_false c10
    clear c10
    (first | rw [c10b0] | (simp only [i64_w, i32_w]; rw [c10b0]) | skip)
    by_cases c13 : a2 > 1099511627776
    ·
     rw [if_pos c13] at H
     have c13b0 : decide (1099511627776 < a2) = true := decide_eq_true c13
     clear c13
     have H' := Aside0.mk H
     clear H
     obtain ⟨⟨hcz14_0, hcz14_1⟩, hfz14_0, hfz14_1⟩ := Zk2 BK355
     go_wp2_with (first | (go_at_call 26; (with_reducible refine (define_Right.calls k a0_0 _ _ l0_1 true _ ?side1 ?side2 A8.out).mono ?_); (case side1 => repeat (first | exact (Kd.C_below HR0_1.out HB.out) | (with_reducible refine Kd.C_alloc ?_ _) | (with_reducible refine Kd.C_drewN ?_ _) | (with_reducible refine Kd.C_drew ?_))); (case side2 => exact HC0_1.out); rintro e w15 ⟨rfl, hb⟩; have n0_ := Aside0.mk (Zv BK355 hb); have n1_ := Aside0.mk (Yv HB hb); clear BK355; clear HB; have BK355 := n0_; have HB := n1_; clear n0_ n1_; (try clear hb); (try clear hb2); (try clear hk); (try clear hi)))
     repeat (go_quiet (first | (go_at_call 26; (with_reducible refine (define_Right.calls k a0_0 _ _ l0_1 true _ ?side1 ?side2 A8.out).mono ?_); (case side1 => repeat (first | exact (Kd.C_below HR0_1.out HB.out) | (with_reducible refine Kd.C_alloc ?_ _) | (with_reducible refine Kd.C_drewN ?_ _) | (with_reducible refine Kd.C_drew ?_))); (case side2 => exact HC0_1.out); rintro e w15 ⟨rfl, hb⟩; have n0_ := Aside0.mk (Zv BK355 hb); have n1_ := Aside0.mk (Yv HB hb); clear BK355; clear HB; have BK355 := n0_; have HB := n1_; clear n0_ n1_; (try clear hb); (try clear hb2); (try clear hk); (try clear hi))); try go_wp2_with (first | (go_at_call 26; (with_reducible refine (define_Right.calls k a0_0 _ _ l0_1 true _ ?side1 ?side2 A8.out).mono ?_); (case side1 => repeat (first | exact (Kd.C_below HR0_1.out HB.out) | (with_reducible refine Kd.C_alloc ?_ _) | (with_reducible refine Kd.C_drewN ?_ _) | (with_reducible refine Kd.C_drew ?_))); (case side2 => exact HC0_1.out); rintro e w15 ⟨rfl, hb⟩; have n0_ := Aside0.mk (Zv BK355 hb); have n1_ := Aside0.mk (Yv HB hb); clear BK355; clear HB; have BK355 := n0_; have HB := n1_; clear n0_ n1_; (try clear hb); (try clear hb2); (try clear hk); (try clear hi))))
     go_meet
     case rel => exact ⟨_, (true), (by first | rfl | (simp; done) | (simp [*]; done)), H', ⟨by first | omega | exact Nat.le_refl _⟩, ⟨by (with_reducible repeat first | apply Zn | apply Zd | apply Za); exact BK355.out⟩, ⟨Yr HB⟩⟩
    ·
     rw [if_neg c13] at H
     have c13b0 : decide (1099511627776 < a2) = false := decide_eq_false c13
     clear c13
     replace H := Option.bind_eq_some_iff.mp H
     obtain ⟨t358, A160, H⟩ := H
     replace H : (palinodelaw19_SagaEnds.j0 k l1 a2 t356 (decide ((l1.length : Int) < t358)) a0_0 l0_1) = some r := H
     have A16 := Aside0.mk A160
     clear A160
     have H' := Aside0.mk H
     clear H
     obtain ⟨⟨hcz17_0, hcz17_1⟩, hfz17_0, hfz17_1⟩ := Zk2 BK355
     go_wp2_with (first | (go_at_call 26; (with_reducible refine (define_Right.calls k a0_0 _ _ l0_1 true _ ?side1 ?side2 A8.out).mono ?_); (case side1 => repeat (first | exact (Kd.C_below HR0_1.out HB.out) | (with_reducible refine Kd.C_alloc ?_ _) | (with_reducible refine Kd.C_drewN ?_ _) | (with_reducible refine Kd.C_drew ?_))); (case side2 => exact HC0_1.out); rintro e w18 ⟨rfl, hb⟩; have n0_ := Aside0.mk (Zv BK355 hb); have n1_ := Aside0.mk (Yv HB hb); clear BK355; clear HB; have BK355 := n0_; have HB := n1_; clear n0_ n1_; (try clear hb); (try clear hb2); (try clear hk); (try clear hi); obtain ⟨⟨hcz19_0, hcz19_1⟩, hfz19_0, hfz19_1⟩ := Zk2 BK355) | (go_at_call 30; (with_reducible refine (define_Tries.calls k a0_0 _ _ l0_1 t358 _ ?side1 ?side2 A16.out).mono ?_); (case side1 => repeat (first | exact (Kd.C_below HR0_1.out HB.out) | (with_reducible refine Kd.C_alloc ?_ _) | (with_reducible refine Kd.C_drewN ?_ _) | (with_reducible refine Kd.C_drew ?_))); (case side2 => exact HC0_1.out); rintro e w20 ⟨rfl, hb⟩; have n0_ := Aside0.mk (Zv BK355 hb); have n1_ := Aside0.mk (Yv HB hb); clear BK355; clear HB; have BK355 := n0_; have HB := n1_; clear n0_ n1_; (try clear hb); (try clear hb2); (try clear hk); (try clear hi)))
     repeat (go_quiet (first | (go_at_call 26; (with_reducible refine (define_Right.calls k a0_0 _ _ l0_1 true _ ?side1 ?side2 A8.out).mono ?_); (case side1 => repeat (first | exact (Kd.C_below HR0_1.out HB.out) | (with_reducible refine Kd.C_alloc ?_ _) | (with_reducible refine Kd.C_drewN ?_ _) | (with_reducible refine Kd.C_drew ?_))); (case side2 => exact HC0_1.out); rintro e w18 ⟨rfl, hb⟩; have n0_ := Aside0.mk (Zv BK355 hb); have n1_ := Aside0.mk (Yv HB hb); clear BK355; clear HB; have BK355 := n0_; have HB := n1_; clear n0_ n1_; (try clear hb); (try clear hb2); (try clear hk); (try clear hi); obtain ⟨⟨hcz19_0, hcz19_1⟩, hfz19_0, hfz19_1⟩ := Zk2 BK355) | (go_at_call 30; (with_reducible refine (define_Tries.calls k a0_0 _ _ l0_1 t358 _ ?side1 ?side2 A16.out).mono ?_); (case side1 => repeat (first | exact (Kd.C_below HR0_1.out HB.out) | (with_reducible refine Kd.C_alloc ?_ _) | (with_reducible refine Kd.C_drewN ?_ _) | (with_reducible refine Kd.C_drew ?_))); (case side2 => exact HC0_1.out); rintro e w20 ⟨rfl, hb⟩; have n0_ := Aside0.mk (Zv BK355 hb); have n1_ := Aside0.mk (Yv HB hb); clear BK355; clear HB; have BK355 := n0_; have HB := n1_; clear n0_ n1_; (try clear hb); (try clear hb2); (try clear hk); (try clear hi))); try go_wp2_with (first | (go_at_call 26; (with_reducible refine (define_Right.calls k a0_0 _ _ l0_1 true _ ?side1 ?side2 A8.out).mono ?_); (case side1 => repeat (first | exact (Kd.C_below HR0_1.out HB.out) | (with_reducible refine Kd.C_alloc ?_ _) | (with_reducible refine Kd.C_drewN ?_ _) | (with_reducible refine Kd.C_drew ?_))); (case side2 => exact HC0_1.out); rintro e w18 ⟨rfl, hb⟩; have n0_ := Aside0.mk (Zv BK355 hb); have n1_ := Aside0.mk (Yv HB hb); clear BK355; clear HB; have BK355 := n0_; have HB := n1_; clear n0_ n1_; (try clear hb); (try clear hb2); (try clear hk); (try clear hi); obtain ⟨⟨hcz19_0, hcz19_1⟩, hfz19_0, hfz19_1⟩ := Zk2 BK355) | (go_at_call 30; (with_reducible refine (define_Tries.calls k a0_0 _ _ l0_1 t358 _ ?side1 ?side2 A16.out).mono ?_); (case side1 => repeat (first | exact (Kd.C_below HR0_1.out HB.out) | (with_reducible refine Kd.C_alloc ?_ _) | (with_reducible refine Kd.C_drewN ?_ _) | (with_reducible refine Kd.C_drew ?_))); (case side2 => exact HC0_1.out); rintro e w20 ⟨rfl, hb⟩; have n0_ := Aside0.mk (Zv BK355 hb); have n1_ := Aside0.mk (Yv HB hb); clear BK355; clear HB; have BK355 := n0_; have HB := n1_; clear n0_ n1_; (try clear hb); (try clear hb2); (try clear hk); (try clear hi))))
     go_meet
     case rel => exact ⟨_, (decide ((l1.length : Int) < t358)), (by first | rfl | (simp; done) | (simp [*]; done)), H', ⟨by first | omega | exact Nat.le_refl _⟩, ⟨by (with_reducible repeat first | apply Zn | apply Zd | apply Za); exact BK355.out⟩, ⟨Yr HB⟩⟩
  ·
   replace c9 := Bool.eq_false_iff.mpr c9
   subst c9
   have H1 : (palinodelaw19_SagaEnds.j0 k l1 a2 t356 true a0_0 l0_1) = some r := by rw [if_neg (show ¬ (false = true) by decide)] at H; exact H
   clear H
   have H := H1
   clear H1
   have H' := Aside0.mk H
   clear H
   obtain ⟨⟨hcz21_0, hcz21_1⟩, hfz21_0, hfz21_1⟩ := Zk2 BK355
   go_wp2_with (first | (go_at_call 26; (with_reducible refine (define_Right.calls k a0_0 _ _ l0_1 false _ ?side1 ?side2 A8.out).mono ?_); (case side1 => repeat (first | exact (Kd.C_below HR0_1.out HB.out) | (with_reducible refine Kd.C_alloc ?_ _) | (with_reducible refine Kd.C_drewN ?_ _) | (with_reducible refine Kd.C_drew ?_))); (case side2 => exact HC0_1.out); rintro e w22 ⟨rfl, hb⟩; have n0_ := Aside0.mk (Zv BK355 hb); have n1_ := Aside0.mk (Yv HB hb); clear BK355; clear HB; have BK355 := n0_; have HB := n1_; clear n0_ n1_; (try clear hb); (try clear hb2); (try clear hk); (try clear hi)))
   repeat (go_quiet (first | (go_at_call 26; (with_reducible refine (define_Right.calls k a0_0 _ _ l0_1 false _ ?side1 ?side2 A8.out).mono ?_); (case side1 => repeat (first | exact (Kd.C_below HR0_1.out HB.out) | (with_reducible refine Kd.C_alloc ?_ _) | (with_reducible refine Kd.C_drewN ?_ _) | (with_reducible refine Kd.C_drew ?_))); (case side2 => exact HC0_1.out); rintro e w22 ⟨rfl, hb⟩; have n0_ := Aside0.mk (Zv BK355 hb); have n1_ := Aside0.mk (Yv HB hb); clear BK355; clear HB; have BK355 := n0_; have HB := n1_; clear n0_ n1_; (try clear hb); (try clear hb2); (try clear hk); (try clear hi))); try go_wp2_with (first | (go_at_call 26; (with_reducible refine (define_Right.calls k a0_0 _ _ l0_1 false _ ?side1 ?side2 A8.out).mono ?_); (case side1 => repeat (first | exact (Kd.C_below HR0_1.out HB.out) | (with_reducible refine Kd.C_alloc ?_ _) | (with_reducible refine Kd.C_drewN ?_ _) | (with_reducible refine Kd.C_drew ?_))); (case side2 => exact HC0_1.out); rintro e w22 ⟨rfl, hb⟩; have n0_ := Aside0.mk (Zv BK355 hb); have n1_ := Aside0.mk (Yv HB hb); clear BK355; clear HB; have BK355 := n0_; have HB := n1_; clear n0_ n1_; (try clear hb); (try clear hb2); (try clear hk); (try clear hi))))
   go_meet
   case rel => exact ⟨_, (true), (by first | rfl | (simp; done) | (simp [*]; done)), H', ⟨by first | omega | exact Nat.le_refl _⟩, ⟨by (with_reducible repeat first | apply Zn | apply Zd | apply Za); exact BK355.out⟩, ⟨Yr HB⟩⟩
 case rest =>
  clear HC5
  try clear c1
  try clear p2
  try clear c9
  try clear c10
  try clear c10b0
  try clear c13
  try clear c13b0
  try clear hcz11_0
  try clear hcz11_1
  try clear hcz14_0
  try clear hcz14_1
  try clear hcz17_0
  try clear hcz17_1
  try clear hcz19_0
  try clear hcz19_1
  try clear hcz21_0
  try clear hcz21_1
  try clear hfz11_0
  try clear hfz11_1
  try clear hfz14_0
  try clear hfz14_1
  try clear hfz17_0
  try clear hfz17_1
  try clear hfz19_0
  try clear hfz19_1
  try clear hfz21_0
  try clear hfz21_1
  obtain ⟨kq, x31_4, rfl, HA, HJ4, BK355, HB⟩ := hcut
  cases kq with
  | zero => exact absurd HA.out (by simp [palinodelaw19_SagaEnds.j0])
  | succ kj4 =>
   have H := HA.out
   clear HA
   simp only [palinodelaw19_SagaEnds.j0] at H
   by_cases c23 : x31_4 = true
   ·
    subst c23
    have H1 : (some t356) = some r := by rw [if_pos rfl] at H; exact H
    clear H
    have H := H1
    clear H1
    obtain rfl := Option.some.inj H
    go_wp2
    repeat (go_quiet (fail); try go_wp2)
    go_ret
    exact ⟨by first | rfl | (simp [errW_none, errW_some] <;> rfl) | (simp [*, errW_none, errW_some] <;> rfl), Yr HB⟩
   ·
    replace c23 := Bool.eq_false_iff.mpr c23
    subst c23
    have H1 : ((palinodelaw19_run.f kj4 a0_0 l0_1 l1 a2).bind fun bt359 => (if bt359.2.2.2.2.2.2.2.2 = true then ((saga_Live.f bt359.2.1 bt359.2.2.1 bt359.2.2.2.1 bt359.2.2.2.2.1 bt359.2.2.2.2.2.1 bt359.2.2.2.2.2.2.1 bt359.2.2.2.2.2.2.2.1).bind fun t371 => (if t371 = true then (palinodelaw19_SagaEnds.j1 kj4 l1 t356 bt359.1 true a0_0 l0_1 bt359.2.1 bt359.2.2.1 bt359.2.2.2.1 bt359.2.2.2.2.1 bt359.2.2.2.2.2.1 bt359.2.2.2.2.2.2.1 bt359.2.2.2.2.2.2.2.1) else ((define_Tries.f kj4 a0_0 l0_1).bind fun t372 => (palinodelaw19_SagaEnds.j1 kj4 l1 t356 bt359.1 (decide ((bt359.1.length : Int) > t372)) a0_0 l0_1 bt359.2.1 bt359.2.2.1 bt359.2.2.2.1 bt359.2.2.2.2.1 bt359.2.2.2.2.2.1 bt359.2.2.2.2.2.2.1 bt359.2.2.2.2.2.2.2.1)))) else (palinodelaw19_SagaEnds.j1 kj4 l1 t356 bt359.1 true a0_0 l0_1 bt359.2.1 bt359.2.2.1 bt359.2.2.2.1 bt359.2.2.2.2.1 bt359.2.2.2.2.2.1 bt359.2.2.2.2.2.2.1 bt359.2.2.2.2.2.2.2.1))) = some r := by rw [if_neg (show ¬ (false = true) by decide)] at H; exact H
    clear H
    have H := H1
    clear H1
    replace H := Option.bind_eq_some_iff.mp H
    obtain ⟨⟨t359, t362, t363, t364, t365, t366, t367, t368, t369⟩, A240, H⟩ := H
    replace H : (if t369 = true then ((saga_Live.f t362 t363 t364 t365 t366 t367 t368).bind fun t371 => (if t371 = true then (palinodelaw19_SagaEnds.j1 kj4 l1 t356 t359 true a0_0 l0_1 t362 t363 t364 t365 t366 t367 t368) else ((define_Tries.f kj4 a0_0 l0_1).bind fun t372 => (palinodelaw19_SagaEnds.j1 kj4 l1 t356 t359 (decide ((t359.length : Int) > t372)) a0_0 l0_1 t362 t363 t364 t365 t366 t367 t368)))) else (palinodelaw19_SagaEnds.j1 kj4 l1 t356 t359 true a0_0 l0_1 t362 t363 t364 t365 t366 t367 t368)) = some r := H
    have A24 := Aside0.mk A240
    clear A240
    have HC25 := Aside0.mk H
    clear H
    obtain ⟨⟨hcz26_0, hcz26_1⟩, hfz26_0, hfz26_1⟩ := Zk2 BK355
    go_upto_region 5 with (first | (go_at_call 25; (with_reducible refine (palinodelaw19_run.calls kj4 a0_0 _ _ l0_1 _ _ l1 a2 t359 t362 t363 t364 t365 t366 t367 t368 t369 _ ?side1 ?side2 ?side3 ?side4 A24.out).mono ?_); (case side1 => repeat (first | exact (Kd.C_below HR0_1.out HB.out) | (with_reducible refine Kd.C_alloc ?_ _) | (with_reducible refine Kd.C_drewN ?_ _) | (with_reducible refine Kd.C_drew ?_))); (case side2 => exact HC0_1.out); (case side3 => repeat (first | exact (Kd.C_below HR1.out HB.out) | (with_reducible refine Kd.C_alloc ?_ _) | (with_reducible refine Kd.C_drewN ?_ _) | (with_reducible refine Kd.C_drew ?_))); (case side4 => exact HC1.out); rintro e w27 ⟨v360, rfl, ho0, hb⟩; have n0_ := Aside0.mk (Kd.R_lower ho0 (below_size (Yr HB))); have n1_ := Aside0.mk (Zv BK355 hb); have n2_ := Aside0.mk (Yv HB hb); clear BK355; clear HB; have HO361 := n0_; have BK355 := n1_; have HB := n2_; clear n0_ n1_ n2_; (try clear hb); (try clear hb2); (try clear hk); (try clear hi); (try clear ho0)) | ((with_reducible refine gate_dst (N := 9) rfl ?_); (try (refine gate_guard (by rfl) ?_; dsimp only)); refine box_event ?hg (N := 9) ?hd (cs := #[.string (⟨#[]⟩ : ByteArray), .string (⟨#[]⟩ : ByteArray), .int .i64 0, .int .i64 0, .int .i64 0, .int .i64 0, .bool false]) (t := 26) ?hr ?_; (case hd => rfl); (case hg => rfl); (case hr => first | (go_simp; done) | (go_simp; rfl)); intro gb370 hg w28 hbox hb; have n0_ := Aside0.mk (Kd.R_below (by (with_reducible repeat (first | apply Kd.R_alloc | apply Kd.R_drewN | apply Kd.R_drew)); exact HO361.out) hb); have n1_ := Aside0.mk (Zv BK355 hb); have n2_ := Aside0.mk (Yv HB hb); have n3_ := Aside0.mk (hbox); have n4_ := Aside0.mk (Yg HB hg); have n5_ := Aside0.mk (Yg HB hg); have n6_ := Aside0.mk (Zl BK355 hg); have n7_ := Aside0.mk (Zg BK355 hg); clear HO361; clear BK355; clear HB; have HO361 := n0_; have BK355 := n1_; have HB := n2_; have BK370 := n3_; have GW370 := n4_; have GE370 := n5_; have NB355_370 := n6_; have NB370_355 := n7_; clear n0_ n1_ n2_ n3_ n4_ n5_ n6_ n7_; clear hb hbox hg; obtain ⟨hnb29, hnc29⟩ := Zo NB370_355; obtain ⟨⟨hcz30_0, hcz30_1, hcz30_2, hcz30_3, hcz30_4, hcz30_5, hcz30_6⟩, hfz30_0, hfz30_1, hfz30_2, hfz30_3, hfz30_4, hfz30_5, hfz30_6⟩ := Zk7 BK370))
    repeat (go_quiet (first | (go_at_call 25; (with_reducible refine (palinodelaw19_run.calls kj4 a0_0 _ _ l0_1 _ _ l1 a2 t359 t362 t363 t364 t365 t366 t367 t368 t369 _ ?side1 ?side2 ?side3 ?side4 A24.out).mono ?_); (case side1 => repeat (first | exact (Kd.C_below HR0_1.out HB.out) | (with_reducible refine Kd.C_alloc ?_ _) | (with_reducible refine Kd.C_drewN ?_ _) | (with_reducible refine Kd.C_drew ?_))); (case side2 => exact HC0_1.out); (case side3 => repeat (first | exact (Kd.C_below HR1.out HB.out) | (with_reducible refine Kd.C_alloc ?_ _) | (with_reducible refine Kd.C_drewN ?_ _) | (with_reducible refine Kd.C_drew ?_))); (case side4 => exact HC1.out); rintro e w27 ⟨v360, rfl, ho0, hb⟩; have n0_ := Aside0.mk (Kd.R_lower ho0 (below_size (Yr HB))); have n1_ := Aside0.mk (Zv BK355 hb); have n2_ := Aside0.mk (Yv HB hb); clear BK355; clear HB; have HO361 := n0_; have BK355 := n1_; have HB := n2_; clear n0_ n1_ n2_; (try clear hb); (try clear hb2); (try clear hk); (try clear hi); (try clear ho0)) | ((with_reducible refine gate_dst (N := 9) rfl ?_); (try (refine gate_guard (by rfl) ?_; dsimp only)); refine box_event ?hg (N := 9) ?hd (cs := #[.string (⟨#[]⟩ : ByteArray), .string (⟨#[]⟩ : ByteArray), .int .i64 0, .int .i64 0, .int .i64 0, .int .i64 0, .bool false]) (t := 26) ?hr ?_; (case hd => rfl); (case hg => rfl); (case hr => first | (go_simp; done) | (go_simp; rfl)); intro gb370 hg w28 hbox hb; have n0_ := Aside0.mk (Kd.R_below (by (with_reducible repeat (first | apply Kd.R_alloc | apply Kd.R_drewN | apply Kd.R_drew)); exact HO361.out) hb); have n1_ := Aside0.mk (Zv BK355 hb); have n2_ := Aside0.mk (Yv HB hb); have n3_ := Aside0.mk (hbox); have n4_ := Aside0.mk (Yg HB hg); have n5_ := Aside0.mk (Yg HB hg); have n6_ := Aside0.mk (Zl BK355 hg); have n7_ := Aside0.mk (Zg BK355 hg); clear HO361; clear BK355; clear HB; have HO361 := n0_; have BK355 := n1_; have HB := n2_; have BK370 := n3_; have GW370 := n4_; have GE370 := n5_; have NB355_370 := n6_; have NB370_355 := n7_; clear n0_ n1_ n2_ n3_ n4_ n5_ n6_ n7_; clear hb hbox hg; obtain ⟨hnb29, hnc29⟩ := Zo NB370_355; obtain ⟨⟨hcz30_0, hcz30_1, hcz30_2, hcz30_3, hcz30_4, hcz30_5, hcz30_6⟩, hfz30_0, hfz30_1, hfz30_2, hfz30_3, hfz30_4, hfz30_5, hfz30_6⟩ := Zk7 BK370)); go_upto_region 5 with (first | (go_at_call 25; (with_reducible refine (palinodelaw19_run.calls kj4 a0_0 _ _ l0_1 _ _ l1 a2 t359 t362 t363 t364 t365 t366 t367 t368 t369 _ ?side1 ?side2 ?side3 ?side4 A24.out).mono ?_); (case side1 => repeat (first | exact (Kd.C_below HR0_1.out HB.out) | (with_reducible refine Kd.C_alloc ?_ _) | (with_reducible refine Kd.C_drewN ?_ _) | (with_reducible refine Kd.C_drew ?_))); (case side2 => exact HC0_1.out); (case side3 => repeat (first | exact (Kd.C_below HR1.out HB.out) | (with_reducible refine Kd.C_alloc ?_ _) | (with_reducible refine Kd.C_drewN ?_ _) | (with_reducible refine Kd.C_drew ?_))); (case side4 => exact HC1.out); rintro e w27 ⟨v360, rfl, ho0, hb⟩; have n0_ := Aside0.mk (Kd.R_lower ho0 (below_size (Yr HB))); have n1_ := Aside0.mk (Zv BK355 hb); have n2_ := Aside0.mk (Yv HB hb); clear BK355; clear HB; have HO361 := n0_; have BK355 := n1_; have HB := n2_; clear n0_ n1_ n2_; (try clear hb); (try clear hb2); (try clear hk); (try clear hi); (try clear ho0)) | ((with_reducible refine gate_dst (N := 9) rfl ?_); (try (refine gate_guard (by rfl) ?_; dsimp only)); refine box_event ?hg (N := 9) ?hd (cs := #[.string (⟨#[]⟩ : ByteArray), .string (⟨#[]⟩ : ByteArray), .int .i64 0, .int .i64 0, .int .i64 0, .int .i64 0, .bool false]) (t := 26) ?hr ?_; (case hd => rfl); (case hg => rfl); (case hr => first | (go_simp; done) | (go_simp; rfl)); intro gb370 hg w28 hbox hb; have n0_ := Aside0.mk (Kd.R_below (by (with_reducible repeat (first | apply Kd.R_alloc | apply Kd.R_drewN | apply Kd.R_drew)); exact HO361.out) hb); have n1_ := Aside0.mk (Zv BK355 hb); have n2_ := Aside0.mk (Yv HB hb); have n3_ := Aside0.mk (hbox); have n4_ := Aside0.mk (Yg HB hg); have n5_ := Aside0.mk (Yg HB hg); have n6_ := Aside0.mk (Zl BK355 hg); have n7_ := Aside0.mk (Zg BK355 hg); clear HO361; clear BK355; clear HB; have HO361 := n0_; have BK355 := n1_; have HB := n2_; have BK370 := n3_; have GW370 := n4_; have GE370 := n5_; have NB355_370 := n6_; have NB370_355 := n7_; clear n0_ n1_ n2_ n3_ n4_ n5_ n6_ n7_; clear hb hbox hg; obtain ⟨hnb29, hnc29⟩ := Zo NB370_355; obtain ⟨⟨hcz30_0, hcz30_1, hcz30_2, hcz30_3, hcz30_4, hcz30_5, hcz30_6⟩, hfz30_0, hfz30_1, hfz30_2, hfz30_3, hfz30_4, hfz30_5, hfz30_6⟩ := Zk7 BK370)))
    (try simp only [Act.put, List.setIfInBounds_toArray, List.set_cons_zero, List.set_cons_succ])
    go_cut [53] (fun v53 wc => ∃ (kq : Nat) (x53_24 : Bool), v53 = .bool x53_24 ∧ Aside0 (palinodelaw19_SagaEnds.j1 kq l1 t356 t359 x53_24 a0_0 l0_1 t362 t363 t364 t365 t366 t367 t368 = some r) ∧ Aside0 (kq ≤ kj4) ∧ Aside0 (Kd.R k35 35 wc w.heap.size (fun _ => True) v360 t359) ∧ Aside0 (wc.heap[gb355]? = some (.cells #[.string a0_0, (.slice A0_1 l0_1.length c0_1)] 24 (0, 0))) ∧ Aside0 (wc.heap[gb370]? = some (.cells #[.string t362, .string t363, .int .i64 t364, .int .i64 t365, .int .i64 t366, .int .i64 t367, .bool t368] 26 (0, 0))) ∧ Aside0 (Below w.heap.size w wc))
    case first =>
     have H := HC25.out
     clear HC25
     by_cases c31 : t369 = true
     ·
      subst c31
      have H1 : ((saga_Live.f t362 t363 t364 t365 t366 t367 t368).bind fun t371 => (if t371 = true then (palinodelaw19_SagaEnds.j1 kj4 l1 t356 t359 true a0_0 l0_1 t362 t363 t364 t365 t366 t367 t368) else ((define_Tries.f kj4 a0_0 l0_1).bind fun t372 => (palinodelaw19_SagaEnds.j1 kj4 l1 t356 t359 (decide ((t359.length : Int) > t372)) a0_0 l0_1 t362 t363 t364 t365 t366 t367 t368)))) = some r := by rw [if_pos rfl] at H; exact H
      clear H
      have H := H1
      clear H1
      replace H := Option.bind_eq_some_iff.mp H
      obtain ⟨t371, A320, H⟩ := H
      replace H : (if t371 = true then (palinodelaw19_SagaEnds.j1 kj4 l1 t356 t359 true a0_0 l0_1 t362 t363 t364 t365 t366 t367 t368) else ((define_Tries.f kj4 a0_0 l0_1).bind fun t372 => (palinodelaw19_SagaEnds.j1 kj4 l1 t356 t359 (decide ((t359.length : Int) > t372)) a0_0 l0_1 t362 t363 t364 t365 t366 t367 t368))) = some r := H
      have A32 := Aside0.mk A320
      clear A320
      by_cases c33 : t371 = true
      ·
       subst c33
       have H1 : (palinodelaw19_SagaEnds.j1 kj4 l1 t356 t359 true a0_0 l0_1 t362 t363 t364 t365 t366 t367 t368) = some r := by rw [if_pos rfl] at H; exact H
       clear H
       have H := H1
       clear H1
       have H' := Aside0.mk H
       clear H
       obtain ⟨hnb34, hnc34⟩ := Zo NB370_355
       obtain ⟨⟨hcz35_0, hcz35_1, hcz35_2, hcz35_3, hcz35_4, hcz35_5, hcz35_6⟩, hfz35_0, hfz35_1, hfz35_2, hfz35_3, hfz35_4, hfz35_5, hfz35_6⟩ := Zk7 BK370
       go_wp2_with (first | (go_at_call 20; (with_reducible refine (saga_Live.calls t362 t363 t364 t365 t366 t367 t368 true _ A32.out).mono ?_); rintro e w36 ⟨rfl, hb⟩; have n0_ := Aside0.mk (Kd.R_below (by (with_reducible repeat (first | apply Kd.R_alloc | apply Kd.R_drewN | apply Kd.R_drew)); exact (Kd.R_mono (Kd.R_far (p := ⟨gb370, 6, none⟩) (Kd.R_far (p := ⟨gb370, 5, none⟩) (Kd.R_far (p := ⟨gb370, 4, none⟩) (Kd.R_far (p := ⟨gb370, 3, none⟩) (Kd.R_far (p := ⟨gb370, 2, none⟩) (Kd.R_far (p := ⟨gb370, 1, none⟩) (Kd.R_far (p := ⟨gb370, 0, none⟩) (Kd.R_types HO361.out BK370.out (by decide)) (fun _ hk => hk.2) (.string t362)) (fun _ hk => hk.2) (.string t363)) (fun _ hk => hk.2) (.int .i64 t364)) (fun _ hk => hk.2) (.int .i64 t365)) (fun _ hk => hk.2) (.int .i64 t366)) (fun _ hk => hk.2) (.int .i64 t367)) (fun _ hk => hk.2) (.bool t368)) (fun _ h_ => h_.1))) hb); have n1_ := Aside0.mk (Zv BK355 hb); have n2_ := Aside0.mk (Zb (g := gb370) (o := .cells #[.string t362, .string t363, .int .i64 t364, .int .i64 t365, .int .i64 t366, .int .i64 t367, .bool t368] 26 (0, 0)) (by (with_reducible repeat first | apply Zn | apply Zd | apply Za); refine Zp (cs := #[.string t362, .string t363, .int .i64 t364, .int .i64 t365, .int .i64 t366, .int .i64 t367, .bool false]) ?_ 6 _ rfl; (with_reducible repeat first | apply Zn | apply Zd | apply Za); refine Zp (cs := #[.string t362, .string t363, .int .i64 t364, .int .i64 t365, .int .i64 t366, .int .i64 0, .bool false]) ?_ 5 _ rfl; (with_reducible repeat first | apply Zn | apply Zd | apply Za); refine Zp (cs := #[.string t362, .string t363, .int .i64 t364, .int .i64 t365, .int .i64 0, .int .i64 0, .bool false]) ?_ 4 _ rfl; (with_reducible repeat first | apply Zn | apply Zd | apply Za); refine Zp (cs := #[.string t362, .string t363, .int .i64 t364, .int .i64 0, .int .i64 0, .int .i64 0, .bool false]) ?_ 3 _ rfl; (with_reducible repeat first | apply Zn | apply Zd | apply Za); refine Zp (cs := #[.string t362, .string t363, .int .i64 0, .int .i64 0, .int .i64 0, .int .i64 0, .bool false]) ?_ 2 _ rfl; (with_reducible repeat first | apply Zn | apply Zd | apply Za); refine Zp (cs := #[.string t362, .string (⟨#[]⟩ : ByteArray), .int .i64 0, .int .i64 0, .int .i64 0, .int .i64 0, .bool false]) ?_ 1 _ rfl; (with_reducible repeat first | apply Zn | apply Zd | apply Za); refine Zp (cs := #[.string (⟨#[]⟩ : ByteArray), .string (⟨#[]⟩ : ByteArray), .int .i64 0, .int .i64 0, .int .i64 0, .int .i64 0, .bool false]) ?_ 0 _ rfl; (with_reducible repeat first | apply Zn | apply Zd | apply Za); exact BK370.out) hb); have n3_ := Aside0.mk (Yv HB hb); clear HO361; clear BK355; clear BK370; clear HB; have HO361 := n0_; have BK355 := n1_; have BK370 := n2_; have HB := n3_; clear n0_ n1_ n2_ n3_; (try clear hb); (try clear hb2); (try clear hk); (try clear hi)))
       repeat (go_quiet (first | (go_at_call 20; (with_reducible refine (saga_Live.calls t362 t363 t364 t365 t366 t367 t368 true _ A32.out).mono ?_); rintro e w36 ⟨rfl, hb⟩; have n0_ := Aside0.mk (Kd.R_below (by (with_reducible repeat (first | apply Kd.R_alloc | apply Kd.R_drewN | apply Kd.R_drew)); exact (Kd.R_mono (Kd.R_far (p := ⟨gb370, 6, none⟩) (Kd.R_far (p := ⟨gb370, 5, none⟩) (Kd.R_far (p := ⟨gb370, 4, none⟩) (Kd.R_far (p := ⟨gb370, 3, none⟩) (Kd.R_far (p := ⟨gb370, 2, none⟩) (Kd.R_far (p := ⟨gb370, 1, none⟩) (Kd.R_far (p := ⟨gb370, 0, none⟩) (Kd.R_types HO361.out BK370.out (by decide)) (fun _ hk => hk.2) (.string t362)) (fun _ hk => hk.2) (.string t363)) (fun _ hk => hk.2) (.int .i64 t364)) (fun _ hk => hk.2) (.int .i64 t365)) (fun _ hk => hk.2) (.int .i64 t366)) (fun _ hk => hk.2) (.int .i64 t367)) (fun _ hk => hk.2) (.bool t368)) (fun _ h_ => h_.1))) hb); have n1_ := Aside0.mk (Zv BK355 hb); have n2_ := Aside0.mk (Zb (g := gb370) (o := .cells #[.string t362, .string t363, .int .i64 t364, .int .i64 t365, .int .i64 t366, .int .i64 t367, .bool t368] 26 (0, 0)) (by (with_reducible repeat first | apply Zn | apply Zd | apply Za); refine Zp (cs := #[.string t362, .string t363, .int .i64 t364, .int .i64 t365, .int .i64 t366, .int .i64 t367, .bool false]) ?_ 6 _ rfl; (with_reducible repeat first | apply Zn | apply Zd | apply Za); refine Zp (cs := #[.string t362, .string t363, .int .i64 t364, .int .i64 t365, .int .i64 t366, .int .i64 0, .bool false]) ?_ 5 _ rfl; (with_reducible repeat first | apply Zn | apply Zd | apply Za); refine Zp (cs := #[.string t362, .string t363, .int .i64 t364, .int .i64 t365, .int .i64 0, .int .i64 0, .bool false]) ?_ 4 _ rfl; (with_reducible repeat first | apply Zn | apply Zd | apply Za); refine Zp (cs := #[.string t362, .string t363, .int .i64 t364, .int .i64 0, .int .i64 0, .int .i64 0, .bool false]) ?_ 3 _ rfl; (with_reducible repeat first | apply Zn | apply Zd | apply Za); refine Zp (cs := #[.string t362, .string t363, .int .i64 0, .int .i64 0, .int .i64 0, .int .i64 0, .bool false]) ?_ 2 _ rfl; (with_reducible repeat first | apply Zn | apply Zd | apply Za); refine Zp (cs := #[.string t362, .string (⟨#[]⟩ : ByteArray), .int .i64 0, .int .i64 0, .int .i64 0, .int .i64 0, .bool false]) ?_ 1 _ rfl; (with_reducible repeat first | apply Zn | apply Zd | apply Za); refine Zp (cs := #[.string (⟨#[]⟩ : ByteArray), .string (⟨#[]⟩ : ByteArray), .int .i64 0, .int .i64 0, .int .i64 0, .int .i64 0, .bool false]) ?_ 0 _ rfl; (with_reducible repeat first | apply Zn | apply Zd | apply Za); exact BK370.out) hb); have n3_ := Aside0.mk (Yv HB hb); clear HO361; clear BK355; clear BK370; clear HB; have HO361 := n0_; have BK355 := n1_; have BK370 := n2_; have HB := n3_; clear n0_ n1_ n2_ n3_; (try clear hb); (try clear hb2); (try clear hk); (try clear hi))); try go_wp2_with (first | (go_at_call 20; (with_reducible refine (saga_Live.calls t362 t363 t364 t365 t366 t367 t368 true _ A32.out).mono ?_); rintro e w36 ⟨rfl, hb⟩; have n0_ := Aside0.mk (Kd.R_below (by (with_reducible repeat (first | apply Kd.R_alloc | apply Kd.R_drewN | apply Kd.R_drew)); exact (Kd.R_mono (Kd.R_far (p := ⟨gb370, 6, none⟩) (Kd.R_far (p := ⟨gb370, 5, none⟩) (Kd.R_far (p := ⟨gb370, 4, none⟩) (Kd.R_far (p := ⟨gb370, 3, none⟩) (Kd.R_far (p := ⟨gb370, 2, none⟩) (Kd.R_far (p := ⟨gb370, 1, none⟩) (Kd.R_far (p := ⟨gb370, 0, none⟩) (Kd.R_types HO361.out BK370.out (by decide)) (fun _ hk => hk.2) (.string t362)) (fun _ hk => hk.2) (.string t363)) (fun _ hk => hk.2) (.int .i64 t364)) (fun _ hk => hk.2) (.int .i64 t365)) (fun _ hk => hk.2) (.int .i64 t366)) (fun _ hk => hk.2) (.int .i64 t367)) (fun _ hk => hk.2) (.bool t368)) (fun _ h_ => h_.1))) hb); have n1_ := Aside0.mk (Zv BK355 hb); have n2_ := Aside0.mk (Zb (g := gb370) (o := .cells #[.string t362, .string t363, .int .i64 t364, .int .i64 t365, .int .i64 t366, .int .i64 t367, .bool t368] 26 (0, 0)) (by (with_reducible repeat first | apply Zn | apply Zd | apply Za); refine Zp (cs := #[.string t362, .string t363, .int .i64 t364, .int .i64 t365, .int .i64 t366, .int .i64 t367, .bool false]) ?_ 6 _ rfl; (with_reducible repeat first | apply Zn | apply Zd | apply Za); refine Zp (cs := #[.string t362, .string t363, .int .i64 t364, .int .i64 t365, .int .i64 t366, .int .i64 0, .bool false]) ?_ 5 _ rfl; (with_reducible repeat first | apply Zn | apply Zd | apply Za); refine Zp (cs := #[.string t362, .string t363, .int .i64 t364, .int .i64 t365, .int .i64 0, .int .i64 0, .bool false]) ?_ 4 _ rfl; (with_reducible repeat first | apply Zn | apply Zd | apply Za); refine Zp (cs := #[.string t362, .string t363, .int .i64 t364, .int .i64 0, .int .i64 0, .int .i64 0, .bool false]) ?_ 3 _ rfl; (with_reducible repeat first | apply Zn | apply Zd | apply Za); refine Zp (cs := #[.string t362, .string t363, .int .i64 0, .int .i64 0, .int .i64 0, .int .i64 0, .bool false]) ?_ 2 _ rfl; (with_reducible repeat first | apply Zn | apply Zd | apply Za); refine Zp (cs := #[.string t362, .string (⟨#[]⟩ : ByteArray), .int .i64 0, .int .i64 0, .int .i64 0, .int .i64 0, .bool false]) ?_ 1 _ rfl; (with_reducible repeat first | apply Zn | apply Zd | apply Za); refine Zp (cs := #[.string (⟨#[]⟩ : ByteArray), .string (⟨#[]⟩ : ByteArray), .int .i64 0, .int .i64 0, .int .i64 0, .int .i64 0, .bool false]) ?_ 0 _ rfl; (with_reducible repeat first | apply Zn | apply Zd | apply Za); exact BK370.out) hb); have n3_ := Aside0.mk (Yv HB hb); clear HO361; clear BK355; clear BK370; clear HB; have HO361 := n0_; have BK355 := n1_; have BK370 := n2_; have HB := n3_; clear n0_ n1_ n2_ n3_; (try clear hb); (try clear hb2); (try clear hk); (try clear hi))))
       go_meet
       case rel => exact ⟨_, (true), (by first | rfl | (simp; done) | (simp [*]; done)), H', ⟨by have := HJ4.out; first | omega | exact Nat.le_refl _⟩, ⟨by (with_reducible repeat (first | apply Kd.R_alloc | apply Kd.R_drewN | apply Kd.R_drew)); exact HO361.out⟩, ⟨by (with_reducible repeat first | apply Zn | apply Zd | apply Za); exact BK355.out⟩, ⟨by (with_reducible repeat first | apply Zn | apply Zd | apply Za); exact BK370.out⟩, ⟨Yr HB⟩⟩
      ·
       replace c33 := Bool.eq_false_iff.mpr c33
       subst c33
       have H1 : ((define_Tries.f kj4 a0_0 l0_1).bind fun t372 => (palinodelaw19_SagaEnds.j1 kj4 l1 t356 t359 (decide ((t359.length : Int) > t372)) a0_0 l0_1 t362 t363 t364 t365 t366 t367 t368)) = some r := by rw [if_neg (show ¬ (false = true) by decide)] at H; exact H
       clear H
       have H := H1
       clear H1
       replace H := Option.bind_eq_some_iff.mp H
       obtain ⟨t372, A370, H⟩ := H
       replace H : (palinodelaw19_SagaEnds.j1 kj4 l1 t356 t359 (decide ((t359.length : Int) > t372)) a0_0 l0_1 t362 t363 t364 t365 t366 t367 t368) = some r := H
       have A37 := Aside0.mk A370
       clear A370
       have H' := Aside0.mk H
       clear H
       obtain ⟨hnb38, hnc38⟩ := Zo NB370_355
       obtain ⟨⟨hcz39_0, hcz39_1, hcz39_2, hcz39_3, hcz39_4, hcz39_5, hcz39_6⟩, hfz39_0, hfz39_1, hfz39_2, hfz39_3, hfz39_4, hfz39_5, hfz39_6⟩ := Zk7 BK370
       go_wp2_with (first | (go_at_call 20; (with_reducible refine (saga_Live.calls t362 t363 t364 t365 t366 t367 t368 false _ A32.out).mono ?_); rintro e w40 ⟨rfl, hb⟩; have n0_ := Aside0.mk (Kd.R_below (by (with_reducible repeat (first | apply Kd.R_alloc | apply Kd.R_drewN | apply Kd.R_drew)); exact (Kd.R_mono (Kd.R_far (p := ⟨gb370, 6, none⟩) (Kd.R_far (p := ⟨gb370, 5, none⟩) (Kd.R_far (p := ⟨gb370, 4, none⟩) (Kd.R_far (p := ⟨gb370, 3, none⟩) (Kd.R_far (p := ⟨gb370, 2, none⟩) (Kd.R_far (p := ⟨gb370, 1, none⟩) (Kd.R_far (p := ⟨gb370, 0, none⟩) (Kd.R_types HO361.out BK370.out (by decide)) (fun _ hk => hk.2) (.string t362)) (fun _ hk => hk.2) (.string t363)) (fun _ hk => hk.2) (.int .i64 t364)) (fun _ hk => hk.2) (.int .i64 t365)) (fun _ hk => hk.2) (.int .i64 t366)) (fun _ hk => hk.2) (.int .i64 t367)) (fun _ hk => hk.2) (.bool t368)) (fun _ h_ => h_.1))) hb); have n1_ := Aside0.mk (Zv BK355 hb); have n2_ := Aside0.mk (Zb (g := gb370) (o := .cells #[.string t362, .string t363, .int .i64 t364, .int .i64 t365, .int .i64 t366, .int .i64 t367, .bool t368] 26 (0, 0)) (by (with_reducible repeat first | apply Zn | apply Zd | apply Za); refine Zp (cs := #[.string t362, .string t363, .int .i64 t364, .int .i64 t365, .int .i64 t366, .int .i64 t367, .bool false]) ?_ 6 _ rfl; (with_reducible repeat first | apply Zn | apply Zd | apply Za); refine Zp (cs := #[.string t362, .string t363, .int .i64 t364, .int .i64 t365, .int .i64 t366, .int .i64 0, .bool false]) ?_ 5 _ rfl; (with_reducible repeat first | apply Zn | apply Zd | apply Za); refine Zp (cs := #[.string t362, .string t363, .int .i64 t364, .int .i64 t365, .int .i64 0, .int .i64 0, .bool false]) ?_ 4 _ rfl; (with_reducible repeat first | apply Zn | apply Zd | apply Za); refine Zp (cs := #[.string t362, .string t363, .int .i64 t364, .int .i64 0, .int .i64 0, .int .i64 0, .bool false]) ?_ 3 _ rfl; (with_reducible repeat first | apply Zn | apply Zd | apply Za); refine Zp (cs := #[.string t362, .string t363, .int .i64 0, .int .i64 0, .int .i64 0, .int .i64 0, .bool false]) ?_ 2 _ rfl; (with_reducible repeat first | apply Zn | apply Zd | apply Za); refine Zp (cs := #[.string t362, .string (⟨#[]⟩ : ByteArray), .int .i64 0, .int .i64 0, .int .i64 0, .int .i64 0, .bool false]) ?_ 1 _ rfl; (with_reducible repeat first | apply Zn | apply Zd | apply Za); refine Zp (cs := #[.string (⟨#[]⟩ : ByteArray), .string (⟨#[]⟩ : ByteArray), .int .i64 0, .int .i64 0, .int .i64 0, .int .i64 0, .bool false]) ?_ 0 _ rfl; (with_reducible repeat first | apply Zn | apply Zd | apply Za); exact BK370.out) hb); have n3_ := Aside0.mk (Yv HB hb); clear HO361; clear BK355; clear BK370; clear HB; have HO361 := n0_; have BK355 := n1_; have BK370 := n2_; have HB := n3_; clear n0_ n1_ n2_ n3_; (try clear hb); (try clear hb2); (try clear hk); (try clear hi); obtain ⟨Ao41, co41, eo41⟩ := Kd.R_slice HO361.out; subst eo41; obtain ⟨⟨hcz42_0, hcz42_1⟩, hfz42_0, hfz42_1⟩ := Zk2 BK355) | (go_at_call 30; (with_reducible refine (define_Tries.calls kj4 a0_0 _ _ l0_1 t372 _ ?side1 ?side2 A37.out).mono ?_); (case side1 => repeat (first | exact (Kd.C_below HR0_1.out HB.out) | (with_reducible refine Kd.C_alloc ?_ _) | (with_reducible refine Kd.C_drewN ?_ _) | (with_reducible refine Kd.C_drew ?_))); (case side2 => exact HC0_1.out); rintro e w43 ⟨rfl, hb⟩; have n0_ := Aside0.mk (Kd.R_below (by (with_reducible repeat (first | apply Kd.R_alloc | apply Kd.R_drewN | apply Kd.R_drew)); exact HO361.out) hb); have n1_ := Aside0.mk (Zv BK355 hb); have n2_ := Aside0.mk (Zv BK370 hb); have n3_ := Aside0.mk (Yv HB hb); clear HO361; clear BK355; clear BK370; clear HB; have HO361 := n0_; have BK355 := n1_; have BK370 := n2_; have HB := n3_; clear n0_ n1_ n2_ n3_; (try clear hb); (try clear hb2); (try clear hk); (try clear hi)))
       repeat (go_quiet (first | (go_at_call 20; (with_reducible refine (saga_Live.calls t362 t363 t364 t365 t366 t367 t368 false _ A32.out).mono ?_); rintro e w40 ⟨rfl, hb⟩; have n0_ := Aside0.mk (Kd.R_below (by (with_reducible repeat (first | apply Kd.R_alloc | apply Kd.R_drewN | apply Kd.R_drew)); exact (Kd.R_mono (Kd.R_far (p := ⟨gb370, 6, none⟩) (Kd.R_far (p := ⟨gb370, 5, none⟩) (Kd.R_far (p := ⟨gb370, 4, none⟩) (Kd.R_far (p := ⟨gb370, 3, none⟩) (Kd.R_far (p := ⟨gb370, 2, none⟩) (Kd.R_far (p := ⟨gb370, 1, none⟩) (Kd.R_far (p := ⟨gb370, 0, none⟩) (Kd.R_types HO361.out BK370.out (by decide)) (fun _ hk => hk.2) (.string t362)) (fun _ hk => hk.2) (.string t363)) (fun _ hk => hk.2) (.int .i64 t364)) (fun _ hk => hk.2) (.int .i64 t365)) (fun _ hk => hk.2) (.int .i64 t366)) (fun _ hk => hk.2) (.int .i64 t367)) (fun _ hk => hk.2) (.bool t368)) (fun _ h_ => h_.1))) hb); have n1_ := Aside0.mk (Zv BK355 hb); have n2_ := Aside0.mk (Zb (g := gb370) (o := .cells #[.string t362, .string t363, .int .i64 t364, .int .i64 t365, .int .i64 t366, .int .i64 t367, .bool t368] 26 (0, 0)) (by (with_reducible repeat first | apply Zn | apply Zd | apply Za); refine Zp (cs := #[.string t362, .string t363, .int .i64 t364, .int .i64 t365, .int .i64 t366, .int .i64 t367, .bool false]) ?_ 6 _ rfl; (with_reducible repeat first | apply Zn | apply Zd | apply Za); refine Zp (cs := #[.string t362, .string t363, .int .i64 t364, .int .i64 t365, .int .i64 t366, .int .i64 0, .bool false]) ?_ 5 _ rfl; (with_reducible repeat first | apply Zn | apply Zd | apply Za); refine Zp (cs := #[.string t362, .string t363, .int .i64 t364, .int .i64 t365, .int .i64 0, .int .i64 0, .bool false]) ?_ 4 _ rfl; (with_reducible repeat first | apply Zn | apply Zd | apply Za); refine Zp (cs := #[.string t362, .string t363, .int .i64 t364, .int .i64 0, .int .i64 0, .int .i64 0, .bool false]) ?_ 3 _ rfl; (with_reducible repeat first | apply Zn | apply Zd | apply Za); refine Zp (cs := #[.string t362, .string t363, .int .i64 0, .int .i64 0, .int .i64 0, .int .i64 0, .bool false]) ?_ 2 _ rfl; (with_reducible repeat first | apply Zn | apply Zd | apply Za); refine Zp (cs := #[.string t362, .string (⟨#[]⟩ : ByteArray), .int .i64 0, .int .i64 0, .int .i64 0, .int .i64 0, .bool false]) ?_ 1 _ rfl; (with_reducible repeat first | apply Zn | apply Zd | apply Za); refine Zp (cs := #[.string (⟨#[]⟩ : ByteArray), .string (⟨#[]⟩ : ByteArray), .int .i64 0, .int .i64 0, .int .i64 0, .int .i64 0, .bool false]) ?_ 0 _ rfl; (with_reducible repeat first | apply Zn | apply Zd | apply Za); exact BK370.out) hb); have n3_ := Aside0.mk (Yv HB hb); clear HO361; clear BK355; clear BK370; clear HB; have HO361 := n0_; have BK355 := n1_; have BK370 := n2_; have HB := n3_; clear n0_ n1_ n2_ n3_; (try clear hb); (try clear hb2); (try clear hk); (try clear hi); obtain ⟨Ao41, co41, eo41⟩ := Kd.R_slice HO361.out; subst eo41; obtain ⟨⟨hcz42_0, hcz42_1⟩, hfz42_0, hfz42_1⟩ := Zk2 BK355) | (go_at_call 30; (with_reducible refine (define_Tries.calls kj4 a0_0 _ _ l0_1 t372 _ ?side1 ?side2 A37.out).mono ?_); (case side1 => repeat (first | exact (Kd.C_below HR0_1.out HB.out) | (with_reducible refine Kd.C_alloc ?_ _) | (with_reducible refine Kd.C_drewN ?_ _) | (with_reducible refine Kd.C_drew ?_))); (case side2 => exact HC0_1.out); rintro e w43 ⟨rfl, hb⟩; have n0_ := Aside0.mk (Kd.R_below (by (with_reducible repeat (first | apply Kd.R_alloc | apply Kd.R_drewN | apply Kd.R_drew)); exact HO361.out) hb); have n1_ := Aside0.mk (Zv BK355 hb); have n2_ := Aside0.mk (Zv BK370 hb); have n3_ := Aside0.mk (Yv HB hb); clear HO361; clear BK355; clear BK370; clear HB; have HO361 := n0_; have BK355 := n1_; have BK370 := n2_; have HB := n3_; clear n0_ n1_ n2_ n3_; (try clear hb); (try clear hb2); (try clear hk); (try clear hi))); try go_wp2_with (first | (go_at_call 20; (with_reducible refine (saga_Live.calls t362 t363 t364 t365 t366 t367 t368 false _ A32.out).mono ?_); rintro e w40 ⟨rfl, hb⟩; have n0_ := Aside0.mk (Kd.R_below (by (with_reducible repeat (first | apply Kd.R_alloc | apply Kd.R_drewN | apply Kd.R_drew)); exact (Kd.R_mono (Kd.R_far (p := ⟨gb370, 6, none⟩) (Kd.R_far (p := ⟨gb370, 5, none⟩) (Kd.R_far (p := ⟨gb370, 4, none⟩) (Kd.R_far (p := ⟨gb370, 3, none⟩) (Kd.R_far (p := ⟨gb370, 2, none⟩) (Kd.R_far (p := ⟨gb370, 1, none⟩) (Kd.R_far (p := ⟨gb370, 0, none⟩) (Kd.R_types HO361.out BK370.out (by decide)) (fun _ hk => hk.2) (.string t362)) (fun _ hk => hk.2) (.string t363)) (fun _ hk => hk.2) (.int .i64 t364)) (fun _ hk => hk.2) (.int .i64 t365)) (fun _ hk => hk.2) (.int .i64 t366)) (fun _ hk => hk.2) (.int .i64 t367)) (fun _ hk => hk.2) (.bool t368)) (fun _ h_ => h_.1))) hb); have n1_ := Aside0.mk (Zv BK355 hb); have n2_ := Aside0.mk (Zb (g := gb370) (o := .cells #[.string t362, .string t363, .int .i64 t364, .int .i64 t365, .int .i64 t366, .int .i64 t367, .bool t368] 26 (0, 0)) (by (with_reducible repeat first | apply Zn | apply Zd | apply Za); refine Zp (cs := #[.string t362, .string t363, .int .i64 t364, .int .i64 t365, .int .i64 t366, .int .i64 t367, .bool false]) ?_ 6 _ rfl; (with_reducible repeat first | apply Zn | apply Zd | apply Za); refine Zp (cs := #[.string t362, .string t363, .int .i64 t364, .int .i64 t365, .int .i64 t366, .int .i64 0, .bool false]) ?_ 5 _ rfl; (with_reducible repeat first | apply Zn | apply Zd | apply Za); refine Zp (cs := #[.string t362, .string t363, .int .i64 t364, .int .i64 t365, .int .i64 0, .int .i64 0, .bool false]) ?_ 4 _ rfl; (with_reducible repeat first | apply Zn | apply Zd | apply Za); refine Zp (cs := #[.string t362, .string t363, .int .i64 t364, .int .i64 0, .int .i64 0, .int .i64 0, .bool false]) ?_ 3 _ rfl; (with_reducible repeat first | apply Zn | apply Zd | apply Za); refine Zp (cs := #[.string t362, .string t363, .int .i64 0, .int .i64 0, .int .i64 0, .int .i64 0, .bool false]) ?_ 2 _ rfl; (with_reducible repeat first | apply Zn | apply Zd | apply Za); refine Zp (cs := #[.string t362, .string (⟨#[]⟩ : ByteArray), .int .i64 0, .int .i64 0, .int .i64 0, .int .i64 0, .bool false]) ?_ 1 _ rfl; (with_reducible repeat first | apply Zn | apply Zd | apply Za); refine Zp (cs := #[.string (⟨#[]⟩ : ByteArray), .string (⟨#[]⟩ : ByteArray), .int .i64 0, .int .i64 0, .int .i64 0, .int .i64 0, .bool false]) ?_ 0 _ rfl; (with_reducible repeat first | apply Zn | apply Zd | apply Za); exact BK370.out) hb); have n3_ := Aside0.mk (Yv HB hb); clear HO361; clear BK355; clear BK370; clear HB; have HO361 := n0_; have BK355 := n1_; have BK370 := n2_; have HB := n3_; clear n0_ n1_ n2_ n3_; (try clear hb); (try clear hb2); (try clear hk); (try clear hi); obtain ⟨Ao41, co41, eo41⟩ := Kd.R_slice HO361.out; subst eo41; obtain ⟨⟨hcz42_0, hcz42_1⟩, hfz42_0, hfz42_1⟩ := Zk2 BK355) | (go_at_call 30; (with_reducible refine (define_Tries.calls kj4 a0_0 _ _ l0_1 t372 _ ?side1 ?side2 A37.out).mono ?_); (case side1 => repeat (first | exact (Kd.C_below HR0_1.out HB.out) | (with_reducible refine Kd.C_alloc ?_ _) | (with_reducible refine Kd.C_drewN ?_ _) | (with_reducible refine Kd.C_drew ?_))); (case side2 => exact HC0_1.out); rintro e w43 ⟨rfl, hb⟩; have n0_ := Aside0.mk (Kd.R_below (by (with_reducible repeat (first | apply Kd.R_alloc | apply Kd.R_drewN | apply Kd.R_drew)); exact HO361.out) hb); have n1_ := Aside0.mk (Zv BK355 hb); have n2_ := Aside0.mk (Zv BK370 hb); have n3_ := Aside0.mk (Yv HB hb); clear HO361; clear BK355; clear BK370; clear HB; have HO361 := n0_; have BK355 := n1_; have BK370 := n2_; have HB := n3_; clear n0_ n1_ n2_ n3_; (try clear hb); (try clear hb2); (try clear hk); (try clear hi))))
       go_meet
       case rel => exact ⟨_, (decide ((t359.length : Int) > t372)), (by first | rfl | (simp; done) | (simp [*]; done)), H', ⟨by have := HJ4.out; first | omega | exact Nat.le_refl _⟩, ⟨by (with_reducible repeat (first | apply Kd.R_alloc | apply Kd.R_drewN | apply Kd.R_drew)); exact HO361.out⟩, ⟨by (with_reducible repeat first | apply Zn | apply Zd | apply Za); exact BK355.out⟩, ⟨by (with_reducible repeat first | apply Zn | apply Zd | apply Za); exact BK370.out⟩, ⟨Yr HB⟩⟩
     ·
      replace c31 := Bool.eq_false_iff.mpr c31
      subst c31
      have H1 : (palinodelaw19_SagaEnds.j1 kj4 l1 t356 t359 true a0_0 l0_1 t362 t363 t364 t365 t366 t367 t368) = some r := by rw [if_neg (show ¬ (false = true) by decide)] at H; exact H
      clear H
      have H := H1
      clear H1
      have H' := Aside0.mk H
      clear H
      go_wp2
      repeat (go_quiet (fail); try go_wp2)
      go_meet
      case rel => exact ⟨_, (true), (by first | rfl | (simp; done) | (simp [*]; done)), H', ⟨by have := HJ4.out; first | omega | exact Nat.le_refl _⟩, ⟨by (with_reducible repeat (first | apply Kd.R_alloc | apply Kd.R_drewN | apply Kd.R_drew)); exact Kd.R_mono (Kd.R_far (p := ⟨gb370, 6, none⟩) (Kd.R_far (p := ⟨gb370, 5, none⟩) (Kd.R_far (p := ⟨gb370, 4, none⟩) (Kd.R_far (p := ⟨gb370, 3, none⟩) (Kd.R_far (p := ⟨gb370, 2, none⟩) (Kd.R_far (p := ⟨gb370, 1, none⟩) (Kd.R_far (p := ⟨gb370, 0, none⟩) (Kd.R_types HO361.out BK370.out (by decide)) (fun _ hk => hk.2) (.string t362)) (fun _ hk => hk.2) (.string t363)) (fun _ hk => hk.2) (.int .i64 t364)) (fun _ hk => hk.2) (.int .i64 t365)) (fun _ hk => hk.2) (.int .i64 t366)) (fun _ hk => hk.2) (.int .i64 t367)) (fun _ hk => hk.2) (.bool t368)) (fun _ hk => trivial)⟩, ⟨by (with_reducible repeat first | apply Zn | apply Zd | apply Za); refine Zq ?_ NB355_370.out _; (with_reducible repeat first | apply Zn | apply Zd | apply Za); refine Zq ?_ NB355_370.out _; (with_reducible repeat first | apply Zn | apply Zd | apply Za); refine Zq ?_ NB355_370.out _; (with_reducible repeat first | apply Zn | apply Zd | apply Za); refine Zq ?_ NB355_370.out _; (with_reducible repeat first | apply Zn | apply Zd | apply Za); refine Zq ?_ NB355_370.out _; (with_reducible repeat first | apply Zn | apply Zd | apply Za); refine Zq ?_ NB355_370.out _; (with_reducible repeat first | apply Zn | apply Zd | apply Za); refine Zq ?_ NB355_370.out _; (with_reducible repeat first | apply Zn | apply Zd | apply Za); exact BK355.out⟩, ⟨by (with_reducible repeat first | apply Zn | apply Zd | apply Za); refine Zp (cs := #[.string t362, .string t363, .int .i64 t364, .int .i64 t365, .int .i64 t366, .int .i64 t367, .bool false]) ?_ 6 _ rfl; (with_reducible repeat first | apply Zn | apply Zd | apply Za); refine Zp (cs := #[.string t362, .string t363, .int .i64 t364, .int .i64 t365, .int .i64 t366, .int .i64 0, .bool false]) ?_ 5 _ rfl; (with_reducible repeat first | apply Zn | apply Zd | apply Za); refine Zp (cs := #[.string t362, .string t363, .int .i64 t364, .int .i64 t365, .int .i64 0, .int .i64 0, .bool false]) ?_ 4 _ rfl; (with_reducible repeat first | apply Zn | apply Zd | apply Za); refine Zp (cs := #[.string t362, .string t363, .int .i64 t364, .int .i64 0, .int .i64 0, .int .i64 0, .bool false]) ?_ 3 _ rfl; (with_reducible repeat first | apply Zn | apply Zd | apply Za); refine Zp (cs := #[.string t362, .string t363, .int .i64 0, .int .i64 0, .int .i64 0, .int .i64 0, .bool false]) ?_ 2 _ rfl; (with_reducible repeat first | apply Zn | apply Zd | apply Za); refine Zp (cs := #[.string t362, .string (⟨#[]⟩ : ByteArray), .int .i64 0, .int .i64 0, .int .i64 0, .int .i64 0, .bool false]) ?_ 1 _ rfl; (with_reducible repeat first | apply Zn | apply Zd | apply Za); refine Zp (cs := #[.string (⟨#[]⟩ : ByteArray), .string (⟨#[]⟩ : ByteArray), .int .i64 0, .int .i64 0, .int .i64 0, .int .i64 0, .bool false]) ?_ 0 _ rfl; (with_reducible repeat first | apply Zn | apply Zd | apply Za); exact BK370.out⟩, ⟨Yr HB⟩⟩
    case rest =>
     clear HC25
     try clear c1
     try clear c2
     try clear p2
     try clear c3
     try clear c9
     try clear c10
     try clear c10b0
     try clear c13
     try clear c13b0
     try clear c23
     try clear c29
     try clear c31
     try clear c33
     try clear c34
     try clear c38
     try clear hcz11_0
     try clear hcz11_1
     try clear hcz14_0
     try clear hcz14_1
     try clear hcz17_0
     try clear hcz17_1
     try clear hcz19_0
     try clear hcz19_1
     try clear hcz21_0
     try clear hcz21_1
     try clear hcz26_0
     try clear hcz26_1
     try clear hcz30_0
     try clear hcz30_1
     try clear hcz30_2
     try clear hcz30_3
     try clear hcz30_4
     try clear hcz30_5
     try clear hcz30_6
     try clear hcz35_0
     try clear hcz35_1
     try clear hcz35_2
     try clear hcz35_3
     try clear hcz35_4
     try clear hcz35_5
     try clear hcz35_6
     try clear hcz39_0
     try clear hcz39_1
     try clear hcz39_2
     try clear hcz39_3
     try clear hcz39_4
     try clear hcz39_5
     try clear hcz39_6
     try clear hcz42_0
     try clear hcz42_1
     try clear hfz11_0
     try clear hfz11_1
     try clear hfz14_0
     try clear hfz14_1
     try clear hfz17_0
     try clear hfz17_1
     try clear hfz19_0
     try clear hfz19_1
     try clear hfz21_0
     try clear hfz21_1
     try clear hfz26_0
     try clear hfz26_1
     try clear hfz30_0
     try clear hfz30_1
     try clear hfz30_2
     try clear hfz30_3
     try clear hfz30_4
     try clear hfz30_5
     try clear hfz30_6
     try clear hfz35_0
     try clear hfz35_1
     try clear hfz35_2
     try clear hfz35_3
     try clear hfz35_4
     try clear hfz35_5
     try clear hfz35_6
     try clear hfz39_0
     try clear hfz39_1
     try clear hfz39_2
     try clear hfz39_3
     try clear hfz39_4
     try clear hfz39_5
     try clear hfz39_6
     try clear hfz42_0
     try clear hfz42_1
     try clear p2
     obtain ⟨kq, x53_24, rfl, HA, HJ24, HO_8, BK355, BK370, HB⟩ := hcut
     cases kq with
     | zero => exact absurd HA.out (by simp [palinodelaw19_SagaEnds.j1])
     | succ kj24 =>
      have H := HA.out
      clear HA
      simp only [palinodelaw19_SagaEnds.j1] at H
      by_cases c44 : x53_24 = true
      ·
       subst c44
       have H1 : (some false) = some r := by rw [if_pos rfl] at H; exact H
       clear H
       have H := H1
       clear H1
       exact absurd ((Option.some.inj H).trans HRT_.out) (by decide)
      ·
       replace c44 := Bool.eq_false_iff.mpr c44
       subst c44
       have H1 : (if 0 ≤ (wrap64 ((t359.length : Int) - 1)) then (if (wrap64 ((t359.length : Int) - 1)) < (l1.length : Int) then ((palinodelaw19_pick.f (rd l1 (wrap64 ((t359.length : Int) - 1))) 3).bind fun t374 => (if t364 = 3 then (if t356 = true then (if (wrap64 ((t359.length : Int) - 1)) < (t359.length : Int) then (if ((rd_T35 t359 (wrap64 ((t359.length : Int) - 1))).f2) = 1 then (if ((rd_T35 t359 (wrap64 ((t359.length : Int) - 1))).f1) = (wrap64 ((l0_1.length : Int) - 1)) then (some ((wrap64 (1 + t374)) == 1)) else (some false)) else (some false)) else (none)) else (some false)) else (if t364 = 4 then (if t356 = true then (if (wrap64 ((t359.length : Int) - 1)) < (t359.length : Int) then (if ((rd_T35 t359 (wrap64 ((t359.length : Int) - 1))).f1) = 0 then (if ((rd_T35 t359 (wrap64 ((t359.length : Int) - 1))).f2) = 2 then (if (wrap64 (1 + t374)) = 1 then (some true) else (if ((rd_T35 t359 (wrap64 ((t359.length : Int) - 1))).f2) = 1 then (some ((wrap64 (1 + t374)) == 2)) else (some false))) else (if ((rd_T35 t359 (wrap64 ((t359.length : Int) - 1))).f2) = 1 then (some ((wrap64 (1 + t374)) == 2)) else (some false))) else (some false)) else (none)) else (some false)) else (if t364 = 5 then (if t356 = true then (if (wrap64 ((t359.length : Int) - 1)) < (t359.length : Int) then (if ((rd_T35 t359 (wrap64 ((t359.length : Int) - 1))).f2) = 2 then (if (wrap64 (1 + t374)) = 1 then (some false) else (if 0 ≤ ((rd_T35 t359 (wrap64 ((t359.length : Int) - 1))).f1) then (if ((rd_T35 t359 (wrap64 ((t359.length : Int) - 1))).f1) < (l0_1.length : Int) then (if ((rd_T35 t359 (wrap64 ((t359.length : Int) - 1))).f3) = ((rd_T53 l0_1 ((rd_T35 t359 (wrap64 ((t359.length : Int) - 1))).f1)).f0) then (some (t365 == ((rd_T35 t359 (wrap64 ((t359.length : Int) - 1))).f1))) else (some false)) else (none)) else (none))) else (some false)) else (none)) else (some false)) else (some false))))) else (none)) else (none)) = some r := by rw [if_neg (show ¬ (false = true) by decide)] at H; exact H
       clear H
       have H := H1
       clear H1
       obtain ⟨ji45, hji45⟩ : ∃ j_ : Int, (wrap64 ((t359.length : Int) - 1)) = j_ := ⟨_, rfl⟩
       replace H : (if 0 ≤ (ji45) then (if (ji45) < (l1.length : Int) then ((palinodelaw19_pick.f (rd l1 (ji45)) 3).bind fun t374 => (if t364 = 3 then (if t356 = true then (if (ji45) < (t359.length : Int) then (if ((rd_T35 t359 (ji45)).f2) = 1 then (if ((rd_T35 t359 (ji45)).f1) = (wrap64 ((l0_1.length : Int) - 1)) then (some ((wrap64 (1 + t374)) == 1)) else (some false)) else (some false)) else (none)) else (some false)) else (if t364 = 4 then (if t356 = true then (if (ji45) < (t359.length : Int) then (if ((rd_T35 t359 (ji45)).f1) = 0 then (if ((rd_T35 t359 (ji45)).f2) = 2 then (if (wrap64 (1 + t374)) = 1 then (some true) else (if ((rd_T35 t359 (ji45)).f2) = 1 then (some ((wrap64 (1 + t374)) == 2)) else (some false))) else (if ((rd_T35 t359 (ji45)).f2) = 1 then (some ((wrap64 (1 + t374)) == 2)) else (some false))) else (some false)) else (none)) else (some false)) else (if t364 = 5 then (if t356 = true then (if (ji45) < (t359.length : Int) then (if ((rd_T35 t359 (ji45)).f2) = 2 then (if (wrap64 (1 + t374)) = 1 then (some false) else (if 0 ≤ ((rd_T35 t359 (ji45)).f1) then (if ((rd_T35 t359 (ji45)).f1) < (l0_1.length : Int) then (if ((rd_T35 t359 (ji45)).f3) = ((rd_T53 l0_1 ((rd_T35 t359 (ji45)).f1)).f0) then (some (t365 == ((rd_T35 t359 (ji45)).f1))) else (some false)) else (none)) else (none))) else (some false)) else (none)) else (some false)) else (some false))))) else (none)) else (none)) = some r := by first | (rw [hji45] at H; exact H) | (simp only [hji45] at H ⊢; exact H)
       have hji45w : (IntKind.i64.wrap ((t359.length : Int) - 1)) = ji45 := (i64_w _).trans hji45
       by_cases c46 : 0 ≤ (ji45)
       ·
        rw [if_pos c46] at H
        have c46b0 : decide (0 ≤ (ji45)) = true := decide_eq_true c46
        clear c46
        by_cases c47 : (ji45) < (l1.length : Int)
        ·
         rw [if_pos c47] at H
         have c47b0 : decide ((ji45) < (l1.length : Int)) = true := decide_eq_true c47
         clear c47
         replace H := Option.bind_eq_some_iff.mp H
         obtain ⟨t374, A480, H⟩ := H
         replace H : (if t364 = 3 then (if t356 = true then (if (ji45) < (t359.length : Int) then (if ((rd_T35 t359 (ji45)).f2) = 1 then (if ((rd_T35 t359 (ji45)).f1) = (wrap64 ((l0_1.length : Int) - 1)) then (some ((wrap64 (1 + t374)) == 1)) else (some false)) else (some false)) else (none)) else (some false)) else (if t364 = 4 then (if t356 = true then (if (ji45) < (t359.length : Int) then (if ((rd_T35 t359 (ji45)).f1) = 0 then (if ((rd_T35 t359 (ji45)).f2) = 2 then (if (wrap64 (1 + t374)) = 1 then (some true) else (if ((rd_T35 t359 (ji45)).f2) = 1 then (some ((wrap64 (1 + t374)) == 2)) else (some false))) else (if ((rd_T35 t359 (ji45)).f2) = 1 then (some ((wrap64 (1 + t374)) == 2)) else (some false))) else (some false)) else (none)) else (some false)) else (if t364 = 5 then (if t356 = true then (if (ji45) < (t359.length : Int) then (if ((rd_T35 t359 (ji45)).f2) = 2 then (if (wrap64 (1 + t374)) = 1 then (some false) else (if 0 ≤ ((rd_T35 t359 (ji45)).f1) then (if ((rd_T35 t359 (ji45)).f1) < (l0_1.length : Int) then (if ((rd_T35 t359 (ji45)).f3) = ((rd_T53 l0_1 ((rd_T35 t359 (ji45)).f1)).f0) then (some (t365 == ((rd_T35 t359 (ji45)).f1))) else (some false)) else (none)) else (none))) else (some false)) else (none)) else (some false)) else (some false)))) = some r := H
         have A48 := Aside0.mk A480
         clear A480
         by_cases c49 : t364 = 3
         ·
          rw [if_pos c49] at H
          have c49b0 : (t364 == 3) = true := beq_iff_eq.mpr c49
          have c49b1 : (t364 != 3) = false := bne_eq_false_iff_eq.mpr c49
          clear c49
          by_cases c50 : t356 = true
          ·
           subst c50
           have H1 : (if (ji45) < (t359.length : Int) then (if ((rd_T35 t359 (ji45)).f2) = 1 then (if ((rd_T35 t359 (ji45)).f1) = (wrap64 ((l0_1.length : Int) - 1)) then (some ((wrap64 (1 + t374)) == 1)) else (some false)) else (some false)) else (none)) = some r := by rw [if_pos rfl] at H; exact H
           clear H
           have H := H1
           clear H1
           by_cases c51 : (ji45) < (t359.length : Int)
           ·
            rw [if_pos c51] at H
            have c51b0 : decide ((ji45) < (t359.length : Int)) = true := decide_eq_true c51
            clear c51
            by_cases c52 : ((rd_T35 t359 (ji45)).f2) = 1
            ·
             rw [if_pos c52] at H
             have c52b0 : (((rd_T35 t359 (ji45)).f2) == 1) = true := beq_iff_eq.mpr c52
             have c52b1 : (((rd_T35 t359 (ji45)).f2) != 1) = false := bne_eq_false_iff_eq.mpr c52
             clear c52
             by_cases c53 : ((rd_T35 t359 (ji45)).f1) = (wrap64 ((l0_1.length : Int) - 1))
             ·
              rw [if_pos c53] at H
              have c53b0 : (((rd_T35 t359 (ji45)).f1) == (wrap64 ((l0_1.length : Int) - 1))) = true := beq_iff_eq.mpr c53
              have c53b1 : (((rd_T35 t359 (ji45)).f1) != (wrap64 ((l0_1.length : Int) - 1))) = false := bne_eq_false_iff_eq.mpr c53
              clear c53
              obtain rfl := Option.some.inj H
              obtain ⟨Ao54, co54, eo54⟩ := Kd.R_slice HO_8.out
              subst eo54
              have p373 : 0 ≤ ((ji45) : Int) := of_decide_eq_true (by first | (with_reducible assumption) | assumption)
              have q373 : (ji45) < (l1.length : Int) := of_decide_eq_true (by first | (with_reducible assumption) | assumption)
              obtain ⟨ad373, e373, hx373_0⟩ := Kd.at_int HR1.out (ji45) p373 q373
              cases e373
              replace hx373_0 := (HB.out.cell (World.block_lt_of_cell? w _ hx373_0)).trans hx373_0
              replace p373 := eq_true p373
              replace q373 := eq_true q373
              go_wp2_with (first | (go_at_call 27; (with_reducible refine (palinodelaw19_pick.calls (rd l1 (ji45)) 3 t374 _ A48.out).mono ?_); rintro e w' ⟨rfl, ⟨nd, rfl⟩⟩; (try first | exact ⟨rfl, _, World.drewN_drewN _ _ _⟩ | exact ⟨rfl, _, Eq.trans (World.drewN_drewN _ _ _) (congrArg (World.drewN _) (Nat.add_assoc _ _ _))⟩); obtain ⟨hnb55, hnc55⟩ := Zo NB370_355; obtain ⟨⟨hcz56_0, hcz56_1, hcz56_2, hcz56_3, hcz56_4, hcz56_5, hcz56_6⟩, hfz56_0, hfz56_1, hfz56_2, hfz56_3, hfz56_4, hfz56_5, hfz56_6⟩ := Zk7 BK370; have p375 : 0 ≤ ((ji45) : Int) := of_decide_eq_true (by first | (with_reducible assumption) | assumption); have q375 : (ji45) < (t359.length : Int) := of_decide_eq_true (by first | (with_reducible assumption) | assumption); obtain ⟨ad375, e375, hx375_0, hx375_1, hx375_2, hx375_3⟩ := at_T35 (Kd.R_reads' HO_8.out).2.2 (ji45) p375 q375; cases e375; replace p375 := eq_true p375; replace q375 := eq_true q375; have p376 : 0 ≤ ((ji45) : Int) := of_decide_eq_true (by first | (with_reducible assumption) | assumption); have q376 : (ji45) < (t359.length : Int) := of_decide_eq_true (by first | (with_reducible assumption) | assumption); obtain ⟨ad376, e376, hx376_0, hx376_1, hx376_2, hx376_3⟩ := at_T35 (Kd.R_reads' HO_8.out).2.2 (ji45) p376 q376; obtain rfl : ad375 = ad376 := (by injection e376); replace p376 := eq_true p376; replace q376 := eq_true q376; obtain ⟨⟨hcz57_0, hcz57_1⟩, hfz57_0, hfz57_1⟩ := Zk2 BK355))
              repeat (go_quiet (first | (go_at_call 27; (with_reducible refine (palinodelaw19_pick.calls (rd l1 (ji45)) 3 t374 _ A48.out).mono ?_); rintro e w' ⟨rfl, ⟨nd, rfl⟩⟩; (try first | exact ⟨rfl, _, World.drewN_drewN _ _ _⟩ | exact ⟨rfl, _, Eq.trans (World.drewN_drewN _ _ _) (congrArg (World.drewN _) (Nat.add_assoc _ _ _))⟩); obtain ⟨hnb55, hnc55⟩ := Zo NB370_355; obtain ⟨⟨hcz56_0, hcz56_1, hcz56_2, hcz56_3, hcz56_4, hcz56_5, hcz56_6⟩, hfz56_0, hfz56_1, hfz56_2, hfz56_3, hfz56_4, hfz56_5, hfz56_6⟩ := Zk7 BK370; have p375 : 0 ≤ ((ji45) : Int) := of_decide_eq_true (by first | (with_reducible assumption) | assumption); have q375 : (ji45) < (t359.length : Int) := of_decide_eq_true (by first | (with_reducible assumption) | assumption); obtain ⟨ad375, e375, hx375_0, hx375_1, hx375_2, hx375_3⟩ := at_T35 (Kd.R_reads' HO_8.out).2.2 (ji45) p375 q375; cases e375; replace p375 := eq_true p375; replace q375 := eq_true q375; have p376 : 0 ≤ ((ji45) : Int) := of_decide_eq_true (by first | (with_reducible assumption) | assumption); have q376 : (ji45) < (t359.length : Int) := of_decide_eq_true (by first | (with_reducible assumption) | assumption); obtain ⟨ad376, e376, hx376_0, hx376_1, hx376_2, hx376_3⟩ := at_T35 (Kd.R_reads' HO_8.out).2.2 (ji45) p376 q376; obtain rfl : ad375 = ad376 := (by injection e376); replace p376 := eq_true p376; replace q376 := eq_true q376; obtain ⟨⟨hcz57_0, hcz57_1⟩, hfz57_0, hfz57_1⟩ := Zk2 BK355)); try go_wp2_with (first | (go_at_call 27; (with_reducible refine (palinodelaw19_pick.calls (rd l1 (ji45)) 3 t374 _ A48.out).mono ?_); rintro e w' ⟨rfl, ⟨nd, rfl⟩⟩; (try first | exact ⟨rfl, _, World.drewN_drewN _ _ _⟩ | exact ⟨rfl, _, Eq.trans (World.drewN_drewN _ _ _) (congrArg (World.drewN _) (Nat.add_assoc _ _ _))⟩); obtain ⟨hnb55, hnc55⟩ := Zo NB370_355; obtain ⟨⟨hcz56_0, hcz56_1, hcz56_2, hcz56_3, hcz56_4, hcz56_5, hcz56_6⟩, hfz56_0, hfz56_1, hfz56_2, hfz56_3, hfz56_4, hfz56_5, hfz56_6⟩ := Zk7 BK370; have p375 : 0 ≤ ((ji45) : Int) := of_decide_eq_true (by first | (with_reducible assumption) | assumption); have q375 : (ji45) < (t359.length : Int) := of_decide_eq_true (by first | (with_reducible assumption) | assumption); obtain ⟨ad375, e375, hx375_0, hx375_1, hx375_2, hx375_3⟩ := at_T35 (Kd.R_reads' HO_8.out).2.2 (ji45) p375 q375; cases e375; replace p375 := eq_true p375; replace q375 := eq_true q375; have p376 : 0 ≤ ((ji45) : Int) := of_decide_eq_true (by first | (with_reducible assumption) | assumption); have q376 : (ji45) < (t359.length : Int) := of_decide_eq_true (by first | (with_reducible assumption) | assumption); obtain ⟨ad376, e376, hx376_0, hx376_1, hx376_2, hx376_3⟩ := at_T35 (Kd.R_reads' HO_8.out).2.2 (ji45) p376 q376; obtain rfl : ad375 = ad376 := (by injection e376); replace p376 := eq_true p376; replace q376 := eq_true q376; obtain ⟨⟨hcz57_0, hcz57_1⟩, hfz57_0, hfz57_1⟩ := Zk2 BK355)))
              go_ret
              first | (refine absurd c53b0 ?_; simp [*]; done) | exact ⟨by first | rfl | (simp [errW_none, errW_some] <;> rfl) | (simp only [← hji45]; first | rfl | (simp [errW_none, errW_some] <;> rfl)) | (simp [*, errW_none, errW_some] <;> rfl), Yr HB⟩
             ·
              rw [if_neg c53] at H
              have c53b0 : (((rd_T35 t359 (ji45)).f1) == (wrap64 ((l0_1.length : Int) - 1))) = false := beq_eq_false_iff_ne.mpr c53
              have c53b1 : (((rd_T35 t359 (ji45)).f1) != (wrap64 ((l0_1.length : Int) - 1))) = true := bne_iff_ne.mpr c53
              exact absurd ((Option.some.inj H).trans HRT_.out) (by decide)
            ·
             rw [if_neg c52] at H
             have c52b0 : (((rd_T35 t359 (ji45)).f2) == 1) = false := beq_eq_false_iff_ne.mpr c52
             have c52b1 : (((rd_T35 t359 (ji45)).f2) != 1) = true := bne_iff_ne.mpr c52
             exact absurd ((Option.some.inj H).trans HRT_.out) (by decide)
           ·
            rw [if_neg c51] at H
            exact absurd H (by simp)
          ·
           replace c50 := Bool.eq_false_iff.mpr c50
           subst c50
           have H1 : (some false) = some r := by rw [if_neg (show ¬ (false = true) by decide)] at H; exact H
           clear H
           have H := H1
           clear H1
           exact absurd ((Option.some.inj H).trans HRT_.out) (by decide)
         ·
          rw [if_neg c49] at H
          have c49b0 : (t364 == 3) = false := beq_eq_false_iff_ne.mpr c49
          have c49b1 : (t364 != 3) = true := bne_iff_ne.mpr c49
          by_cases c58 : t364 = 4
          ·
           rw [if_pos c58] at H
           have c58b0 : (t364 == 4) = true := beq_iff_eq.mpr c58
           have c58b1 : (t364 != 4) = false := bne_eq_false_iff_eq.mpr c58
           clear c58
           by_cases c59 : t356 = true
           ·
            subst c59
            have H1 : (if (ji45) < (t359.length : Int) then (if ((rd_T35 t359 (ji45)).f1) = 0 then (if ((rd_T35 t359 (ji45)).f2) = 2 then (if (wrap64 (1 + t374)) = 1 then (some true) else (if ((rd_T35 t359 (ji45)).f2) = 1 then (some ((wrap64 (1 + t374)) == 2)) else (some false))) else (if ((rd_T35 t359 (ji45)).f2) = 1 then (some ((wrap64 (1 + t374)) == 2)) else (some false))) else (some false)) else (none)) = some r := by rw [if_pos rfl] at H; exact H
            clear H
            have H := H1
            clear H1
            by_cases c60 : (ji45) < (t359.length : Int)
            ·
             rw [if_pos c60] at H
             have c60b0 : decide ((ji45) < (t359.length : Int)) = true := decide_eq_true c60
             clear c60
             by_cases c61 : ((rd_T35 t359 (ji45)).f1) = 0
             ·
              rw [if_pos c61] at H
              have c61b0 : (((rd_T35 t359 (ji45)).f1) == 0) = true := beq_iff_eq.mpr c61
              have c61b1 : (((rd_T35 t359 (ji45)).f1) != 0) = false := bne_eq_false_iff_eq.mpr c61
              clear c61
              by_cases c62 : ((rd_T35 t359 (ji45)).f2) = 2
              ·
               rw [if_pos c62] at H
               have c62b0 : (((rd_T35 t359 (ji45)).f2) == 2) = true := beq_iff_eq.mpr c62
               have c62b1 : (((rd_T35 t359 (ji45)).f2) != 2) = false := bne_eq_false_iff_eq.mpr c62
               clear c62
               by_cases c63 : (wrap64 (1 + t374)) = 1
               ·
                rw [if_pos c63] at H
                have c63b0 : ((wrap64 (1 + t374)) == 1) = true := beq_iff_eq.mpr c63
                have c63b1 : ((wrap64 (1 + t374)) != 1) = false := bne_eq_false_iff_eq.mpr c63
                clear c63
                obtain rfl := Option.some.inj H
                obtain ⟨Ao64, co64, eo64⟩ := Kd.R_slice HO_8.out
                subst eo64
                have p373 : 0 ≤ ((ji45) : Int) := of_decide_eq_true (by first | (with_reducible assumption) | assumption)
                have q373 : (ji45) < (l1.length : Int) := of_decide_eq_true (by first | (with_reducible assumption) | assumption)
                obtain ⟨ad373, e373, hx373_0⟩ := Kd.at_int HR1.out (ji45) p373 q373
                cases e373
                replace hx373_0 := (HB.out.cell (World.block_lt_of_cell? w _ hx373_0)).trans hx373_0
                replace p373 := eq_true p373
                replace q373 := eq_true q373
                go_wp2_with (first | (go_at_call 27; (with_reducible refine (palinodelaw19_pick.calls (rd l1 (ji45)) 3 t374 _ A48.out).mono ?_); rintro e w' ⟨rfl, ⟨nd, rfl⟩⟩; (try first | exact ⟨rfl, _, World.drewN_drewN _ _ _⟩ | exact ⟨rfl, _, Eq.trans (World.drewN_drewN _ _ _) (congrArg (World.drewN _) (Nat.add_assoc _ _ _))⟩); obtain ⟨hnb65, hnc65⟩ := Zo NB370_355; obtain ⟨⟨hcz66_0, hcz66_1, hcz66_2, hcz66_3, hcz66_4, hcz66_5, hcz66_6⟩, hfz66_0, hfz66_1, hfz66_2, hfz66_3, hfz66_4, hfz66_5, hfz66_6⟩ := Zk7 BK370; have p377 : 0 ≤ ((ji45) : Int) := of_decide_eq_true (by first | (with_reducible assumption) | assumption); have q377 : (ji45) < (t359.length : Int) := of_decide_eq_true (by first | (with_reducible assumption) | assumption); obtain ⟨ad377, e377, hx377_0, hx377_1, hx377_2, hx377_3⟩ := at_T35 (Kd.R_reads' HO_8.out).2.2 (ji45) p377 q377; cases e377; replace p377 := eq_true p377; replace q377 := eq_true q377; have p378 : 0 ≤ ((ji45) : Int) := of_decide_eq_true (by first | (with_reducible assumption) | assumption); have q378 : (ji45) < (t359.length : Int) := of_decide_eq_true (by first | (with_reducible assumption) | assumption); obtain ⟨ad378, e378, hx378_0, hx378_1, hx378_2, hx378_3⟩ := at_T35 (Kd.R_reads' HO_8.out).2.2 (ji45) p378 q378; obtain rfl : ad377 = ad378 := (by injection e378); replace p378 := eq_true p378; replace q378 := eq_true q378))
                repeat (go_quiet (first | (go_at_call 27; (with_reducible refine (palinodelaw19_pick.calls (rd l1 (ji45)) 3 t374 _ A48.out).mono ?_); rintro e w' ⟨rfl, ⟨nd, rfl⟩⟩; (try first | exact ⟨rfl, _, World.drewN_drewN _ _ _⟩ | exact ⟨rfl, _, Eq.trans (World.drewN_drewN _ _ _) (congrArg (World.drewN _) (Nat.add_assoc _ _ _))⟩); obtain ⟨hnb65, hnc65⟩ := Zo NB370_355; obtain ⟨⟨hcz66_0, hcz66_1, hcz66_2, hcz66_3, hcz66_4, hcz66_5, hcz66_6⟩, hfz66_0, hfz66_1, hfz66_2, hfz66_3, hfz66_4, hfz66_5, hfz66_6⟩ := Zk7 BK370; have p377 : 0 ≤ ((ji45) : Int) := of_decide_eq_true (by first | (with_reducible assumption) | assumption); have q377 : (ji45) < (t359.length : Int) := of_decide_eq_true (by first | (with_reducible assumption) | assumption); obtain ⟨ad377, e377, hx377_0, hx377_1, hx377_2, hx377_3⟩ := at_T35 (Kd.R_reads' HO_8.out).2.2 (ji45) p377 q377; cases e377; replace p377 := eq_true p377; replace q377 := eq_true q377; have p378 : 0 ≤ ((ji45) : Int) := of_decide_eq_true (by first | (with_reducible assumption) | assumption); have q378 : (ji45) < (t359.length : Int) := of_decide_eq_true (by first | (with_reducible assumption) | assumption); obtain ⟨ad378, e378, hx378_0, hx378_1, hx378_2, hx378_3⟩ := at_T35 (Kd.R_reads' HO_8.out).2.2 (ji45) p378 q378; obtain rfl : ad377 = ad378 := (by injection e378); replace p378 := eq_true p378; replace q378 := eq_true q378)); try go_wp2_with (first | (go_at_call 27; (with_reducible refine (palinodelaw19_pick.calls (rd l1 (ji45)) 3 t374 _ A48.out).mono ?_); rintro e w' ⟨rfl, ⟨nd, rfl⟩⟩; (try first | exact ⟨rfl, _, World.drewN_drewN _ _ _⟩ | exact ⟨rfl, _, Eq.trans (World.drewN_drewN _ _ _) (congrArg (World.drewN _) (Nat.add_assoc _ _ _))⟩); obtain ⟨hnb65, hnc65⟩ := Zo NB370_355; obtain ⟨⟨hcz66_0, hcz66_1, hcz66_2, hcz66_3, hcz66_4, hcz66_5, hcz66_6⟩, hfz66_0, hfz66_1, hfz66_2, hfz66_3, hfz66_4, hfz66_5, hfz66_6⟩ := Zk7 BK370; have p377 : 0 ≤ ((ji45) : Int) := of_decide_eq_true (by first | (with_reducible assumption) | assumption); have q377 : (ji45) < (t359.length : Int) := of_decide_eq_true (by first | (with_reducible assumption) | assumption); obtain ⟨ad377, e377, hx377_0, hx377_1, hx377_2, hx377_3⟩ := at_T35 (Kd.R_reads' HO_8.out).2.2 (ji45) p377 q377; cases e377; replace p377 := eq_true p377; replace q377 := eq_true q377; have p378 : 0 ≤ ((ji45) : Int) := of_decide_eq_true (by first | (with_reducible assumption) | assumption); have q378 : (ji45) < (t359.length : Int) := of_decide_eq_true (by first | (with_reducible assumption) | assumption); obtain ⟨ad378, e378, hx378_0, hx378_1, hx378_2, hx378_3⟩ := at_T35 (Kd.R_reads' HO_8.out).2.2 (ji45) p378 q378; obtain rfl : ad377 = ad378 := (by injection e378); replace p378 := eq_true p378; replace q378 := eq_true q378)))
                go_ret
                exact ⟨by first | rfl | (simp [errW_none, errW_some] <;> rfl) | (simp only [← hji45]; first | rfl | (simp [errW_none, errW_some] <;> rfl)) | (simp [*, errW_none, errW_some] <;> rfl), Yr HB⟩
               ·
                rw [if_neg c63] at H
                have c63b0 : ((wrap64 (1 + t374)) == 1) = false := beq_eq_false_iff_ne.mpr c63
                have c63b1 : ((wrap64 (1 + t374)) != 1) = true := bne_iff_ne.mpr c63
                by_cases c67 : ((rd_T35 t359 (ji45)).f2) = 1
                ·
                 rw [if_pos c67] at H
                 have c67b0 : (((rd_T35 t359 (ji45)).f2) == 1) = true := beq_iff_eq.mpr c67
                 have c67b1 : (((rd_T35 t359 (ji45)).f2) != 1) = false := bne_eq_false_iff_eq.mpr c67
                 clear c67
                 obtain rfl := Option.some.inj H
                 obtain ⟨Ao68, co68, eo68⟩ := Kd.R_slice HO_8.out
                 subst eo68
                 have p373 : 0 ≤ ((ji45) : Int) := of_decide_eq_true (by first | (with_reducible assumption) | assumption)
                 have q373 : (ji45) < (l1.length : Int) := of_decide_eq_true (by first | (with_reducible assumption) | assumption)
                 obtain ⟨ad373, e373, hx373_0⟩ := Kd.at_int HR1.out (ji45) p373 q373
                 cases e373
                 replace hx373_0 := (HB.out.cell (World.block_lt_of_cell? w _ hx373_0)).trans hx373_0
                 replace p373 := eq_true p373
                 replace q373 := eq_true q373
                 go_wp2_with (first | (go_at_call 27; (with_reducible refine (palinodelaw19_pick.calls (rd l1 (ji45)) 3 t374 _ A48.out).mono ?_); rintro e w' ⟨rfl, ⟨nd, rfl⟩⟩; (try first | exact ⟨rfl, _, World.drewN_drewN _ _ _⟩ | exact ⟨rfl, _, Eq.trans (World.drewN_drewN _ _ _) (congrArg (World.drewN _) (Nat.add_assoc _ _ _))⟩); obtain ⟨hnb69, hnc69⟩ := Zo NB370_355; obtain ⟨⟨hcz70_0, hcz70_1, hcz70_2, hcz70_3, hcz70_4, hcz70_5, hcz70_6⟩, hfz70_0, hfz70_1, hfz70_2, hfz70_3, hfz70_4, hfz70_5, hfz70_6⟩ := Zk7 BK370; have p377 : 0 ≤ ((ji45) : Int) := of_decide_eq_true (by first | (with_reducible assumption) | assumption); have q377 : (ji45) < (t359.length : Int) := of_decide_eq_true (by first | (with_reducible assumption) | assumption); obtain ⟨ad377, e377, hx377_0, hx377_1, hx377_2, hx377_3⟩ := at_T35 (Kd.R_reads' HO_8.out).2.2 (ji45) p377 q377; cases e377; replace p377 := eq_true p377; replace q377 := eq_true q377; have p378 : 0 ≤ ((ji45) : Int) := of_decide_eq_true (by first | (with_reducible assumption) | assumption); have q378 : (ji45) < (t359.length : Int) := of_decide_eq_true (by first | (with_reducible assumption) | assumption); obtain ⟨ad378, e378, hx378_0, hx378_1, hx378_2, hx378_3⟩ := at_T35 (Kd.R_reads' HO_8.out).2.2 (ji45) p378 q378; obtain rfl : ad377 = ad378 := (by injection e378); replace p378 := eq_true p378; replace q378 := eq_true q378; have p379 : 0 ≤ ((ji45) : Int) := of_decide_eq_true (by first | (with_reducible assumption) | assumption); have q379 : (ji45) < (t359.length : Int) := of_decide_eq_true (by first | (with_reducible assumption) | assumption); obtain ⟨ad379, e379, hx379_0, hx379_1, hx379_2, hx379_3⟩ := at_T35 (Kd.R_reads' HO_8.out).2.2 (ji45) p379 q379; obtain rfl : ad377 = ad379 := (by injection e379); replace p379 := eq_true p379; replace q379 := eq_true q379))
                 repeat (go_quiet (first | (go_at_call 27; (with_reducible refine (palinodelaw19_pick.calls (rd l1 (ji45)) 3 t374 _ A48.out).mono ?_); rintro e w' ⟨rfl, ⟨nd, rfl⟩⟩; (try first | exact ⟨rfl, _, World.drewN_drewN _ _ _⟩ | exact ⟨rfl, _, Eq.trans (World.drewN_drewN _ _ _) (congrArg (World.drewN _) (Nat.add_assoc _ _ _))⟩); obtain ⟨hnb69, hnc69⟩ := Zo NB370_355; obtain ⟨⟨hcz70_0, hcz70_1, hcz70_2, hcz70_3, hcz70_4, hcz70_5, hcz70_6⟩, hfz70_0, hfz70_1, hfz70_2, hfz70_3, hfz70_4, hfz70_5, hfz70_6⟩ := Zk7 BK370; have p377 : 0 ≤ ((ji45) : Int) := of_decide_eq_true (by first | (with_reducible assumption) | assumption); have q377 : (ji45) < (t359.length : Int) := of_decide_eq_true (by first | (with_reducible assumption) | assumption); obtain ⟨ad377, e377, hx377_0, hx377_1, hx377_2, hx377_3⟩ := at_T35 (Kd.R_reads' HO_8.out).2.2 (ji45) p377 q377; cases e377; replace p377 := eq_true p377; replace q377 := eq_true q377; have p378 : 0 ≤ ((ji45) : Int) := of_decide_eq_true (by first | (with_reducible assumption) | assumption); have q378 : (ji45) < (t359.length : Int) := of_decide_eq_true (by first | (with_reducible assumption) | assumption); obtain ⟨ad378, e378, hx378_0, hx378_1, hx378_2, hx378_3⟩ := at_T35 (Kd.R_reads' HO_8.out).2.2 (ji45) p378 q378; obtain rfl : ad377 = ad378 := (by injection e378); replace p378 := eq_true p378; replace q378 := eq_true q378; have p379 : 0 ≤ ((ji45) : Int) := of_decide_eq_true (by first | (with_reducible assumption) | assumption); have q379 : (ji45) < (t359.length : Int) := of_decide_eq_true (by first | (with_reducible assumption) | assumption); obtain ⟨ad379, e379, hx379_0, hx379_1, hx379_2, hx379_3⟩ := at_T35 (Kd.R_reads' HO_8.out).2.2 (ji45) p379 q379; obtain rfl : ad377 = ad379 := (by injection e379); replace p379 := eq_true p379; replace q379 := eq_true q379)); try go_wp2_with (first | (go_at_call 27; (with_reducible refine (palinodelaw19_pick.calls (rd l1 (ji45)) 3 t374 _ A48.out).mono ?_); rintro e w' ⟨rfl, ⟨nd, rfl⟩⟩; (try first | exact ⟨rfl, _, World.drewN_drewN _ _ _⟩ | exact ⟨rfl, _, Eq.trans (World.drewN_drewN _ _ _) (congrArg (World.drewN _) (Nat.add_assoc _ _ _))⟩); obtain ⟨hnb69, hnc69⟩ := Zo NB370_355; obtain ⟨⟨hcz70_0, hcz70_1, hcz70_2, hcz70_3, hcz70_4, hcz70_5, hcz70_6⟩, hfz70_0, hfz70_1, hfz70_2, hfz70_3, hfz70_4, hfz70_5, hfz70_6⟩ := Zk7 BK370; have p377 : 0 ≤ ((ji45) : Int) := of_decide_eq_true (by first | (with_reducible assumption) | assumption); have q377 : (ji45) < (t359.length : Int) := of_decide_eq_true (by first | (with_reducible assumption) | assumption); obtain ⟨ad377, e377, hx377_0, hx377_1, hx377_2, hx377_3⟩ := at_T35 (Kd.R_reads' HO_8.out).2.2 (ji45) p377 q377; cases e377; replace p377 := eq_true p377; replace q377 := eq_true q377; have p378 : 0 ≤ ((ji45) : Int) := of_decide_eq_true (by first | (with_reducible assumption) | assumption); have q378 : (ji45) < (t359.length : Int) := of_decide_eq_true (by first | (with_reducible assumption) | assumption); obtain ⟨ad378, e378, hx378_0, hx378_1, hx378_2, hx378_3⟩ := at_T35 (Kd.R_reads' HO_8.out).2.2 (ji45) p378 q378; obtain rfl : ad377 = ad378 := (by injection e378); replace p378 := eq_true p378; replace q378 := eq_true q378; have p379 : 0 ≤ ((ji45) : Int) := of_decide_eq_true (by first | (with_reducible assumption) | assumption); have q379 : (ji45) < (t359.length : Int) := of_decide_eq_true (by first | (with_reducible assumption) | assumption); obtain ⟨ad379, e379, hx379_0, hx379_1, hx379_2, hx379_3⟩ := at_T35 (Kd.R_reads' HO_8.out).2.2 (ji45) p379 q379; obtain rfl : ad377 = ad379 := (by injection e379); replace p379 := eq_true p379; replace q379 := eq_true q379)))
                 go_ret
                 exact ⟨by first | rfl | (simp [errW_none, errW_some] <;> rfl) | (simp only [← hji45]; first | rfl | (simp [errW_none, errW_some] <;> rfl)) | (simp [*, errW_none, errW_some] <;> rfl), Yr HB⟩
                ·
                 rw [if_neg c67] at H
                 have c67b0 : (((rd_T35 t359 (ji45)).f2) == 1) = false := beq_eq_false_iff_ne.mpr c67
                 have c67b1 : (((rd_T35 t359 (ji45)).f2) != 1) = true := bne_iff_ne.mpr c67
                 exact absurd ((Option.some.inj H).trans HRT_.out) (by decide)
              ·
               rw [if_neg c62] at H
               have c62b0 : (((rd_T35 t359 (ji45)).f2) == 2) = false := beq_eq_false_iff_ne.mpr c62
               have c62b1 : (((rd_T35 t359 (ji45)).f2) != 2) = true := bne_iff_ne.mpr c62
               by_cases c71 : ((rd_T35 t359 (ji45)).f2) = 1
               ·
                rw [if_pos c71] at H
                have c71b0 : (((rd_T35 t359 (ji45)).f2) == 1) = true := beq_iff_eq.mpr c71
                have c71b1 : (((rd_T35 t359 (ji45)).f2) != 1) = false := bne_eq_false_iff_eq.mpr c71
                clear c71
                obtain rfl := Option.some.inj H
                obtain ⟨Ao72, co72, eo72⟩ := Kd.R_slice HO_8.out
                subst eo72
                have p373 : 0 ≤ ((ji45) : Int) := of_decide_eq_true (by first | (with_reducible assumption) | assumption)
                have q373 : (ji45) < (l1.length : Int) := of_decide_eq_true (by first | (with_reducible assumption) | assumption)
                obtain ⟨ad373, e373, hx373_0⟩ := Kd.at_int HR1.out (ji45) p373 q373
                cases e373
                replace hx373_0 := (HB.out.cell (World.block_lt_of_cell? w _ hx373_0)).trans hx373_0
                replace p373 := eq_true p373
                replace q373 := eq_true q373
                go_wp2_with (first | (go_at_call 27; (with_reducible refine (palinodelaw19_pick.calls (rd l1 (ji45)) 3 t374 _ A48.out).mono ?_); rintro e w' ⟨rfl, ⟨nd, rfl⟩⟩; (try first | exact ⟨rfl, _, World.drewN_drewN _ _ _⟩ | exact ⟨rfl, _, Eq.trans (World.drewN_drewN _ _ _) (congrArg (World.drewN _) (Nat.add_assoc _ _ _))⟩); obtain ⟨hnb73, hnc73⟩ := Zo NB370_355; obtain ⟨⟨hcz74_0, hcz74_1, hcz74_2, hcz74_3, hcz74_4, hcz74_5, hcz74_6⟩, hfz74_0, hfz74_1, hfz74_2, hfz74_3, hfz74_4, hfz74_5, hfz74_6⟩ := Zk7 BK370; have p377 : 0 ≤ ((ji45) : Int) := of_decide_eq_true (by first | (with_reducible assumption) | assumption); have q377 : (ji45) < (t359.length : Int) := of_decide_eq_true (by first | (with_reducible assumption) | assumption); obtain ⟨ad377, e377, hx377_0, hx377_1, hx377_2, hx377_3⟩ := at_T35 (Kd.R_reads' HO_8.out).2.2 (ji45) p377 q377; cases e377; replace p377 := eq_true p377; replace q377 := eq_true q377; have p378 : 0 ≤ ((ji45) : Int) := of_decide_eq_true (by first | (with_reducible assumption) | assumption); have q378 : (ji45) < (t359.length : Int) := of_decide_eq_true (by first | (with_reducible assumption) | assumption); obtain ⟨ad378, e378, hx378_0, hx378_1, hx378_2, hx378_3⟩ := at_T35 (Kd.R_reads' HO_8.out).2.2 (ji45) p378 q378; obtain rfl : ad377 = ad378 := (by injection e378); replace p378 := eq_true p378; replace q378 := eq_true q378; have p380 : 0 ≤ ((ji45) : Int) := of_decide_eq_true (by first | (with_reducible assumption) | assumption); have q380 : (ji45) < (t359.length : Int) := of_decide_eq_true (by first | (with_reducible assumption) | assumption); obtain ⟨ad380, e380, hx380_0, hx380_1, hx380_2, hx380_3⟩ := at_T35 (Kd.R_reads' HO_8.out).2.2 (ji45) p380 q380; obtain rfl : ad377 = ad380 := (by injection e380); replace p380 := eq_true p380; replace q380 := eq_true q380))
                repeat (go_quiet (first | (go_at_call 27; (with_reducible refine (palinodelaw19_pick.calls (rd l1 (ji45)) 3 t374 _ A48.out).mono ?_); rintro e w' ⟨rfl, ⟨nd, rfl⟩⟩; (try first | exact ⟨rfl, _, World.drewN_drewN _ _ _⟩ | exact ⟨rfl, _, Eq.trans (World.drewN_drewN _ _ _) (congrArg (World.drewN _) (Nat.add_assoc _ _ _))⟩); obtain ⟨hnb73, hnc73⟩ := Zo NB370_355; obtain ⟨⟨hcz74_0, hcz74_1, hcz74_2, hcz74_3, hcz74_4, hcz74_5, hcz74_6⟩, hfz74_0, hfz74_1, hfz74_2, hfz74_3, hfz74_4, hfz74_5, hfz74_6⟩ := Zk7 BK370; have p377 : 0 ≤ ((ji45) : Int) := of_decide_eq_true (by first | (with_reducible assumption) | assumption); have q377 : (ji45) < (t359.length : Int) := of_decide_eq_true (by first | (with_reducible assumption) | assumption); obtain ⟨ad377, e377, hx377_0, hx377_1, hx377_2, hx377_3⟩ := at_T35 (Kd.R_reads' HO_8.out).2.2 (ji45) p377 q377; cases e377; replace p377 := eq_true p377; replace q377 := eq_true q377; have p378 : 0 ≤ ((ji45) : Int) := of_decide_eq_true (by first | (with_reducible assumption) | assumption); have q378 : (ji45) < (t359.length : Int) := of_decide_eq_true (by first | (with_reducible assumption) | assumption); obtain ⟨ad378, e378, hx378_0, hx378_1, hx378_2, hx378_3⟩ := at_T35 (Kd.R_reads' HO_8.out).2.2 (ji45) p378 q378; obtain rfl : ad377 = ad378 := (by injection e378); replace p378 := eq_true p378; replace q378 := eq_true q378; have p380 : 0 ≤ ((ji45) : Int) := of_decide_eq_true (by first | (with_reducible assumption) | assumption); have q380 : (ji45) < (t359.length : Int) := of_decide_eq_true (by first | (with_reducible assumption) | assumption); obtain ⟨ad380, e380, hx380_0, hx380_1, hx380_2, hx380_3⟩ := at_T35 (Kd.R_reads' HO_8.out).2.2 (ji45) p380 q380; obtain rfl : ad377 = ad380 := (by injection e380); replace p380 := eq_true p380; replace q380 := eq_true q380)); try go_wp2_with (first | (go_at_call 27; (with_reducible refine (palinodelaw19_pick.calls (rd l1 (ji45)) 3 t374 _ A48.out).mono ?_); rintro e w' ⟨rfl, ⟨nd, rfl⟩⟩; (try first | exact ⟨rfl, _, World.drewN_drewN _ _ _⟩ | exact ⟨rfl, _, Eq.trans (World.drewN_drewN _ _ _) (congrArg (World.drewN _) (Nat.add_assoc _ _ _))⟩); obtain ⟨hnb73, hnc73⟩ := Zo NB370_355; obtain ⟨⟨hcz74_0, hcz74_1, hcz74_2, hcz74_3, hcz74_4, hcz74_5, hcz74_6⟩, hfz74_0, hfz74_1, hfz74_2, hfz74_3, hfz74_4, hfz74_5, hfz74_6⟩ := Zk7 BK370; have p377 : 0 ≤ ((ji45) : Int) := of_decide_eq_true (by first | (with_reducible assumption) | assumption); have q377 : (ji45) < (t359.length : Int) := of_decide_eq_true (by first | (with_reducible assumption) | assumption); obtain ⟨ad377, e377, hx377_0, hx377_1, hx377_2, hx377_3⟩ := at_T35 (Kd.R_reads' HO_8.out).2.2 (ji45) p377 q377; cases e377; replace p377 := eq_true p377; replace q377 := eq_true q377; have p378 : 0 ≤ ((ji45) : Int) := of_decide_eq_true (by first | (with_reducible assumption) | assumption); have q378 : (ji45) < (t359.length : Int) := of_decide_eq_true (by first | (with_reducible assumption) | assumption); obtain ⟨ad378, e378, hx378_0, hx378_1, hx378_2, hx378_3⟩ := at_T35 (Kd.R_reads' HO_8.out).2.2 (ji45) p378 q378; obtain rfl : ad377 = ad378 := (by injection e378); replace p378 := eq_true p378; replace q378 := eq_true q378; have p380 : 0 ≤ ((ji45) : Int) := of_decide_eq_true (by first | (with_reducible assumption) | assumption); have q380 : (ji45) < (t359.length : Int) := of_decide_eq_true (by first | (with_reducible assumption) | assumption); obtain ⟨ad380, e380, hx380_0, hx380_1, hx380_2, hx380_3⟩ := at_T35 (Kd.R_reads' HO_8.out).2.2 (ji45) p380 q380; obtain rfl : ad377 = ad380 := (by injection e380); replace p380 := eq_true p380; replace q380 := eq_true q380)))
                go_ret
                exact ⟨by first | rfl | (simp [errW_none, errW_some] <;> rfl) | (simp only [← hji45]; first | rfl | (simp [errW_none, errW_some] <;> rfl)) | (simp [*, errW_none, errW_some] <;> rfl), Yr HB⟩
               ·
                rw [if_neg c71] at H
                have c71b0 : (((rd_T35 t359 (ji45)).f2) == 1) = false := beq_eq_false_iff_ne.mpr c71
                have c71b1 : (((rd_T35 t359 (ji45)).f2) != 1) = true := bne_iff_ne.mpr c71
                exact absurd ((Option.some.inj H).trans HRT_.out) (by decide)
             ·
              rw [if_neg c61] at H
              have c61b0 : (((rd_T35 t359 (ji45)).f1) == 0) = false := beq_eq_false_iff_ne.mpr c61
              have c61b1 : (((rd_T35 t359 (ji45)).f1) != 0) = true := bne_iff_ne.mpr c61
              exact absurd ((Option.some.inj H).trans HRT_.out) (by decide)
            ·
             rw [if_neg c60] at H
             exact absurd H (by simp)
           ·
            replace c59 := Bool.eq_false_iff.mpr c59
            subst c59
            have H1 : (some false) = some r := by rw [if_neg (show ¬ (false = true) by decide)] at H; exact H
            clear H
            have H := H1
            clear H1
            exact absurd ((Option.some.inj H).trans HRT_.out) (by decide)
          ·
           rw [if_neg c58] at H
           have c58b0 : (t364 == 4) = false := beq_eq_false_iff_ne.mpr c58
           have c58b1 : (t364 != 4) = true := bne_iff_ne.mpr c58
           by_cases c75 : t364 = 5
           ·
            rw [if_pos c75] at H
            have c75b0 : (t364 == 5) = true := beq_iff_eq.mpr c75
            have c75b1 : (t364 != 5) = false := bne_eq_false_iff_eq.mpr c75
            clear c75
            by_cases c76 : t356 = true
            ·
             subst c76
             have H1 : (if (ji45) < (t359.length : Int) then (if ((rd_T35 t359 (ji45)).f2) = 2 then (if (wrap64 (1 + t374)) = 1 then (some false) else (if 0 ≤ ((rd_T35 t359 (ji45)).f1) then (if ((rd_T35 t359 (ji45)).f1) < (l0_1.length : Int) then (if ((rd_T35 t359 (ji45)).f3) = ((rd_T53 l0_1 ((rd_T35 t359 (ji45)).f1)).f0) then (some (t365 == ((rd_T35 t359 (ji45)).f1))) else (some false)) else (none)) else (none))) else (some false)) else (none)) = some r := by rw [if_pos rfl] at H; exact H
             clear H
             have H := H1
             clear H1
             by_cases c77 : (ji45) < (t359.length : Int)
             ·
              rw [if_pos c77] at H
              have c77b0 : decide ((ji45) < (t359.length : Int)) = true := decide_eq_true c77
              clear c77
              by_cases c78 : ((rd_T35 t359 (ji45)).f2) = 2
              ·
               rw [if_pos c78] at H
               have c78b0 : (((rd_T35 t359 (ji45)).f2) == 2) = true := beq_iff_eq.mpr c78
               have c78b1 : (((rd_T35 t359 (ji45)).f2) != 2) = false := bne_eq_false_iff_eq.mpr c78
               clear c78
               by_cases c79 : (wrap64 (1 + t374)) = 1
               ·
                rw [if_pos c79] at H
                have c79b0 : ((wrap64 (1 + t374)) == 1) = true := beq_iff_eq.mpr c79
                have c79b1 : ((wrap64 (1 + t374)) != 1) = false := bne_eq_false_iff_eq.mpr c79
                clear c79
                exact absurd ((Option.some.inj H).trans HRT_.out) (by decide)
               ·
                rw [if_neg c79] at H
                have c79b0 : ((wrap64 (1 + t374)) == 1) = false := beq_eq_false_iff_ne.mpr c79
                have c79b1 : ((wrap64 (1 + t374)) != 1) = true := bne_iff_ne.mpr c79
                by_cases c80 : 0 ≤ ((rd_T35 t359 (ji45)).f1)
                ·
                 rw [if_pos c80] at H
                 have c80b0 : decide (0 ≤ ((rd_T35 t359 (ji45)).f1)) = true := decide_eq_true c80
                 clear c80
                 by_cases c81 : ((rd_T35 t359 (ji45)).f1) < (l0_1.length : Int)
                 ·
                  rw [if_pos c81] at H
                  have c81b0 : decide (((rd_T35 t359 (ji45)).f1) < (l0_1.length : Int)) = true := decide_eq_true c81
                  clear c81
                  by_cases c82 : ((rd_T35 t359 (ji45)).f3) = ((rd_T53 l0_1 ((rd_T35 t359 (ji45)).f1)).f0)
                  ·
                   rw [if_pos c82] at H
                   have c82b0 : (((rd_T35 t359 (ji45)).f3) == ((rd_T53 l0_1 ((rd_T35 t359 (ji45)).f1)).f0)) = true := beq_iff_eq.mpr c82
                   have c82b1 : (((rd_T35 t359 (ji45)).f3) != ((rd_T53 l0_1 ((rd_T35 t359 (ji45)).f1)).f0)) = false := bne_eq_false_iff_eq.mpr c82
                   clear c82
                   obtain rfl := Option.some.inj H
                   obtain ⟨Ao83, co83, eo83⟩ := Kd.R_slice HO_8.out
                   subst eo83
                   have p373 : 0 ≤ ((ji45) : Int) := of_decide_eq_true (by first | (with_reducible assumption) | assumption)
                   have q373 : (ji45) < (l1.length : Int) := of_decide_eq_true (by first | (with_reducible assumption) | assumption)
                   obtain ⟨ad373, e373, hx373_0⟩ := Kd.at_int HR1.out (ji45) p373 q373
                   cases e373
                   replace hx373_0 := (HB.out.cell (World.block_lt_of_cell? w _ hx373_0)).trans hx373_0
                   replace p373 := eq_true p373
                   replace q373 := eq_true q373
                   go_wp2_with (first | (go_at_call 27; (with_reducible refine (palinodelaw19_pick.calls (rd l1 (ji45)) 3 t374 _ A48.out).mono ?_); rintro e w' ⟨rfl, ⟨nd, rfl⟩⟩; (try first | exact ⟨rfl, _, World.drewN_drewN _ _ _⟩ | exact ⟨rfl, _, Eq.trans (World.drewN_drewN _ _ _) (congrArg (World.drewN _) (Nat.add_assoc _ _ _))⟩); obtain ⟨hnb84, hnc84⟩ := Zo NB370_355; obtain ⟨⟨hcz85_0, hcz85_1, hcz85_2, hcz85_3, hcz85_4, hcz85_5, hcz85_6⟩, hfz85_0, hfz85_1, hfz85_2, hfz85_3, hfz85_4, hfz85_5, hfz85_6⟩ := Zk7 BK370; have p381 : 0 ≤ ((ji45) : Int) := of_decide_eq_true (by first | (with_reducible assumption) | assumption); have q381 : (ji45) < (t359.length : Int) := of_decide_eq_true (by first | (with_reducible assumption) | assumption); obtain ⟨ad381, e381, hx381_0, hx381_1, hx381_2, hx381_3⟩ := at_T35 (Kd.R_reads' HO_8.out).2.2 (ji45) p381 q381; cases e381; replace p381 := eq_true p381; replace q381 := eq_true q381; have p382 : 0 ≤ ((ji45) : Int) := of_decide_eq_true (by first | (with_reducible assumption) | assumption); have q382 : (ji45) < (t359.length : Int) := of_decide_eq_true (by first | (with_reducible assumption) | assumption); obtain ⟨ad382, e382, hx382_0, hx382_1, hx382_2, hx382_3⟩ := at_T35 (Kd.R_reads' HO_8.out).2.2 (ji45) p382 q382; obtain rfl : ad381 = ad382 := (by injection e382); replace p382 := eq_true p382; replace q382 := eq_true q382; obtain ⟨⟨hcz86_0, hcz86_1⟩, hfz86_0, hfz86_1⟩ := Zk2 BK355; have p383 : 0 ≤ ((ji45) : Int) := of_decide_eq_true (by first | (with_reducible assumption) | assumption); have q383 : (ji45) < (t359.length : Int) := of_decide_eq_true (by first | (with_reducible assumption) | assumption); obtain ⟨ad383, e383, hx383_0, hx383_1, hx383_2, hx383_3⟩ := at_T35 (Kd.R_reads' HO_8.out).2.2 (ji45) p383 q383; obtain rfl : ad381 = ad383 := (by injection e383); replace p383 := eq_true p383; replace q383 := eq_true q383; have p384 : 0 ≤ (((rd_T35 t359 (ji45)).f1) : Int) := of_decide_eq_true (by first | (with_reducible assumption) | assumption); have q384 : ((rd_T35 t359 (ji45)).f1) < (l0_1.length : Int) := of_decide_eq_true (by first | (with_reducible assumption) | assumption); obtain ⟨ad384, e384, hx384_0, hx384_1⟩ := at_T53 HR0_1.out ((rd_T35 t359 (ji45)).f1) p384 q384; cases e384; replace hx384_0 := (HB.out.cell (World.block_lt_of_cell? w _ hx384_0)).trans hx384_0; replace hx384_1 := (HB.out.cell (World.block_lt_of_cell? w _ hx384_1)).trans hx384_1; replace p384 := eq_true p384; replace q384 := eq_true q384; have p385 : 0 ≤ ((ji45) : Int) := of_decide_eq_true (by first | (with_reducible assumption) | assumption); have q385 : (ji45) < (t359.length : Int) := of_decide_eq_true (by first | (with_reducible assumption) | assumption); obtain ⟨ad385, e385, hx385_0, hx385_1, hx385_2, hx385_3⟩ := at_T35 (Kd.R_reads' HO_8.out).2.2 (ji45) p385 q385; obtain rfl : ad381 = ad385 := (by injection e385); replace p385 := eq_true p385; replace q385 := eq_true q385))
                   repeat (go_quiet (first | (go_at_call 27; (with_reducible refine (palinodelaw19_pick.calls (rd l1 (ji45)) 3 t374 _ A48.out).mono ?_); rintro e w' ⟨rfl, ⟨nd, rfl⟩⟩; (try first | exact ⟨rfl, _, World.drewN_drewN _ _ _⟩ | exact ⟨rfl, _, Eq.trans (World.drewN_drewN _ _ _) (congrArg (World.drewN _) (Nat.add_assoc _ _ _))⟩); obtain ⟨hnb84, hnc84⟩ := Zo NB370_355; obtain ⟨⟨hcz85_0, hcz85_1, hcz85_2, hcz85_3, hcz85_4, hcz85_5, hcz85_6⟩, hfz85_0, hfz85_1, hfz85_2, hfz85_3, hfz85_4, hfz85_5, hfz85_6⟩ := Zk7 BK370; have p381 : 0 ≤ ((ji45) : Int) := of_decide_eq_true (by first | (with_reducible assumption) | assumption); have q381 : (ji45) < (t359.length : Int) := of_decide_eq_true (by first | (with_reducible assumption) | assumption); obtain ⟨ad381, e381, hx381_0, hx381_1, hx381_2, hx381_3⟩ := at_T35 (Kd.R_reads' HO_8.out).2.2 (ji45) p381 q381; cases e381; replace p381 := eq_true p381; replace q381 := eq_true q381; have p382 : 0 ≤ ((ji45) : Int) := of_decide_eq_true (by first | (with_reducible assumption) | assumption); have q382 : (ji45) < (t359.length : Int) := of_decide_eq_true (by first | (with_reducible assumption) | assumption); obtain ⟨ad382, e382, hx382_0, hx382_1, hx382_2, hx382_3⟩ := at_T35 (Kd.R_reads' HO_8.out).2.2 (ji45) p382 q382; obtain rfl : ad381 = ad382 := (by injection e382); replace p382 := eq_true p382; replace q382 := eq_true q382; obtain ⟨⟨hcz86_0, hcz86_1⟩, hfz86_0, hfz86_1⟩ := Zk2 BK355; have p383 : 0 ≤ ((ji45) : Int) := of_decide_eq_true (by first | (with_reducible assumption) | assumption); have q383 : (ji45) < (t359.length : Int) := of_decide_eq_true (by first | (with_reducible assumption) | assumption); obtain ⟨ad383, e383, hx383_0, hx383_1, hx383_2, hx383_3⟩ := at_T35 (Kd.R_reads' HO_8.out).2.2 (ji45) p383 q383; obtain rfl : ad381 = ad383 := (by injection e383); replace p383 := eq_true p383; replace q383 := eq_true q383; have p384 : 0 ≤ (((rd_T35 t359 (ji45)).f1) : Int) := of_decide_eq_true (by first | (with_reducible assumption) | assumption); have q384 : ((rd_T35 t359 (ji45)).f1) < (l0_1.length : Int) := of_decide_eq_true (by first | (with_reducible assumption) | assumption); obtain ⟨ad384, e384, hx384_0, hx384_1⟩ := at_T53 HR0_1.out ((rd_T35 t359 (ji45)).f1) p384 q384; cases e384; replace hx384_0 := (HB.out.cell (World.block_lt_of_cell? w _ hx384_0)).trans hx384_0; replace hx384_1 := (HB.out.cell (World.block_lt_of_cell? w _ hx384_1)).trans hx384_1; replace p384 := eq_true p384; replace q384 := eq_true q384; have p385 : 0 ≤ ((ji45) : Int) := of_decide_eq_true (by first | (with_reducible assumption) | assumption); have q385 : (ji45) < (t359.length : Int) := of_decide_eq_true (by first | (with_reducible assumption) | assumption); obtain ⟨ad385, e385, hx385_0, hx385_1, hx385_2, hx385_3⟩ := at_T35 (Kd.R_reads' HO_8.out).2.2 (ji45) p385 q385; obtain rfl : ad381 = ad385 := (by injection e385); replace p385 := eq_true p385; replace q385 := eq_true q385)); try go_wp2_with (first | (go_at_call 27; (with_reducible refine (palinodelaw19_pick.calls (rd l1 (ji45)) 3 t374 _ A48.out).mono ?_); rintro e w' ⟨rfl, ⟨nd, rfl⟩⟩; (try first | exact ⟨rfl, _, World.drewN_drewN _ _ _⟩ | exact ⟨rfl, _, Eq.trans (World.drewN_drewN _ _ _) (congrArg (World.drewN _) (Nat.add_assoc _ _ _))⟩); obtain ⟨hnb84, hnc84⟩ := Zo NB370_355; obtain ⟨⟨hcz85_0, hcz85_1, hcz85_2, hcz85_3, hcz85_4, hcz85_5, hcz85_6⟩, hfz85_0, hfz85_1, hfz85_2, hfz85_3, hfz85_4, hfz85_5, hfz85_6⟩ := Zk7 BK370; have p381 : 0 ≤ ((ji45) : Int) := of_decide_eq_true (by first | (with_reducible assumption) | assumption); have q381 : (ji45) < (t359.length : Int) := of_decide_eq_true (by first | (with_reducible assumption) | assumption); obtain ⟨ad381, e381, hx381_0, hx381_1, hx381_2, hx381_3⟩ := at_T35 (Kd.R_reads' HO_8.out).2.2 (ji45) p381 q381; cases e381; replace p381 := eq_true p381; replace q381 := eq_true q381; have p382 : 0 ≤ ((ji45) : Int) := of_decide_eq_true (by first | (with_reducible assumption) | assumption); have q382 : (ji45) < (t359.length : Int) := of_decide_eq_true (by first | (with_reducible assumption) | assumption); obtain ⟨ad382, e382, hx382_0, hx382_1, hx382_2, hx382_3⟩ := at_T35 (Kd.R_reads' HO_8.out).2.2 (ji45) p382 q382; obtain rfl : ad381 = ad382 := (by injection e382); replace p382 := eq_true p382; replace q382 := eq_true q382; obtain ⟨⟨hcz86_0, hcz86_1⟩, hfz86_0, hfz86_1⟩ := Zk2 BK355; have p383 : 0 ≤ ((ji45) : Int) := of_decide_eq_true (by first | (with_reducible assumption) | assumption); have q383 : (ji45) < (t359.length : Int) := of_decide_eq_true (by first | (with_reducible assumption) | assumption); obtain ⟨ad383, e383, hx383_0, hx383_1, hx383_2, hx383_3⟩ := at_T35 (Kd.R_reads' HO_8.out).2.2 (ji45) p383 q383; obtain rfl : ad381 = ad383 := (by injection e383); replace p383 := eq_true p383; replace q383 := eq_true q383; have p384 : 0 ≤ (((rd_T35 t359 (ji45)).f1) : Int) := of_decide_eq_true (by first | (with_reducible assumption) | assumption); have q384 : ((rd_T35 t359 (ji45)).f1) < (l0_1.length : Int) := of_decide_eq_true (by first | (with_reducible assumption) | assumption); obtain ⟨ad384, e384, hx384_0, hx384_1⟩ := at_T53 HR0_1.out ((rd_T35 t359 (ji45)).f1) p384 q384; cases e384; replace hx384_0 := (HB.out.cell (World.block_lt_of_cell? w _ hx384_0)).trans hx384_0; replace hx384_1 := (HB.out.cell (World.block_lt_of_cell? w _ hx384_1)).trans hx384_1; replace p384 := eq_true p384; replace q384 := eq_true q384; have p385 : 0 ≤ ((ji45) : Int) := of_decide_eq_true (by first | (with_reducible assumption) | assumption); have q385 : (ji45) < (t359.length : Int) := of_decide_eq_true (by first | (with_reducible assumption) | assumption); obtain ⟨ad385, e385, hx385_0, hx385_1, hx385_2, hx385_3⟩ := at_T35 (Kd.R_reads' HO_8.out).2.2 (ji45) p385 q385; obtain rfl : ad381 = ad385 := (by injection e385); replace p385 := eq_true p385; replace q385 := eq_true q385)))
                   go_ret
                   first | (refine absurd c82b0 ?_; simp [*]; done) | exact ⟨by first | rfl | (simp [errW_none, errW_some] <;> rfl) | (simp only [← hji45]; first | rfl | (simp [errW_none, errW_some] <;> rfl)) | (simp [*, errW_none, errW_some] <;> rfl), Yr HB⟩
                  ·
                   rw [if_neg c82] at H
                   have c82b0 : (((rd_T35 t359 (ji45)).f3) == ((rd_T53 l0_1 ((rd_T35 t359 (ji45)).f1)).f0)) = false := beq_eq_false_iff_ne.mpr c82
                   have c82b1 : (((rd_T35 t359 (ji45)).f3) != ((rd_T53 l0_1 ((rd_T35 t359 (ji45)).f1)).f0)) = true := bne_iff_ne.mpr c82
                   exact absurd ((Option.some.inj H).trans HRT_.out) (by decide)
                 ·
                  rw [if_neg c81] at H
                  exact absurd H (by simp)
                ·
                 rw [if_neg c80] at H
                 exact absurd H (by simp)
              ·
               rw [if_neg c78] at H
               have c78b0 : (((rd_T35 t359 (ji45)).f2) == 2) = false := beq_eq_false_iff_ne.mpr c78
               have c78b1 : (((rd_T35 t359 (ji45)).f2) != 2) = true := bne_iff_ne.mpr c78
               exact absurd ((Option.some.inj H).trans HRT_.out) (by decide)
             ·
              rw [if_neg c77] at H
              exact absurd H (by simp)
            ·
             replace c76 := Bool.eq_false_iff.mpr c76
             subst c76
             have H1 : (some false) = some r := by rw [if_neg (show ¬ (false = true) by decide)] at H; exact H
             clear H
             have H := H1
             clear H1
             exact absurd ((Option.some.inj H).trans HRT_.out) (by decide)
           ·
            rw [if_neg c75] at H
            have c75b0 : (t364 == 5) = false := beq_eq_false_iff_ne.mpr c75
            have c75b1 : (t364 != 5) = true := bne_iff_ne.mpr c75
            exact absurd ((Option.some.inj H).trans HRT_.out) (by decide)
        ·
         rw [if_neg c47] at H
         exact absurd H (by simp)
       ·
        rw [if_neg c46] at H
        exact absurd H (by simp)

/-- THE ONE PURE STATEMENT of palinodelaw19_SagaEnds. -/
def palinodelaw19_SagaEnds.Pure : Prop := (∀ k_ r_, palinodelaw19_examples.f k_ = some r_ → r_ = true) ∧ ∀ (a0_0 : ByteArray) (l0_1 : List (S53)) (l1 : List Int) (a2 : Int), a0_0.size ≤ 140737488351232 → (l0_1.length ≤ maxLen ∧ l0_1.length * 16 ≤ 140737488351232 ∧ ∀ x_ ∈ l0_1, V53 x_) → (l1.length ≤ maxLen ∧ l1.length * 8 ≤ 140737488351232 ∧ ∀ x_ ∈ l1, (Lit.int .i64 x_).wf = true) → (Lit.int .i64 a2).wf = true → ∃ k, palinodelaw19_SagaEnds.f k a0_0 l0_1 l1 a2 = some true
theorem palinodelaw19_SagaEnds.walk (P : palinodelaw19_SagaEnds.Pure) (a0_0 : ByteArray) (A0_1 : Option Addr) (c0_1 : Nat) (l0_1 : List (S53)) (A1 : Option Addr) (c1 : Nat) (l1 : List Int) (a2 : Int) (w : World) (v0_0 : a0_0.size ≤ 140737488351232) (hr0_1 : Kd.C k53 w A0_1 l0_1.length l0_1) (hc0_1 : l0_1.length ≤ c0_1) (v0_1 : (l0_1.length ≤ maxLen ∧ l0_1.length * 16 ≤ 140737488351232 ∧ ∀ x_ ∈ l0_1, V53 x_)) (hr1 : Kd.C (Kd.int .i64) w A1 l1.length l1) (hc1 : l1.length ≤ c1) (v1 : (l1.length ≤ maxLen ∧ l1.length * 8 ≤ 140737488351232 ∧ ∀ x_ ∈ l1, (Lit.int .i64 x_).wf = true)) (v2 : (Lit.int .i64 a2).wf = true) :
  Calls Try.prog 10 #[.agg #[.string a0_0, .slice A0_1 l0_1.length c0_1], .slice A1 l1.length c1, .int .i64 a2] w fun e w' => e = .returned (.bool true) ∧ Below w.heap.size w w' := by
 obtain ⟨k, h⟩ := P.2 a0_0 l0_1 l1 a2 v0_0 v0_1 v1 v2
 refine (palinodelaw19_SagaEnds.calls k a0_0 A0_1 c0_1 l0_1 A1 c1 l1 a2 true w hr0_1 hc0_1 hr1 hc1 h ⟨P.1⟩).mono ?_
 rintro e w' ⟨rfl, hd⟩
 exact ⟨rfl, hd⟩

end Go.Proofs.Ytfhlpkcapohnoaa.Print
