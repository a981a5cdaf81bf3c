-- Printed out of the translation by a program of this session's own. Not trusted: Lean checks it.
import Derived.Test.YteljlfodjbgejaaPrint0
import Derived.Test.YteljlfodjbgejaaPrint1
import Derived.Test.YteljlfodjbgejaaPrint5
import Derived.Test.YteljlfodjbgejaaPrint6
import Derived.Test.YteljlfodjbgejaaHMergeSee
namespace Go.Proofs.Yteljlfodjbgejaa.Print
open Go.RowKit Go.Proofs.YteljlfodjbgejaaW.PrintWords Go.Proofs.YteljlfodjbgejaaW.PrintLast Go.Proofs.YteljlfodjbgejaaW.PrintMore Go.Proofs.YteljlfodjbgejaaX
attribute [local go_sem] max2_int min2_int max_two min_two max_three min_three max_four min_four   -- for this text's walks alone
set_option linter.unusedVariables false
set_option linter.unusedSimpArgs false

attribute [local go_sem high] eqA34
/-! ### palinodelaw15_MergeSees: function 8 -/
mutual
def palinodelaw15_MergeSees.l0 : Nat → List (S34) → Int → Bool → List (S34) → Int → Option (Bool)
 | 0, _, _, _, _, _ => none
 | k + 1, x0, x1, x5, x6, x8 => if x8 < (x6.length : Int) then (if 0 ≤ x8 then (if (rd_T34 x6 x8).f2 = true then (palinodelaw15_MergeSees.j1 k x0 x1 x5 x6 x8 true) else (if ((rd_T34 x6 x8).f1) > x1 then (palinodelaw15_MergeSees.j1 k x0 x1 x5 x6 x8 true) else (if x8 > 0 then (if 0 ≤ (wrap64 (x8 - 1)) then (if (wrap64 (x8 - 1)) < (x6.length : Int) then (palinodelaw15_MergeSees.j1 k x0 x1 x5 x6 x8 (!(Op.bytesLess (((rd_T34 x6 (wrap64 (x8 - 1))).f0).toList) (((rd_T34 x6 x8).f0).toList)))) else (none)) else (none)) else (palinodelaw15_MergeSees.j1 k x0 x1 x5 x6 x8 false)))) else (none)) else (palinodelaw15_MergeSees.l1 k x0 x1 x5 x6 0 0)
def palinodelaw15_MergeSees.j1 : Nat → List (S34) → Int → Bool → List (S34) → Int → Bool → Option (Bool)
 | 0, _, _, _, _, _, _ => none
 | k + 1, x0, x1, x5, x6, x8, x72 => if x72 = true then (some false) else (if 0 ≤ x8 then (if x8 < (x6.length : Int) then ((block_Find.f k x0 ((rd_T34 x6 x8).f0) x1).bind fun bt397 => (if bt397.2.2.2.2 = true then (if (!(bt397.1.toList == (((rd_T34 x6 x8).f0).toList)) || (!(bt397.2.1 == ((rd_T34 x6 x8).f1)) || (!(bt397.2.2.1 == ((rd_T34 x6 x8).f2)) || (!(bt397.2.2.2.1.toList == (((rd_T34 x6 x8).f3).toList)))))) = true then (some false) else (palinodelaw15_MergeSees.l0 k x0 x1 x5 x6 (wrap64 (x8 + 1)))) else (some false))) else (none)) else (none))
def palinodelaw15_MergeSees.l1 : Nat → List (S34) → Int → Bool → List (S34) → Int → Int → Option (Bool)
 | 0, _, _, _, _, _, _ => none
 | k + 1, x0, x1, x5, x6, x11, x12 => if x12 < (x0.length : Int) then (if 0 ≤ x12 then ((block_Find.f k x0 ((rd_T34 x0 x12).f0) x1).bind fun bt405 => (if bt405.2.2.2.2 = true then (if (bt405.1.toList == (((rd_T34 x0 x12).f0).toList) && (bt405.2.1 == ((rd_T34 x0 x12).f1) && (bt405.2.2.1 == ((rd_T34 x0 x12).f2) && (bt405.2.2.2.1.toList == (((rd_T34 x0 x12).f3).toList))))) = true then (if bt405.2.2.1 = true then (palinodelaw15_MergeSees.l1 k x0 x1 x5 x6 x11 (wrap64 (x12 + 1))) else (palinodelaw15_MergeSees.l1 k x0 x1 x5 x6 (wrap64 (x11 + 1)) (wrap64 (x12 + 1)))) else (palinodelaw15_MergeSees.l1 k x0 x1 x5 x6 x11 (wrap64 (x12 + 1)))) else (palinodelaw15_MergeSees.l1 k x0 x1 x5 x6 x11 (wrap64 (x12 + 1))))) else (none)) else (if x5 = true then (some (x11 == (x6.length : Int))) else (some false))
end
def palinodelaw15_MergeSees.f (k : Nat) (l0 : List (S34)) (a1 : Int) : Option (Bool) := (palinodelaw15_examples.f).bind fun t382 => (if 0 ≤ (mn (l0.length : Int) 80) then (if (mn (l0.length : Int) 80) ≤ (l0.length : Int) then ((some (l0.take ((mn (l0.length : Int) 80) : Int).toNat : List (S34))).bind fun y383 => ((merge_See.f y383 a1).bind fun bt387 => (if bt387.2.isNone = true then (palinodelaw15_MergeSees.l0 k y383 a1 t382 bt387.1 0) else (if t382 = true then (some ((bt387.1.length : Int) == 0)) else (some false))))) else (none)) else (none))
theorem palinodelaw15_MergeSees.mono_l : ∀ k, (∀ y0 y1 y2 y3 y4, LeO (palinodelaw15_MergeSees.l0 k y0 y1 y2 y3 y4) (palinodelaw15_MergeSees.l0 (k + 1) y0 y1 y2 y3 y4)) ∧ (∀ y0 y1 y2 y3 y4 y5, LeO (palinodelaw15_MergeSees.j1 k y0 y1 y2 y3 y4 y5) (palinodelaw15_MergeSees.j1 (k + 1) y0 y1 y2 y3 y4 y5)) ∧ (∀ y0 y1 y2 y3 y4 y5, LeO (palinodelaw15_MergeSees.l1 k y0 y1 y2 y3 y4 y5) (palinodelaw15_MergeSees.l1 (k + 1) y0 y1 y2 y3 y4 y5))
 | 0 => ⟨fun _ _ _ _ _ r h => by simp [palinodelaw15_MergeSees.l0] at h, fun _ _ _ _ _ _ r h => by simp [palinodelaw15_MergeSees.j1] at h, fun _ _ _ _ _ _ r h => by simp [palinodelaw15_MergeSees.l1] at h⟩
 | k + 1 => by
  obtain ⟨ih0, ih1, ih2⟩ := palinodelaw15_MergeSees.mono_l k
  refine ⟨?_, ?_, ?_⟩
  ·
   intro y0 y1 y2 y3 y4
   unfold palinodelaw15_MergeSees.l0
   repeat' first
   | (with_reducible exact ih0 _ _ _ _ _)
   | (with_reducible exact ih1 _ _ _ _ _ _)
   | (with_reducible exact ih2 _ _ _ _ _ _)
   | (with_reducible exact block_Find.mono _ _ _ _)
   | (with_reducible exact LeO.refl _)
   | (with_reducible exact LeO.none _)
   | (with_reducible refine LeO.ite ?_ ?_)
   | (with_reducible refine LeO.bind ?_ (fun _ => ?_))
   | exact ih0 _ _ _ _ _
   | exact ih1 _ _ _ _ _ _
   | exact ih2 _ _ _ _ _ _
   | exact block_Find.mono _ _ _ _
   | exact LeO.none _
   | refine LeO.ite ?_ ?_
   | refine LeO.bind ?_ (fun _ => ?_)
  ·
   intro y0 y1 y2 y3 y4 y5
   unfold palinodelaw15_MergeSees.j1
   repeat' first
   | (with_reducible exact ih0 _ _ _ _ _)
   | (with_reducible exact ih1 _ _ _ _ _ _)
   | (with_reducible exact ih2 _ _ _ _ _ _)
   | (with_reducible exact block_Find.mono _ _ _ _)
   | (with_reducible exact LeO.refl _)
   | (with_reducible exact LeO.none _)
   | (with_reducible refine LeO.ite ?_ ?_)
   | (with_reducible refine LeO.bind ?_ (fun _ => ?_))
   | exact ih0 _ _ _ _ _
   | exact ih1 _ _ _ _ _ _
   | exact ih2 _ _ _ _ _ _
   | exact block_Find.mono _ _ _ _
   | exact LeO.none _
   | refine LeO.ite ?_ ?_
   | refine LeO.bind ?_ (fun _ => ?_)
  ·
   intro y0 y1 y2 y3 y4 y5
   unfold palinodelaw15_MergeSees.l1
   repeat' first
   | (with_reducible exact ih0 _ _ _ _ _)
   | (with_reducible exact ih1 _ _ _ _ _ _)
   | (with_reducible exact ih2 _ _ _ _ _ _)
   | (with_reducible exact block_Find.mono _ _ _ _)
   | (with_reducible exact LeO.refl _)
   | (with_reducible exact LeO.none _)
   | (with_reducible refine LeO.ite ?_ ?_)
   | (with_reducible refine LeO.bind ?_ (fun _ => ?_))
   | exact ih0 _ _ _ _ _
   | exact ih1 _ _ _ _ _ _
   | exact ih2 _ _ _ _ _ _
   | exact block_Find.mono _ _ _ _
   | exact LeO.none _
   | refine LeO.ite ?_ ?_
   | refine LeO.bind ?_ (fun _ => ?_)
theorem palinodelaw15_MergeSees.mono : ∀ a0 a1 k, LeO (palinodelaw15_MergeSees.f k a0 a1) (palinodelaw15_MergeSees.f (k + 1) a0 a1) := by
 intro a0 a1 k
 obtain ⟨ih0, ih1, ih2⟩ := palinodelaw15_MergeSees.mono_l k
 unfold palinodelaw15_MergeSees.f
 repeat' first
   | (with_reducible exact ih0 _ _ _ _ _)
   | (with_reducible exact ih1 _ _ _ _ _ _)
   | (with_reducible exact ih2 _ _ _ _ _ _)
   | (with_reducible exact block_Find.mono _ _ _ _)
   | (with_reducible exact LeO.refl _)
   | (with_reducible exact LeO.none _)
   | (with_reducible refine LeO.ite ?_ ?_)
   | (with_reducible refine LeO.bind ?_ (fun _ => ?_))
   | exact ih0 _ _ _ _ _
   | exact ih1 _ _ _ _ _ _
   | exact ih2 _ _ _ _ _ _
   | exact block_Find.mono _ _ _ _
   | exact LeO.none _
   | refine LeO.ite ?_ ?_
   | refine LeO.bind ?_ (fun _ => ?_)
set_option maxHeartbeats 8000000 in
set_option maxRecDepth 100000 in
theorem palinodelaw15_MergeSees.calls (k : Nat) (A0 : Option Addr) (c0 : Nat) (l0 : List (S34)) (a1 : Int) (r : Bool) (w : World) (hr0 : Kd.C k34 w A0 l0.length l0) (hc0 : l0.length ≤ c0) (h : palinodelaw15_MergeSees.f k l0 a1 = some r) (HEX_ : Aside0 (∀ r_, palinodelaw15_examples.f = some r_ → r_ = true)) (HRT_ : Aside0 (r = true) := by first | exact ⟨rfl⟩ | assumption) :
  Calls Try.prog 8 #[.slice A0 l0.length c0, .int .i64 a1] w fun e w' => e = .returned (.bool r) ∧ Below w.heap.size w w' := by
 have hleq_ := str_leq
 have hu34 := Try.underlying34
 have hu28 := Try.underlying28
 have hu50 := Try.underlying50
 have HR0 := Aside0.mk hr0
 have HC0 := Aside0.mk hc0
 clear hr0 hc0
 have HB := Aside0.mk (Below.refl w.heap.size w)
 have H : ((palinodelaw15_examples.f).bind fun t382 => (if 0 ≤ (mn (l0.length : Int) 80) then (if (mn (l0.length : Int) 80) ≤ (l0.length : Int) then ((some (l0.take ((mn (l0.length : Int) 80) : Int).toNat : List (S34))).bind fun y383 => ((merge_See.f y383 a1).bind fun bt387 => (if bt387.2.isNone = true then (palinodelaw15_MergeSees.l0 k y383 a1 t382 bt387.1 0) else (if t382 = true then (some ((bt387.1.length : Int) == 0)) else (some false))))) else (none)) else (none))) = some r := h
 clear h
 replace H := Option.bind_eq_some_iff.mp H
 obtain ⟨t382, A30, H⟩ := H
 replace H : (if 0 ≤ (mn (l0.length : Int) 80) then (if (mn (l0.length : Int) 80) ≤ (l0.length : Int) then ((some (l0.take ((mn (l0.length : Int) 80) : Int).toNat : List (S34))).bind fun y383 => ((merge_See.f y383 a1).bind fun bt387 => (if bt387.2.isNone = true then (palinodelaw15_MergeSees.l0 k y383 a1 t382 bt387.1 0) else (if t382 = true then (some ((bt387.1.length : Int) == 0)) else (some false))))) else (none)) else (none)) = some r := H
 have A3 := Aside0.mk A30
 have HTA3_ : Aside0 (t382 = true) := ⟨HEX_.out _ A30⟩
 clear A30
 obtain ⟨ji4, hji4⟩ : ∃ j_ : Int, (mn (l0.length : Int) 80) = j_ := ⟨_, rfl⟩
 replace H : (if 0 ≤ (ji4) then (if (ji4) ≤ (l0.length : Int) then ((some (l0.take ((ji4) : Int).toNat : List (S34))).bind fun y383 => ((merge_See.f y383 a1).bind fun bt387 => (if bt387.2.isNone = true then (palinodelaw15_MergeSees.l0 k y383 a1 t382 bt387.1 0) else (if t382 = true then (some ((bt387.1.length : Int) == 0)) else (some false))))) else (none)) else (none)) = some r := by first | (rw [hji4] at H; exact H) | (simp only [hji4] at H ⊢; exact H)
 (try rw [hji4] at A3)
 (try (have hji4h : ji4 ≤ 80 := by (rw [← hji4]; unfold mn; (repeat' split) <;> omega)))
 (try (have hji4g : ji4 ≤ 64 := by omega))
 (try (have hji4l : 0 ≤ ji4 := by (rw [← hji4]; unfold mn; (repeat' split) <;> omega)))
 (try (have hji4m : 0 ≤ ji4 := by omega))
 have hji4_ : (if 80 < (l0.length : Int) then 80 else (l0.length : Int)) = ji4 := hji4
 by_cases c5 : 0 ≤ (ji4)
 ·
  rw [if_pos c5] at H
  have c5b0 := eq_true c5
  have c5b1 : decide (0 ≤ (ji4)) = true := decide_eq_true c5
  clear c5
  by_cases c6 : (ji4) ≤ (l0.length : Int)
  ·
   rw [if_pos c6] at H
   have c6b0 := eq_true c6
   have c6b1 : decide ((ji4) ≤ (l0.length : Int)) = true := decide_eq_true c6
   clear c6
   obtain ⟨y383, hy383⟩ : ∃ y_ : List (S34), y_ = (l0.take ((ji4) : Int).toNat) := ⟨_, rfl⟩
   replace H : ((merge_See.f y383 a1).bind fun bt387 => (if bt387.2.isNone = true then (palinodelaw15_MergeSees.l0 k y383 a1 t382 bt387.1 0) else (if t382 = true then (some ((bt387.1.length : Int) == 0)) else (some false)))) = some r := by first | (rw [hy383]; with_reducible exact H) | (have H2_ := (Option.bind_some _ _).symm.trans H; rw [hy383]; with_reducible exact H2_) | (have H2_ := (Option.bind_some _ _).symm.trans H; with_reducible exact H2_) | with_reducible exact H | (rw [hy383]; exact H) | exact H
   have Ny383 := Aside0.mk hy383
   clear hy383
   replace H := Option.bind_eq_some_iff.mp H
   obtain ⟨⟨t387, t388⟩, A70, H⟩ := H
   replace H : (if t388.isNone = true then (palinodelaw15_MergeSees.l0 k y383 a1 t382 t387 0) else (if t382 = true then (some ((t387.length : Int) == 0)) else (some false))) = some r := H
   have A7 := Aside0.mk A70
   clear A70
   rcases t388 with _ | q391
   ·
    have H1 : (palinodelaw15_MergeSees.l0 k y383 a1 t382 t387 0) = some r := by rw [if_pos (show (none : Option Int).isNone = true by rfl)] at H; exact H
    clear H
    have H := H1
    clear H1
    try simp only [errW_none, errW_some]
    have H' := Aside0.mk H
    clear H
    go_enter Try.func8, Try.ntmps8
    go_wp2_with (first | (go_at_call 10; (with_reducible refine (palinodelaw15_examples.calls  t382 _ A3.out).mono ?_); rintro e w8 ⟨rfl, hb⟩; have n0_ := Aside0.mk (Yv HB hb); clear HB; have HB := n0_; clear n0_; (try clear hb); (try clear hb2); (try clear hk); (try clear hi); have q9 : ((ji4) : Int) ≤ ((l0.length : Int) : Int) := of_decide_eq_true (by first | (with_reducible assumption) | assumption); obtain ⟨i09, hi09, _, hsz9, _⟩ := info_parts info34; have hroom9 : l0.length ≤ c0 := HC0.out; have hC9 : Kd.C k34 _ A0 l0.length l0 := HR0.out; have hcut9 := cut_to (P := Try.prog) 24 34 .i64 Try.underlying24 hi09 A0 l0.length c0 (ji4) (of_decide_eq_true (by first | (with_reducible assumption) | assumption)) q9 hroom9; have hr9 := Kd.C_take (m := ((ji4) : Int).toNat) hC9 (by omega); have hy9 : y383.length = ((ji4) : Int).toNat := (by rw [Ny383.out, List.length_take]; omega); rw [← Ny383.out] at hr9; rw [← hy9] at hcut9; have HR386 := Aside0.mk hr9; have HC386 := Aside0.mk (show y383.length ≤ c0 from by omega); clear hr9 hC9 hroom9 hi09 hsz9; have KY9 := Aside0.mk hy9; clear hy9; replace q9 := eq_true q9) | (go_at_call 17; (with_reducible refine (merge_See.calls _ _ y383 a1 t387 none _ ?side1 ?side2 A7.out).mono ?_); (case side1 => repeat (first | exact (Kd.C_below HR386.out HB.out) | (with_reducible refine Kd.C_alloc ?_ _) | (with_reducible refine Kd.C_drewN ?_ _) | (with_reducible refine Kd.C_drew ?_))); (case side2 => exact HC386.out); rintro e w10 ⟨v389, rfl, ho0, hb⟩; have n0_ := Aside0.mk (Kd.R_lower ho0 (below_size (Yr HB))); have n1_ := Aside0.mk (Yv HB hb); clear HB; have HO390 := n0_; have HB := n1_; clear n0_ n1_; (try clear hb); (try clear hb2); (try clear hk); (try clear hi); (try clear ho0); (try simp only [errW_none, errW_some])))
    repeat (go_quiet (first | (go_at_call 10; (with_reducible refine (palinodelaw15_examples.calls  t382 _ A3.out).mono ?_); rintro e w8 ⟨rfl, hb⟩; have n0_ := Aside0.mk (Yv HB hb); clear HB; have HB := n0_; clear n0_; (try clear hb); (try clear hb2); (try clear hk); (try clear hi); have q9 : ((ji4) : Int) ≤ ((l0.length : Int) : Int) := of_decide_eq_true (by first | (with_reducible assumption) | assumption); obtain ⟨i09, hi09, _, hsz9, _⟩ := info_parts info34; have hroom9 : l0.length ≤ c0 := HC0.out; have hC9 : Kd.C k34 _ A0 l0.length l0 := HR0.out; have hcut9 := cut_to (P := Try.prog) 24 34 .i64 Try.underlying24 hi09 A0 l0.length c0 (ji4) (of_decide_eq_true (by first | (with_reducible assumption) | assumption)) q9 hroom9; have hr9 := Kd.C_take (m := ((ji4) : Int).toNat) hC9 (by omega); have hy9 : y383.length = ((ji4) : Int).toNat := (by rw [Ny383.out, List.length_take]; omega); rw [← Ny383.out] at hr9; rw [← hy9] at hcut9; have HR386 := Aside0.mk hr9; have HC386 := Aside0.mk (show y383.length ≤ c0 from by omega); clear hr9 hC9 hroom9 hi09 hsz9; have KY9 := Aside0.mk hy9; clear hy9; replace q9 := eq_true q9) | (go_at_call 17; (with_reducible refine (merge_See.calls _ _ y383 a1 t387 none _ ?side1 ?side2 A7.out).mono ?_); (case side1 => repeat (first | exact (Kd.C_below HR386.out HB.out) | (with_reducible refine Kd.C_alloc ?_ _) | (with_reducible refine Kd.C_drewN ?_ _) | (with_reducible refine Kd.C_drew ?_))); (case side2 => exact HC386.out); rintro e w10 ⟨v389, rfl, ho0, hb⟩; have n0_ := Aside0.mk (Kd.R_lower ho0 (below_size (Yr HB))); have n1_ := Aside0.mk (Yv HB hb); clear HB; have HO390 := n0_; have HB := n1_; clear n0_ n1_; (try clear hb); (try clear hb2); (try clear hk); (try clear hi); (try clear ho0); (try simp only [errW_none, errW_some]))); try go_wp2_with (first | (go_at_call 10; (with_reducible refine (palinodelaw15_examples.calls  t382 _ A3.out).mono ?_); rintro e w8 ⟨rfl, hb⟩; have n0_ := Aside0.mk (Yv HB hb); clear HB; have HB := n0_; clear n0_; (try clear hb); (try clear hb2); (try clear hk); (try clear hi); have q9 : ((ji4) : Int) ≤ ((l0.length : Int) : Int) := of_decide_eq_true (by first | (with_reducible assumption) | assumption); obtain ⟨i09, hi09, _, hsz9, _⟩ := info_parts info34; have hroom9 : l0.length ≤ c0 := HC0.out; have hC9 : Kd.C k34 _ A0 l0.length l0 := HR0.out; have hcut9 := cut_to (P := Try.prog) 24 34 .i64 Try.underlying24 hi09 A0 l0.length c0 (ji4) (of_decide_eq_true (by first | (with_reducible assumption) | assumption)) q9 hroom9; have hr9 := Kd.C_take (m := ((ji4) : Int).toNat) hC9 (by omega); have hy9 : y383.length = ((ji4) : Int).toNat := (by rw [Ny383.out, List.length_take]; omega); rw [← Ny383.out] at hr9; rw [← hy9] at hcut9; have HR386 := Aside0.mk hr9; have HC386 := Aside0.mk (show y383.length ≤ c0 from by omega); clear hr9 hC9 hroom9 hi09 hsz9; have KY9 := Aside0.mk hy9; clear hy9; replace q9 := eq_true q9) | (go_at_call 17; (with_reducible refine (merge_See.calls _ _ y383 a1 t387 none _ ?side1 ?side2 A7.out).mono ?_); (case side1 => repeat (first | exact (Kd.C_below HR386.out HB.out) | (with_reducible refine Kd.C_alloc ?_ _) | (with_reducible refine Kd.C_drewN ?_ _) | (with_reducible refine Kd.C_drew ?_))); (case side2 => exact HC386.out); rintro e w10 ⟨v389, rfl, ho0, hb⟩; have n0_ := Aside0.mk (Kd.R_lower ho0 (below_size (Yr HB))); have n1_ := Aside0.mk (Yv HB hb); clear HB; have HO390 := n0_; have HB := n1_; clear n0_ n1_; (try clear hb); (try clear hb2); (try clear hk); (try clear hi); (try clear ho0); (try simp only [errW_none, errW_some]))))
    go_loopg [8] k (fun kq v8 w' => ∃ (x8_1 : Int), v8 = .int .i64 x8_1 ∧ Aside0 (palinodelaw15_MergeSees.l0 kq y383 a1 t382 t387 x8_1 = some r) ∧ Aside0 (kq ≤ k) ∧ Aside0 (Kd.R k34 34 w' w.heap.size (fun _ => True) v389 t387) ∧ Aside0 (Below w.heap.size w w'))
    case atStart => exact ⟨(0), (by first | rfl | (simp; done) | (simp [*]; done)), H', ⟨Nat.le_refl _⟩, ⟨by (with_reducible repeat (first | apply Kd.R_alloc | apply Kd.R_drewN | apply Kd.R_drew)); exact HO390.out⟩, ⟨Yr HB⟩⟩
    case round =>
     clear H'
     try clear p2
     try clear q3
     try clear c5
     try clear c5b0
     try clear c5b1
     try clear c6
     try clear c6b0
     try clear c6b1
     try clear c8
     try clear q9
     try clear q391
     try clear q9
     obtain ⟨x8_1, rfl, HA, HK1, HO_6, HB⟩ := hrel
     cases gk with
     | zero => exact absurd HA.out (by simp [palinodelaw15_MergeSees.l0])
     | succ k1 =>
      have H := HA.out
      clear HA
      simp only [palinodelaw15_MergeSees.l0] at H
      by_cases c11 : x8_1 < (t387.length : Int)
      ·
       rw [if_pos c11] at H
       have c11b0 : decide (x8_1 < (t387.length : Int)) = true := decide_eq_true c11
       clear c11
       have HC12 := Aside0.mk H
       clear H
       obtain ⟨Ao13, co13, eo13⟩ := Kd.R_slice HO_6.out
       subst eo13
       go_upto_region 9 with (fail)
       repeat (go_quiet (fail); go_upto_region 9 with (fail))
       go_cut [72] (fun v72 wc => ∃ (kq : Nat) (x72_11 : Bool), v72 = .bool x72_11 ∧ Aside0 (palinodelaw15_MergeSees.j1 kq y383 a1 t382 t387 x8_1 x72_11 = some r) ∧ Aside0 (kq ≤ k1) ∧ Aside0 (Kd.R k34 34 wc w.heap.size (fun _ => True) (.slice Ao13 t387.length co13) t387) ∧ Aside0 (Below w.heap.size w wc))
       case first =>
        have H := HC12.out
        clear HC12
        by_cases c14 : 0 ≤ x8_1
        ·
         rw [if_pos c14] at H
         have c14b0 : decide (0 ≤ x8_1) = true := decide_eq_true c14
         clear c14
         (first | rw [c14b0] | (simp only [i64_w, i32_w]; rw [c14b0]) | skip)
         obtain ⟨bq15, hbq15⟩ : ∃ b_ : Bool, b_ = ((rd_T34 t387 x8_1).f2) := ⟨_, rfl⟩
         replace H : (if bq15 = true then (palinodelaw15_MergeSees.j1 k1 y383 a1 t382 t387 x8_1 true) else (if ((rd_T34 t387 x8_1).f1) > a1 then (palinodelaw15_MergeSees.j1 k1 y383 a1 t382 t387 x8_1 true) else (if x8_1 > 0 then (if 0 ≤ (wrap64 (x8_1 - 1)) then (if (wrap64 (x8_1 - 1)) < (t387.length : Int) then (palinodelaw15_MergeSees.j1 k1 y383 a1 t382 t387 x8_1 (!(Op.bytesLess (((rd_T34 t387 (wrap64 (x8_1 - 1))).f0).toList) (((rd_T34 t387 x8_1).f0).toList)))) else (none)) else (none)) else (palinodelaw15_MergeSees.j1 k1 y383 a1 t382 t387 x8_1 false)))) = some r := by rw [← hbq15] at H; exact H
         have Nbq15 := Aside0.mk hbq15
         clear hbq15
         by_cases c16 : bq15 = true
         ·
          subst c16
          have H1 : (palinodelaw15_MergeSees.j1 k1 y383 a1 t382 t387 x8_1 true) = some r := by rw [if_pos rfl] at H; exact H
          clear H
          have H := H1
          clear H1
          have H' := Aside0.mk H
          clear H
          have p392 : 0 ≤ (x8_1 : Int) := of_decide_eq_true (by first | (with_reducible assumption) | assumption)
          have q392 : x8_1 < (t387.length : Int) := of_decide_eq_true (by first | (with_reducible assumption) | assumption)
          obtain ⟨ad392, e392, hx392_0, hx392_1, hx392_2, hx392_3⟩ := at_T34 (Kd.R_reads' HO_6.out).2.2 x8_1 p392 q392
          (try rw [← Nbq15.out] at hx392_2)
          cases e392
          replace p392 := eq_true p392
          replace q392 := eq_true q392
          go_wp2
          repeat (go_quiet (fail); try go_wp2)
          go_meet
          case rel => exact ⟨_, (true), (by first | rfl | (simp; done) | (simp [*]; done)), H', ⟨by have := HK1.out; first | omega | exact Nat.le_refl _⟩, ⟨by (with_reducible repeat (first | apply Kd.R_alloc | apply Kd.R_drewN | apply Kd.R_drew)); exact HO_6.out⟩, ⟨Yr HB⟩⟩
         ·
          replace c16 := Bool.eq_false_iff.mpr c16
          subst c16
          have H1 : (if ((rd_T34 t387 x8_1).f1) > a1 then (palinodelaw15_MergeSees.j1 k1 y383 a1 t382 t387 x8_1 true) else (if x8_1 > 0 then (if 0 ≤ (wrap64 (x8_1 - 1)) then (if (wrap64 (x8_1 - 1)) < (t387.length : Int) then (palinodelaw15_MergeSees.j1 k1 y383 a1 t382 t387 x8_1 (!(Op.bytesLess (((rd_T34 t387 (wrap64 (x8_1 - 1))).f0).toList) (((rd_T34 t387 x8_1).f0).toList)))) else (none)) else (none)) else (palinodelaw15_MergeSees.j1 k1 y383 a1 t382 t387 x8_1 false))) = some r := by rw [if_neg (show ¬ (false = true) by decide)] at H; exact H
          clear H
          have H := H1
          clear H1
          by_cases c17 : ((rd_T34 t387 x8_1).f1) > a1
          ·
           rw [if_pos c17] at H
           have c17b0 : decide (a1 < ((rd_T34 t387 x8_1).f1)) = true := decide_eq_true c17
           clear c17
           have H' := Aside0.mk H
           clear H
           have p392 : 0 ≤ (x8_1 : Int) := of_decide_eq_true (by first | (with_reducible assumption) | assumption)
           have q392 : x8_1 < (t387.length : Int) := of_decide_eq_true (by first | (with_reducible assumption) | assumption)
           obtain ⟨ad392, e392, hx392_0, hx392_1, hx392_2, hx392_3⟩ := at_T34 (Kd.R_reads' HO_6.out).2.2 x8_1 p392 q392
           (try rw [← Nbq15.out] at hx392_2)
           cases e392
           replace p392 := eq_true p392
           replace q392 := eq_true q392
           have p393 : 0 ≤ (x8_1 : Int) := of_decide_eq_true (by first | (with_reducible assumption) | assumption)
           have q393 : x8_1 < (t387.length : Int) := of_decide_eq_true (by first | (with_reducible assumption) | assumption)
           obtain ⟨ad393, e393, hx393_0, hx393_1, hx393_2, hx393_3⟩ := at_T34 (Kd.R_reads' HO_6.out).2.2 x8_1 p393 q393
           (try rw [← Nbq15.out] at hx393_2)
           obtain rfl : ad392 = ad393 := (by injection e393)
           replace p393 := eq_true p393
           replace q393 := eq_true q393
           go_wp2
           repeat (go_quiet (fail); try go_wp2)
           go_meet
           case rel => exact ⟨_, (true), (by first | rfl | (simp; done) | (simp [*]; done)), H', ⟨by have := HK1.out; first | omega | exact Nat.le_refl _⟩, ⟨by (with_reducible repeat (first | apply Kd.R_alloc | apply Kd.R_drewN | apply Kd.R_drew)); exact HO_6.out⟩, ⟨Yr HB⟩⟩
          ·
           rw [if_neg c17] at H
           have c17b0 : decide (a1 < ((rd_T34 t387 x8_1).f1)) = false := decide_eq_false c17
           clear c17
           by_cases c18 : x8_1 > 0
           ·
            rw [if_pos c18] at H
            have c18b0 : decide (0 < x8_1) = true := decide_eq_true c18
            clear c18
            obtain ⟨ji19, hji19⟩ : ∃ j_ : Int, (wrap64 (x8_1 - 1)) = j_ := ⟨_, rfl⟩
            replace H : (if 0 ≤ (ji19) then (if (ji19) < (t387.length : Int) then (palinodelaw15_MergeSees.j1 k1 y383 a1 t382 t387 x8_1 (!(Op.bytesLess (((rd_T34 t387 (ji19)).f0).toList) (((rd_T34 t387 x8_1).f0).toList)))) else (none)) else (none)) = some r := by first | (rw [hji19] at H; exact H) | (simp only [hji19] at H ⊢; exact H)
            have hji19w : (IntKind.i64.wrap (x8_1 - 1)) = ji19 := (i64_w _).trans hji19
            by_cases c20 : 0 ≤ (ji19)
            ·
             rw [if_pos c20] at H
             have c20b0 : decide (0 ≤ (ji19)) = true := decide_eq_true c20
             clear c20
             by_cases c21 : (ji19) < (t387.length : Int)
             ·
              rw [if_pos c21] at H
              have c21b0 : decide ((ji19) < (t387.length : Int)) = true := decide_eq_true c21
              clear c21
              have H' := Aside0.mk H
              clear H
              have p392 : 0 ≤ (x8_1 : Int) := of_decide_eq_true (by first | (with_reducible assumption) | assumption)
              have q392 : x8_1 < (t387.length : Int) := of_decide_eq_true (by first | (with_reducible assumption) | assumption)
              obtain ⟨ad392, e392, hx392_0, hx392_1, hx392_2, hx392_3⟩ := at_T34 (Kd.R_reads' HO_6.out).2.2 x8_1 p392 q392
              (try rw [← Nbq15.out] at hx392_2)
              cases e392
              replace p392 := eq_true p392
              replace q392 := eq_true q392
              have p393 : 0 ≤ (x8_1 : Int) := of_decide_eq_true (by first | (with_reducible assumption) | assumption)
              have q393 : x8_1 < (t387.length : Int) := of_decide_eq_true (by first | (with_reducible assumption) | assumption)
              obtain ⟨ad393, e393, hx393_0, hx393_1, hx393_2, hx393_3⟩ := at_T34 (Kd.R_reads' HO_6.out).2.2 x8_1 p393 q393
              (try rw [← Nbq15.out] at hx393_2)
              obtain rfl : ad392 = ad393 := (by injection e393)
              replace p393 := eq_true p393
              replace q393 := eq_true q393
              have p394 : 0 ≤ (x8_1 : Int) := of_decide_eq_true (by first | (with_reducible assumption) | assumption)
              have q394 : x8_1 < (t387.length : Int) := of_decide_eq_true (by first | (with_reducible assumption) | assumption)
              obtain ⟨ad394, e394, hx394_0, hx394_1, hx394_2, hx394_3⟩ := at_T34 (Kd.R_reads' HO_6.out).2.2 x8_1 p394 q394
              (try rw [← Nbq15.out] at hx394_2)
              obtain rfl : ad392 = ad394 := (by injection e394)
              replace p394 := eq_true p394
              replace q394 := eq_true q394
              have p395 : 0 ≤ ((ji19) : Int) := of_decide_eq_true (by first | (with_reducible assumption) | assumption)
              have q395 : (ji19) < (t387.length : Int) := of_decide_eq_true (by first | (with_reducible assumption) | assumption)
              obtain ⟨ad395, e395, hx395_0, hx395_1, hx395_2, hx395_3⟩ := at_T34 (Kd.R_reads' HO_6.out).2.2 (ji19) p395 q395
              (try rw [← Nbq15.out] at hx395_2)
              obtain rfl : ad392 = ad395 := (by injection e395)
              replace p395 := eq_true p395
              replace q395 := eq_true q395
              go_wp2
              repeat (go_quiet (fail); try go_wp2)
              go_meet
              case rel => exact ⟨_, (!(Op.bytesLess (((rd_T34 t387 (ji19)).f0).toList) (((rd_T34 t387 x8_1).f0).toList))), (by first | rfl | (simp; done) | (simp only [← hji19] <;> (first | rfl | simp)) | (simp [*]; done)), H', ⟨by have := HK1.out; first | omega | exact Nat.le_refl _⟩, ⟨by (with_reducible repeat (first | apply Kd.R_alloc | apply Kd.R_drewN | apply Kd.R_drew)); exact HO_6.out⟩, ⟨Yr HB⟩⟩
             ·
              rw [if_neg c21] at H
              exact absurd H (by simp)
            ·
             rw [if_neg c20] at H
             exact absurd H (by simp)
           ·
            rw [if_neg c18] at H
            have c18b0 : decide (0 < x8_1) = false := decide_eq_false c18
            clear c18
            have H' := Aside0.mk H
            clear H
            have p392 : 0 ≤ (x8_1 : Int) := of_decide_eq_true (by first | (with_reducible assumption) | assumption)
            have q392 : x8_1 < (t387.length : Int) := of_decide_eq_true (by first | (with_reducible assumption) | assumption)
            obtain ⟨ad392, e392, hx392_0, hx392_1, hx392_2, hx392_3⟩ := at_T34 (Kd.R_reads' HO_6.out).2.2 x8_1 p392 q392
            (try rw [← Nbq15.out] at hx392_2)
            cases e392
            replace p392 := eq_true p392
            replace q392 := eq_true q392
            have p393 : 0 ≤ (x8_1 : Int) := of_decide_eq_true (by first | (with_reducible assumption) | assumption)
            have q393 : x8_1 < (t387.length : Int) := of_decide_eq_true (by first | (with_reducible assumption) | assumption)
            obtain ⟨ad393, e393, hx393_0, hx393_1, hx393_2, hx393_3⟩ := at_T34 (Kd.R_reads' HO_6.out).2.2 x8_1 p393 q393
            (try rw [← Nbq15.out] at hx393_2)
            obtain rfl : ad392 = ad393 := (by injection e393)
            replace p393 := eq_true p393
            replace q393 := eq_true q393
            go_wp2
            repeat (go_quiet (fail); try go_wp2)
            go_meet
            case rel => exact ⟨_, (false), (by first | rfl | (simp; done) | (simp [*]; done)), H', ⟨by have := HK1.out; first | omega | exact Nat.le_refl _⟩, ⟨by (with_reducible repeat (first | apply Kd.R_alloc | apply Kd.R_drewN | apply Kd.R_drew)); exact HO_6.out⟩, ⟨Yr HB⟩⟩
        ·
         rw [if_neg c14] at H
         exact absurd H (by simp)
       case rest =>
        clear HC12
        try clear c1
        try clear q1
        try clear c2
        try clear p2
        try clear p3
        try clear q3
        try clear hx3
        try clear c5
        try clear c5b0
        try clear c5b1
        try clear c6
        try clear c6b0
        try clear c6b1
        try clear p6
        try clear c8
        try clear q9
        try clear c11
        try clear c11b0
        try clear c14
        try clear c14b0
        try clear q15
        try clear c16
        try clear c17
        try clear c17b0
        try clear c18
        try clear c18b0
        try clear c20
        try clear c20b0
        try clear c21
        try clear c21b0
        try clear hx392_0
        try clear hx392_1
        try clear hx392_2
        try clear hx392_3
        try clear hx393_0
        try clear hx393_1
        try clear hx393_2
        try clear hx393_3
        try clear hx394_0
        try clear hx394_1
        try clear hx394_2
        try clear hx394_3
        try clear hx395_0
        try clear hx395_1
        try clear hx395_2
        try clear hx395_3
        try clear p2
        try clear p392
        try clear p393
        try clear p394
        try clear p395
        try clear q3
        try clear q391
        try clear q392
        try clear q393
        try clear q394
        try clear q395
        try clear q9
        obtain ⟨kq, x72_11, rfl, HA, HJ11, HO_6, HB⟩ := hcut
        cases kq with
        | zero => exact absurd HA.out (by simp [palinodelaw15_MergeSees.j1])
        | succ kj11 =>
         have H := HA.out
         clear HA
         simp only [palinodelaw15_MergeSees.j1] at H
         by_cases c22 : x72_11 = true
         ·
          subst c22
          have H1 : (some false) = some r := by rw [if_pos rfl] at H; exact H
          clear H
          have H := H1
          clear H1
          exact absurd ((Option.some.inj H).trans HRT_.out) (by decide)
         ·
          replace c22 := Bool.eq_false_iff.mpr c22
          subst c22
          have H1 : (if 0 ≤ x8_1 then (if x8_1 < (t387.length : Int) then ((block_Find.f kj11 y383 ((rd_T34 t387 x8_1).f0) a1).bind fun bt397 => (if bt397.2.2.2.2 = true then (if (!(bt397.1.toList == (((rd_T34 t387 x8_1).f0).toList)) || (!(bt397.2.1 == ((rd_T34 t387 x8_1).f1)) || (!(bt397.2.2.1 == ((rd_T34 t387 x8_1).f2)) || (!(bt397.2.2.2.1.toList == (((rd_T34 t387 x8_1).f3).toList)))))) = true then (some false) else (palinodelaw15_MergeSees.l0 kj11 y383 a1 t382 t387 (wrap64 (x8_1 + 1)))) else (some false))) else (none)) else (none)) = some r := by rw [if_neg (show ¬ (false = true) by decide)] at H; exact H
          clear H
          have H := H1
          clear H1
          by_cases c23 : 0 ≤ x8_1
          ·
           rw [if_pos c23] at H
           have c23b0 : decide (0 ≤ x8_1) = true := decide_eq_true c23
           clear c23
           by_cases c24 : x8_1 < (t387.length : Int)
           ·
            rw [if_pos c24] at H
            have c24b0 : decide (x8_1 < (t387.length : Int)) = true := decide_eq_true c24
            clear c24
            replace H := Option.bind_eq_some_iff.mp H
            obtain ⟨⟨t397, t398, t399, t400, t401⟩, A250, H⟩ := H
            replace H : (if t401 = true then (if (!(t397.toList == (((rd_T34 t387 x8_1).f0).toList)) || (!(t398 == ((rd_T34 t387 x8_1).f1)) || (!(t399 == ((rd_T34 t387 x8_1).f2)) || (!(t400.toList == (((rd_T34 t387 x8_1).f3).toList)))))) = true then (some false) else (palinodelaw15_MergeSees.l0 kj11 y383 a1 t382 t387 (wrap64 (x8_1 + 1)))) else (some false)) = some r := H
            have A25 := Aside0.mk A250
            clear A250
            by_cases c26 : t401 = true
            ·
             subst c26
             have H1 : (if (!(t397.toList == (((rd_T34 t387 x8_1).f0).toList)) || (!(t398 == ((rd_T34 t387 x8_1).f1)) || (!(t399 == ((rd_T34 t387 x8_1).f2)) || (!(t400.toList == (((rd_T34 t387 x8_1).f3).toList)))))) = true then (some false) else (palinodelaw15_MergeSees.l0 kj11 y383 a1 t382 t387 (wrap64 (x8_1 + 1)))) = some r := by rw [if_pos rfl] at H; exact H
             clear H
             have H := H1
             clear H1
             by_cases c27 : (!(t397.toList == (((rd_T34 t387 x8_1).f0).toList)) || (!(t398 == ((rd_T34 t387 x8_1).f1)) || (!(t399 == ((rd_T34 t387 x8_1).f2)) || (!(t400.toList == (((rd_T34 t387 x8_1).f3).toList)))))) = true
             ·
              rw [if_pos c27] at H
              have c27b0 : (!(t397.toList == (((rd_T34 t387 x8_1).f0).toList)) || (!(t398 == ((rd_T34 t387 x8_1).f1)) || (!(t399 == ((rd_T34 t387 x8_1).f2)) || (!(t400.toList == (((rd_T34 t387 x8_1).f3).toList)))))) = true := c27
              clear c27
              exact absurd ((Option.some.inj H).trans HRT_.out) (by decide)
             ·
              rw [if_neg c27] at H
              have c27b0 : (!(t397.toList == (((rd_T34 t387 x8_1).f0).toList)) || (!(t398 == ((rd_T34 t387 x8_1).f1)) || (!(t399 == ((rd_T34 t387 x8_1).f2)) || (!(t400.toList == (((rd_T34 t387 x8_1).f3).toList)))))) = false := by simpa using c27
              clear c27
              have H' := Aside0.mk H
              clear H
              have p396 : 0 ≤ (x8_1 : Int) := of_decide_eq_true (by first | (with_reducible assumption) | assumption)
              have q396 : x8_1 < (t387.length : Int) := of_decide_eq_true (by first | (with_reducible assumption) | assumption)
              obtain ⟨ad396, e396, hx396_0, hx396_1, hx396_2, hx396_3⟩ := at_T34 (Kd.R_reads' HO_6.out).2.2 x8_1 p396 q396
              cases e396
              replace p396 := eq_true p396
              replace q396 := eq_true q396
              go_wp2_with (first | (go_at_call 20; (with_reducible refine (block_Find.calls kj11 _ _ y383 ((rd_T34 t387 x8_1).f0) a1 t397 t398 t399 t400 true _ ?side1 ?side2 A25.out).mono ?_); (case side1 => repeat (first | exact (Kd.C_below HR386.out HB.out) | (with_reducible refine Kd.C_alloc ?_ _) | (with_reducible refine Kd.C_drewN ?_ _) | (with_reducible refine Kd.C_drew ?_))); (case side2 => exact HC386.out); rintro e w28 ⟨rfl, hb⟩; have n0_ := Aside0.mk (Kd.R_below (by (with_reducible repeat (first | apply Kd.R_alloc | apply Kd.R_drewN | apply Kd.R_drew)); exact HO_6.out) hb); have n1_ := Aside0.mk (Yv HB hb); clear HO_6; clear HB; have HO_6 := n0_; have HB := n1_; clear n0_ n1_; (try clear hb); (try clear hb2); (try clear hk); (try clear hi)) | ((with_reducible refine gate_dst (N := 9) rfl ?_); (try (refine gate_guard (by rfl) ?_; dsimp only)); refine box_event ?hg (N := 9) ?hd (cs := #[.string (⟨#[]⟩ : ByteArray), .int .i64 0, .bool false, .string (⟨#[]⟩ : ByteArray)]) (t := 34) ?hr ?_; (case hd => rfl); (case hg => rfl); (case hr => first | (go_simp; done) | (go_simp; rfl)); intro gb402 hg w29 hbox hb; have n0_ := Aside0.mk (Kd.R_below (Kd.R_elderB (by (with_reducible repeat (first | apply Kd.R_alloc | apply Kd.R_drewN | apply Kd.R_drew)); exact HO_6.out) gb402 (Nat.le_of_eq hg.symm)) hb); have n1_ := Aside0.mk (Yv HB hb); have n2_ := Aside0.mk (hbox); have n3_ := Aside0.mk (Yg HB hg); have n4_ := Aside0.mk (Yg HB hg); clear HO_6; clear HB; have HO_6 := n0_; have HB := n1_; have BK402 := n2_; have GW402 := n3_; have GE402 := n4_; clear n0_ n1_ n2_ n3_ n4_; clear hb hbox hg; obtain ⟨⟨hcz30_0, hcz30_1, hcz30_2, hcz30_3⟩, hfz30_0, hfz30_1, hfz30_2, hfz30_3⟩ := Zk4 BK402; have p403 : 0 ≤ (x8_1 : Int) := of_decide_eq_true (by first | (with_reducible assumption) | assumption); have q403 : x8_1 < (t387.length : Int) := of_decide_eq_true (by first | (with_reducible assumption) | assumption); obtain ⟨ad403, e403, hx403_0, hx403_1, hx403_2, hx403_3⟩ := at_T34 (Kd.R_reads' HO_6.out).2.2 x8_1 p403 q403; obtain rfl : ad396 = ad403 := (by injection e403); have hn403_0 : ad396.block ≠ gb402 := (by first | exact Kd.own_blk (Kd.R_ne HO_6.out BK402.out (by decide)) | exact Kd.own_blk (Kd.R_away HO_6.out (fun _ hk => hk.2))); have hn403_1 : ad396.block ≠ gb402 := (by first | exact Kd.own_blk (Kd.R_ne HO_6.out BK402.out (by decide)) | exact Kd.own_blk (Kd.R_away HO_6.out (fun _ hk => hk.2))); have hn403_2 : ad396.block ≠ gb402 := (by first | exact Kd.own_blk (Kd.R_ne HO_6.out BK402.out (by decide)) | exact Kd.own_blk (Kd.R_away HO_6.out (fun _ hk => hk.2))); have hn403_3 : ad396.block ≠ gb402 := (by first | exact Kd.own_blk (Kd.R_ne HO_6.out BK402.out (by decide)) | exact Kd.own_blk (Kd.R_away HO_6.out (fun _ hk => hk.2))); replace hx403_0 := (cell_far (p := ⟨gb402, 0, none⟩) (by first | (rw [add_block]; exact hn403_0) | (show (Addr.add _ _).block ≠ _; rw [add_block]; exact hn403_0) | exact hn403_0) (.string t397)).trans hx403_0; replace hx403_1 := (cell_far (p := ⟨gb402, 0, none⟩) (by first | (rw [add_block]; exact hn403_0) | (show (Addr.add _ _).block ≠ _; rw [add_block]; exact hn403_0) | exact hn403_0) (.string t397)).trans hx403_1; replace hx403_2 := (cell_far (p := ⟨gb402, 0, none⟩) (by first | (rw [add_block]; exact hn403_0) | (show (Addr.add _ _).block ≠ _; rw [add_block]; exact hn403_0) | exact hn403_0) (.string t397)).trans hx403_2; replace hx403_3 := (cell_far (p := ⟨gb402, 0, none⟩) (by first | (rw [add_block]; exact hn403_0) | (show (Addr.add _ _).block ≠ _; rw [add_block]; exact hn403_0) | exact hn403_0) (.string t397)).trans hx403_3; replace hx403_0 := (cell_far (p := ⟨gb402, 1, none⟩) (by first | (rw [add_block]; exact hn403_1) | (show (Addr.add _ _).block ≠ _; rw [add_block]; exact hn403_1) | exact hn403_1) (.int .i64 t398)).trans hx403_0; replace hx403_1 := (cell_far (p := ⟨gb402, 1, none⟩) (by first | (rw [add_block]; exact hn403_1) | (show (Addr.add _ _).block ≠ _; rw [add_block]; exact hn403_1) | exact hn403_1) (.int .i64 t398)).trans hx403_1; replace hx403_2 := (cell_far (p := ⟨gb402, 1, none⟩) (by first | (rw [add_block]; exact hn403_1) | (show (Addr.add _ _).block ≠ _; rw [add_block]; exact hn403_1) | exact hn403_1) (.int .i64 t398)).trans hx403_2; replace hx403_3 := (cell_far (p := ⟨gb402, 1, none⟩) (by first | (rw [add_block]; exact hn403_1) | (show (Addr.add _ _).block ≠ _; rw [add_block]; exact hn403_1) | exact hn403_1) (.int .i64 t398)).trans hx403_3; replace hx403_0 := (cell_far (p := ⟨gb402, 2, none⟩) (by first | (rw [add_block]; exact hn403_2) | (show (Addr.add _ _).block ≠ _; rw [add_block]; exact hn403_2) | exact hn403_2) (.bool t399)).trans hx403_0; replace hx403_1 := (cell_far (p := ⟨gb402, 2, none⟩) (by first | (rw [add_block]; exact hn403_2) | (show (Addr.add _ _).block ≠ _; rw [add_block]; exact hn403_2) | exact hn403_2) (.bool t399)).trans hx403_1; replace hx403_2 := (cell_far (p := ⟨gb402, 2, none⟩) (by first | (rw [add_block]; exact hn403_2) | (show (Addr.add _ _).block ≠ _; rw [add_block]; exact hn403_2) | exact hn403_2) (.bool t399)).trans hx403_2; replace hx403_3 := (cell_far (p := ⟨gb402, 2, none⟩) (by first | (rw [add_block]; exact hn403_2) | (show (Addr.add _ _).block ≠ _; rw [add_block]; exact hn403_2) | exact hn403_2) (.bool t399)).trans hx403_3; replace hx403_0 := (cell_far (p := ⟨gb402, 3, none⟩) (by first | (rw [add_block]; exact hn403_3) | (show (Addr.add _ _).block ≠ _; rw [add_block]; exact hn403_3) | exact hn403_3) (.string t400)).trans hx403_0; replace hx403_1 := (cell_far (p := ⟨gb402, 3, none⟩) (by first | (rw [add_block]; exact hn403_3) | (show (Addr.add _ _).block ≠ _; rw [add_block]; exact hn403_3) | exact hn403_3) (.string t400)).trans hx403_1; replace hx403_2 := (cell_far (p := ⟨gb402, 3, none⟩) (by first | (rw [add_block]; exact hn403_3) | (show (Addr.add _ _).block ≠ _; rw [add_block]; exact hn403_3) | exact hn403_3) (.string t400)).trans hx403_2; replace hx403_3 := (cell_far (p := ⟨gb402, 3, none⟩) (by first | (rw [add_block]; exact hn403_3) | (show (Addr.add _ _).block ≠ _; rw [add_block]; exact hn403_3) | exact hn403_3) (.string t400)).trans hx403_3; (try have hy403_0 := fun (n_ : Nat) => (show ((((((w29.drewN n_).setCell ⟨gb402, 0, none⟩ (.string t397)).setCell ⟨gb402, 1, none⟩ (.int .i64 t398)).setCell ⟨gb402, 2, none⟩ (.bool t399)).setCell ⟨gb402, 3, none⟩ (.string t400))).cell? _ = some _ from hx403_0)); (try have hy403_1 := fun (n_ : Nat) => (show ((((((w29.drewN n_).setCell ⟨gb402, 0, none⟩ (.string t397)).setCell ⟨gb402, 1, none⟩ (.int .i64 t398)).setCell ⟨gb402, 2, none⟩ (.bool t399)).setCell ⟨gb402, 3, none⟩ (.string t400))).cell? _ = some _ from hx403_1)); (try have hy403_2 := fun (n_ : Nat) => (show ((((((w29.drewN n_).setCell ⟨gb402, 0, none⟩ (.string t397)).setCell ⟨gb402, 1, none⟩ (.int .i64 t398)).setCell ⟨gb402, 2, none⟩ (.bool t399)).setCell ⟨gb402, 3, none⟩ (.string t400))).cell? _ = some _ from hx403_2)); (try have hy403_3 := fun (n_ : Nat) => (show ((((((w29.drewN n_).setCell ⟨gb402, 0, none⟩ (.string t397)).setCell ⟨gb402, 1, none⟩ (.int .i64 t398)).setCell ⟨gb402, 2, none⟩ (.bool t399)).setCell ⟨gb402, 3, none⟩ (.string t400))).cell? _ = some _ from hx403_3)); clear hn403_0; clear hn403_1; clear hn403_2; clear hn403_3; replace p403 := eq_true p403; replace q403 := eq_true q403))
              repeat (go_quiet (first | (go_at_call 20; (with_reducible refine (block_Find.calls kj11 _ _ y383 ((rd_T34 t387 x8_1).f0) a1 t397 t398 t399 t400 true _ ?side1 ?side2 A25.out).mono ?_); (case side1 => repeat (first | exact (Kd.C_below HR386.out HB.out) | (with_reducible refine Kd.C_alloc ?_ _) | (with_reducible refine Kd.C_drewN ?_ _) | (with_reducible refine Kd.C_drew ?_))); (case side2 => exact HC386.out); rintro e w28 ⟨rfl, hb⟩; have n0_ := Aside0.mk (Kd.R_below (by (with_reducible repeat (first | apply Kd.R_alloc | apply Kd.R_drewN | apply Kd.R_drew)); exact HO_6.out) hb); have n1_ := Aside0.mk (Yv HB hb); clear HO_6; clear HB; have HO_6 := n0_; have HB := n1_; clear n0_ n1_; (try clear hb); (try clear hb2); (try clear hk); (try clear hi)) | ((with_reducible refine gate_dst (N := 9) rfl ?_); (try (refine gate_guard (by rfl) ?_; dsimp only)); refine box_event ?hg (N := 9) ?hd (cs := #[.string (⟨#[]⟩ : ByteArray), .int .i64 0, .bool false, .string (⟨#[]⟩ : ByteArray)]) (t := 34) ?hr ?_; (case hd => rfl); (case hg => rfl); (case hr => first | (go_simp; done) | (go_simp; rfl)); intro gb402 hg w29 hbox hb; have n0_ := Aside0.mk (Kd.R_below (Kd.R_elderB (by (with_reducible repeat (first | apply Kd.R_alloc | apply Kd.R_drewN | apply Kd.R_drew)); exact HO_6.out) gb402 (Nat.le_of_eq hg.symm)) hb); have n1_ := Aside0.mk (Yv HB hb); have n2_ := Aside0.mk (hbox); have n3_ := Aside0.mk (Yg HB hg); have n4_ := Aside0.mk (Yg HB hg); clear HO_6; clear HB; have HO_6 := n0_; have HB := n1_; have BK402 := n2_; have GW402 := n3_; have GE402 := n4_; clear n0_ n1_ n2_ n3_ n4_; clear hb hbox hg; obtain ⟨⟨hcz30_0, hcz30_1, hcz30_2, hcz30_3⟩, hfz30_0, hfz30_1, hfz30_2, hfz30_3⟩ := Zk4 BK402; have p403 : 0 ≤ (x8_1 : Int) := of_decide_eq_true (by first | (with_reducible assumption) | assumption); have q403 : x8_1 < (t387.length : Int) := of_decide_eq_true (by first | (with_reducible assumption) | assumption); obtain ⟨ad403, e403, hx403_0, hx403_1, hx403_2, hx403_3⟩ := at_T34 (Kd.R_reads' HO_6.out).2.2 x8_1 p403 q403; obtain rfl : ad396 = ad403 := (by injection e403); have hn403_0 : ad396.block ≠ gb402 := (by first | exact Kd.own_blk (Kd.R_ne HO_6.out BK402.out (by decide)) | exact Kd.own_blk (Kd.R_away HO_6.out (fun _ hk => hk.2))); have hn403_1 : ad396.block ≠ gb402 := (by first | exact Kd.own_blk (Kd.R_ne HO_6.out BK402.out (by decide)) | exact Kd.own_blk (Kd.R_away HO_6.out (fun _ hk => hk.2))); have hn403_2 : ad396.block ≠ gb402 := (by first | exact Kd.own_blk (Kd.R_ne HO_6.out BK402.out (by decide)) | exact Kd.own_blk (Kd.R_away HO_6.out (fun _ hk => hk.2))); have hn403_3 : ad396.block ≠ gb402 := (by first | exact Kd.own_blk (Kd.R_ne HO_6.out BK402.out (by decide)) | exact Kd.own_blk (Kd.R_away HO_6.out (fun _ hk => hk.2))); replace hx403_0 := (cell_far (p := ⟨gb402, 0, none⟩) (by first | (rw [add_block]; exact hn403_0) | (show (Addr.add _ _).block ≠ _; rw [add_block]; exact hn403_0) | exact hn403_0) (.string t397)).trans hx403_0; replace hx403_1 := (cell_far (p := ⟨gb402, 0, none⟩) (by first | (rw [add_block]; exact hn403_0) | (show (Addr.add _ _).block ≠ _; rw [add_block]; exact hn403_0) | exact hn403_0) (.string t397)).trans hx403_1; replace hx403_2 := (cell_far (p := ⟨gb402, 0, none⟩) (by first | (rw [add_block]; exact hn403_0) | (show (Addr.add _ _).block ≠ _; rw [add_block]; exact hn403_0) | exact hn403_0) (.string t397)).trans hx403_2; replace hx403_3 := (cell_far (p := ⟨gb402, 0, none⟩) (by first | (rw [add_block]; exact hn403_0) | (show (Addr.add _ _).block ≠ _; rw [add_block]; exact hn403_0) | exact hn403_0) (.string t397)).trans hx403_3; replace hx403_0 := (cell_far (p := ⟨gb402, 1, none⟩) (by first | (rw [add_block]; exact hn403_1) | (show (Addr.add _ _).block ≠ _; rw [add_block]; exact hn403_1) | exact hn403_1) (.int .i64 t398)).trans hx403_0; replace hx403_1 := (cell_far (p := ⟨gb402, 1, none⟩) (by first | (rw [add_block]; exact hn403_1) | (show (Addr.add _ _).block ≠ _; rw [add_block]; exact hn403_1) | exact hn403_1) (.int .i64 t398)).trans hx403_1; replace hx403_2 := (cell_far (p := ⟨gb402, 1, none⟩) (by first | (rw [add_block]; exact hn403_1) | (show (Addr.add _ _).block ≠ _; rw [add_block]; exact hn403_1) | exact hn403_1) (.int .i64 t398)).trans hx403_2; replace hx403_3 := (cell_far (p := ⟨gb402, 1, none⟩) (by first | (rw [add_block]; exact hn403_1) | (show (Addr.add _ _).block ≠ _; rw [add_block]; exact hn403_1) | exact hn403_1) (.int .i64 t398)).trans hx403_3; replace hx403_0 := (cell_far (p := ⟨gb402, 2, none⟩) (by first | (rw [add_block]; exact hn403_2) | (show (Addr.add _ _).block ≠ _; rw [add_block]; exact hn403_2) | exact hn403_2) (.bool t399)).trans hx403_0; replace hx403_1 := (cell_far (p := ⟨gb402, 2, none⟩) (by first | (rw [add_block]; exact hn403_2) | (show (Addr.add _ _).block ≠ _; rw [add_block]; exact hn403_2) | exact hn403_2) (.bool t399)).trans hx403_1; replace hx403_2 := (cell_far (p := ⟨gb402, 2, none⟩) (by first | (rw [add_block]; exact hn403_2) | (show (Addr.add _ _).block ≠ _; rw [add_block]; exact hn403_2) | exact hn403_2) (.bool t399)).trans hx403_2; replace hx403_3 := (cell_far (p := ⟨gb402, 2, none⟩) (by first | (rw [add_block]; exact hn403_2) | (show (Addr.add _ _).block ≠ _; rw [add_block]; exact hn403_2) | exact hn403_2) (.bool t399)).trans hx403_3; replace hx403_0 := (cell_far (p := ⟨gb402, 3, none⟩) (by first | (rw [add_block]; exact hn403_3) | (show (Addr.add _ _).block ≠ _; rw [add_block]; exact hn403_3) | exact hn403_3) (.string t400)).trans hx403_0; replace hx403_1 := (cell_far (p := ⟨gb402, 3, none⟩) (by first | (rw [add_block]; exact hn403_3) | (show (Addr.add _ _).block ≠ _; rw [add_block]; exact hn403_3) | exact hn403_3) (.string t400)).trans hx403_1; replace hx403_2 := (cell_far (p := ⟨gb402, 3, none⟩) (by first | (rw [add_block]; exact hn403_3) | (show (Addr.add _ _).block ≠ _; rw [add_block]; exact hn403_3) | exact hn403_3) (.string t400)).trans hx403_2; replace hx403_3 := (cell_far (p := ⟨gb402, 3, none⟩) (by first | (rw [add_block]; exact hn403_3) | (show (Addr.add _ _).block ≠ _; rw [add_block]; exact hn403_3) | exact hn403_3) (.string t400)).trans hx403_3; (try have hy403_0 := fun (n_ : Nat) => (show ((((((w29.drewN n_).setCell ⟨gb402, 0, none⟩ (.string t397)).setCell ⟨gb402, 1, none⟩ (.int .i64 t398)).setCell ⟨gb402, 2, none⟩ (.bool t399)).setCell ⟨gb402, 3, none⟩ (.string t400))).cell? _ = some _ from hx403_0)); (try have hy403_1 := fun (n_ : Nat) => (show ((((((w29.drewN n_).setCell ⟨gb402, 0, none⟩ (.string t397)).setCell ⟨gb402, 1, none⟩ (.int .i64 t398)).setCell ⟨gb402, 2, none⟩ (.bool t399)).setCell ⟨gb402, 3, none⟩ (.string t400))).cell? _ = some _ from hx403_1)); (try have hy403_2 := fun (n_ : Nat) => (show ((((((w29.drewN n_).setCell ⟨gb402, 0, none⟩ (.string t397)).setCell ⟨gb402, 1, none⟩ (.int .i64 t398)).setCell ⟨gb402, 2, none⟩ (.bool t399)).setCell ⟨gb402, 3, none⟩ (.string t400))).cell? _ = some _ from hx403_2)); (try have hy403_3 := fun (n_ : Nat) => (show ((((((w29.drewN n_).setCell ⟨gb402, 0, none⟩ (.string t397)).setCell ⟨gb402, 1, none⟩ (.int .i64 t398)).setCell ⟨gb402, 2, none⟩ (.bool t399)).setCell ⟨gb402, 3, none⟩ (.string t400))).cell? _ = some _ from hx403_3)); clear hn403_0; clear hn403_1; clear hn403_2; clear hn403_3; replace p403 := eq_true p403; replace q403 := eq_true q403)); try go_wp2_with (first | (go_at_call 20; (with_reducible refine (block_Find.calls kj11 _ _ y383 ((rd_T34 t387 x8_1).f0) a1 t397 t398 t399 t400 true _ ?side1 ?side2 A25.out).mono ?_); (case side1 => repeat (first | exact (Kd.C_below HR386.out HB.out) | (with_reducible refine Kd.C_alloc ?_ _) | (with_reducible refine Kd.C_drewN ?_ _) | (with_reducible refine Kd.C_drew ?_))); (case side2 => exact HC386.out); rintro e w28 ⟨rfl, hb⟩; have n0_ := Aside0.mk (Kd.R_below (by (with_reducible repeat (first | apply Kd.R_alloc | apply Kd.R_drewN | apply Kd.R_drew)); exact HO_6.out) hb); have n1_ := Aside0.mk (Yv HB hb); clear HO_6; clear HB; have HO_6 := n0_; have HB := n1_; clear n0_ n1_; (try clear hb); (try clear hb2); (try clear hk); (try clear hi)) | ((with_reducible refine gate_dst (N := 9) rfl ?_); (try (refine gate_guard (by rfl) ?_; dsimp only)); refine box_event ?hg (N := 9) ?hd (cs := #[.string (⟨#[]⟩ : ByteArray), .int .i64 0, .bool false, .string (⟨#[]⟩ : ByteArray)]) (t := 34) ?hr ?_; (case hd => rfl); (case hg => rfl); (case hr => first | (go_simp; done) | (go_simp; rfl)); intro gb402 hg w29 hbox hb; have n0_ := Aside0.mk (Kd.R_below (Kd.R_elderB (by (with_reducible repeat (first | apply Kd.R_alloc | apply Kd.R_drewN | apply Kd.R_drew)); exact HO_6.out) gb402 (Nat.le_of_eq hg.symm)) hb); have n1_ := Aside0.mk (Yv HB hb); have n2_ := Aside0.mk (hbox); have n3_ := Aside0.mk (Yg HB hg); have n4_ := Aside0.mk (Yg HB hg); clear HO_6; clear HB; have HO_6 := n0_; have HB := n1_; have BK402 := n2_; have GW402 := n3_; have GE402 := n4_; clear n0_ n1_ n2_ n3_ n4_; clear hb hbox hg; obtain ⟨⟨hcz30_0, hcz30_1, hcz30_2, hcz30_3⟩, hfz30_0, hfz30_1, hfz30_2, hfz30_3⟩ := Zk4 BK402; have p403 : 0 ≤ (x8_1 : Int) := of_decide_eq_true (by first | (with_reducible assumption) | assumption); have q403 : x8_1 < (t387.length : Int) := of_decide_eq_true (by first | (with_reducible assumption) | assumption); obtain ⟨ad403, e403, hx403_0, hx403_1, hx403_2, hx403_3⟩ := at_T34 (Kd.R_reads' HO_6.out).2.2 x8_1 p403 q403; obtain rfl : ad396 = ad403 := (by injection e403); have hn403_0 : ad396.block ≠ gb402 := (by first | exact Kd.own_blk (Kd.R_ne HO_6.out BK402.out (by decide)) | exact Kd.own_blk (Kd.R_away HO_6.out (fun _ hk => hk.2))); have hn403_1 : ad396.block ≠ gb402 := (by first | exact Kd.own_blk (Kd.R_ne HO_6.out BK402.out (by decide)) | exact Kd.own_blk (Kd.R_away HO_6.out (fun _ hk => hk.2))); have hn403_2 : ad396.block ≠ gb402 := (by first | exact Kd.own_blk (Kd.R_ne HO_6.out BK402.out (by decide)) | exact Kd.own_blk (Kd.R_away HO_6.out (fun _ hk => hk.2))); have hn403_3 : ad396.block ≠ gb402 := (by first | exact Kd.own_blk (Kd.R_ne HO_6.out BK402.out (by decide)) | exact Kd.own_blk (Kd.R_away HO_6.out (fun _ hk => hk.2))); replace hx403_0 := (cell_far (p := ⟨gb402, 0, none⟩) (by first | (rw [add_block]; exact hn403_0) | (show (Addr.add _ _).block ≠ _; rw [add_block]; exact hn403_0) | exact hn403_0) (.string t397)).trans hx403_0; replace hx403_1 := (cell_far (p := ⟨gb402, 0, none⟩) (by first | (rw [add_block]; exact hn403_0) | (show (Addr.add _ _).block ≠ _; rw [add_block]; exact hn403_0) | exact hn403_0) (.string t397)).trans hx403_1; replace hx403_2 := (cell_far (p := ⟨gb402, 0, none⟩) (by first | (rw [add_block]; exact hn403_0) | (show (Addr.add _ _).block ≠ _; rw [add_block]; exact hn403_0) | exact hn403_0) (.string t397)).trans hx403_2; replace hx403_3 := (cell_far (p := ⟨gb402, 0, none⟩) (by first | (rw [add_block]; exact hn403_0) | (show (Addr.add _ _).block ≠ _; rw [add_block]; exact hn403_0) | exact hn403_0) (.string t397)).trans hx403_3; replace hx403_0 := (cell_far (p := ⟨gb402, 1, none⟩) (by first | (rw [add_block]; exact hn403_1) | (show (Addr.add _ _).block ≠ _; rw [add_block]; exact hn403_1) | exact hn403_1) (.int .i64 t398)).trans hx403_0; replace hx403_1 := (cell_far (p := ⟨gb402, 1, none⟩) (by first | (rw [add_block]; exact hn403_1) | (show (Addr.add _ _).block ≠ _; rw [add_block]; exact hn403_1) | exact hn403_1) (.int .i64 t398)).trans hx403_1; replace hx403_2 := (cell_far (p := ⟨gb402, 1, none⟩) (by first | (rw [add_block]; exact hn403_1) | (show (Addr.add _ _).block ≠ _; rw [add_block]; exact hn403_1) | exact hn403_1) (.int .i64 t398)).trans hx403_2; replace hx403_3 := (cell_far (p := ⟨gb402, 1, none⟩) (by first | (rw [add_block]; exact hn403_1) | (show (Addr.add _ _).block ≠ _; rw [add_block]; exact hn403_1) | exact hn403_1) (.int .i64 t398)).trans hx403_3; replace hx403_0 := (cell_far (p := ⟨gb402, 2, none⟩) (by first | (rw [add_block]; exact hn403_2) | (show (Addr.add _ _).block ≠ _; rw [add_block]; exact hn403_2) | exact hn403_2) (.bool t399)).trans hx403_0; replace hx403_1 := (cell_far (p := ⟨gb402, 2, none⟩) (by first | (rw [add_block]; exact hn403_2) | (show (Addr.add _ _).block ≠ _; rw [add_block]; exact hn403_2) | exact hn403_2) (.bool t399)).trans hx403_1; replace hx403_2 := (cell_far (p := ⟨gb402, 2, none⟩) (by first | (rw [add_block]; exact hn403_2) | (show (Addr.add _ _).block ≠ _; rw [add_block]; exact hn403_2) | exact hn403_2) (.bool t399)).trans hx403_2; replace hx403_3 := (cell_far (p := ⟨gb402, 2, none⟩) (by first | (rw [add_block]; exact hn403_2) | (show (Addr.add _ _).block ≠ _; rw [add_block]; exact hn403_2) | exact hn403_2) (.bool t399)).trans hx403_3; replace hx403_0 := (cell_far (p := ⟨gb402, 3, none⟩) (by first | (rw [add_block]; exact hn403_3) | (show (Addr.add _ _).block ≠ _; rw [add_block]; exact hn403_3) | exact hn403_3) (.string t400)).trans hx403_0; replace hx403_1 := (cell_far (p := ⟨gb402, 3, none⟩) (by first | (rw [add_block]; exact hn403_3) | (show (Addr.add _ _).block ≠ _; rw [add_block]; exact hn403_3) | exact hn403_3) (.string t400)).trans hx403_1; replace hx403_2 := (cell_far (p := ⟨gb402, 3, none⟩) (by first | (rw [add_block]; exact hn403_3) | (show (Addr.add _ _).block ≠ _; rw [add_block]; exact hn403_3) | exact hn403_3) (.string t400)).trans hx403_2; replace hx403_3 := (cell_far (p := ⟨gb402, 3, none⟩) (by first | (rw [add_block]; exact hn403_3) | (show (Addr.add _ _).block ≠ _; rw [add_block]; exact hn403_3) | exact hn403_3) (.string t400)).trans hx403_3; (try have hy403_0 := fun (n_ : Nat) => (show ((((((w29.drewN n_).setCell ⟨gb402, 0, none⟩ (.string t397)).setCell ⟨gb402, 1, none⟩ (.int .i64 t398)).setCell ⟨gb402, 2, none⟩ (.bool t399)).setCell ⟨gb402, 3, none⟩ (.string t400))).cell? _ = some _ from hx403_0)); (try have hy403_1 := fun (n_ : Nat) => (show ((((((w29.drewN n_).setCell ⟨gb402, 0, none⟩ (.string t397)).setCell ⟨gb402, 1, none⟩ (.int .i64 t398)).setCell ⟨gb402, 2, none⟩ (.bool t399)).setCell ⟨gb402, 3, none⟩ (.string t400))).cell? _ = some _ from hx403_1)); (try have hy403_2 := fun (n_ : Nat) => (show ((((((w29.drewN n_).setCell ⟨gb402, 0, none⟩ (.string t397)).setCell ⟨gb402, 1, none⟩ (.int .i64 t398)).setCell ⟨gb402, 2, none⟩ (.bool t399)).setCell ⟨gb402, 3, none⟩ (.string t400))).cell? _ = some _ from hx403_2)); (try have hy403_3 := fun (n_ : Nat) => (show ((((((w29.drewN n_).setCell ⟨gb402, 0, none⟩ (.string t397)).setCell ⟨gb402, 1, none⟩ (.int .i64 t398)).setCell ⟨gb402, 2, none⟩ (.bool t399)).setCell ⟨gb402, 3, none⟩ (.string t400))).cell? _ = some _ from hx403_3)); clear hn403_0; clear hn403_1; clear hn403_2; clear hn403_3; replace p403 := eq_true p403; replace q403 := eq_true q403)))
              go_roundg kj11
              case measure => have := HK1.out; have := HJ11.out; omega
              case rel => exact ⟨(wrap64 (x8_1 + 1)), (by first | rfl | (simp; done) | (simp [*]; done)), H', ⟨by have := HK1.out; have := HJ11.out; omega⟩, ⟨by (with_reducible repeat (first | apply Kd.R_alloc | apply Kd.R_drewN | apply Kd.R_drew)); exact Kd.R_mono (Kd.R_far (p := ⟨gb402, 3, none⟩) (Kd.R_far (p := ⟨gb402, 2, none⟩) (Kd.R_far (p := ⟨gb402, 1, none⟩) (Kd.R_far (p := ⟨gb402, 0, none⟩) (Kd.R_mono HO_6.out (fun k_ hk => (⟨hk, hk.2⟩ : _ ∧ k_ ≠ gb402))) (fun _ hk => hk.2) (.string t397)) (fun _ hk => hk.2) (.int .i64 t398)) (fun _ hk => hk.2) (.bool t399)) (fun _ hk => hk.2) (.string t400)) (fun _ hk => trivial)⟩, ⟨Yr HB⟩⟩
            ·
             replace c26 := Bool.eq_false_iff.mpr c26
             subst c26
             have H1 : (some false) = some r := by rw [if_neg (show ¬ (false = true) by decide)] at H; exact H
             clear H
             have H := H1
             clear H1
             exact absurd ((Option.some.inj H).trans HRT_.out) (by decide)
           ·
            rw [if_neg c24] at H
            exact absurd H (by simp)
          ·
           rw [if_neg c23] at H
           exact absurd H (by simp)
      ·
       rw [if_neg c11] at H
       have c11b0 : decide (x8_1 < (t387.length : Int)) = false := decide_eq_false c11
       clear c11
       have H' := Aside0.mk H
       clear H
       obtain ⟨Ao31, co31, eo31⟩ := Kd.R_slice HO_6.out
       subst eo31
       go_wp2
       repeat (go_quiet (fail); try go_wp2)
       go_loopg [11, 12] k1 (fun kq v11 v12 w' => ∃ (x11_2 : Int) (x12_2 : Int), v11 = .int .i64 x11_2 ∧ v12 = .int .i64 x12_2 ∧ Aside0 (palinodelaw15_MergeSees.l1 kq y383 a1 t382 t387 x11_2 x12_2 = some r) ∧ Aside0 (kq ≤ k1) ∧ Aside0 (Kd.R k34 34 w' w.heap.size (fun _ => True) (.slice Ao31 t387.length co31) t387) ∧ Aside0 (Below w.heap.size w w'))
       case atStart => exact ⟨(0), (0), (by first | rfl | (simp; done) | (simp [*]; done)), (by first | rfl | (simp; done) | (simp [*]; done)), H', ⟨Nat.le_refl _⟩, ⟨by (with_reducible repeat (first | apply Kd.R_alloc | apply Kd.R_drewN | apply Kd.R_drew)); exact HO_6.out⟩, ⟨Yr HB⟩⟩
       case round =>
        clear H'
        try clear c1
        try clear q1
        try clear c2
        try clear p2
        try clear p3
        try clear q3
        try clear hx3
        try clear p4
        try clear q4
        try clear hx4
        try clear c5
        try clear c5b0
        try clear c5b1
        try clear c6
        try clear c6b0
        try clear c6b1
        try clear p6
        try clear c8
        try clear q9
        try clear c11
        try clear c11b0
        try clear c14
        try clear c14b0
        try clear q15
        try clear c16
        try clear c17
        try clear c17b0
        try clear c18
        try clear c18b0
        try clear c20
        try clear c20b0
        try clear c21
        try clear c21b0
        try clear c22
        try clear c23
        try clear c23b0
        try clear c24
        try clear c24b0
        try clear c26
        try clear c27
        try clear c27b0
        try clear hcz30_0
        try clear hcz30_1
        try clear hcz30_2
        try clear hcz30_3
        try clear hfz30_0
        try clear hfz30_1
        try clear hfz30_2
        try clear hfz30_3
        try clear hx392_0
        try clear hx392_1
        try clear hx392_2
        try clear hx392_3
        try clear hx393_0
        try clear hx393_1
        try clear hx393_2
        try clear hx393_3
        try clear hx394_0
        try clear hx394_1
        try clear hx394_2
        try clear hx394_3
        try clear hx395_0
        try clear hx395_1
        try clear hx395_2
        try clear hx395_3
        try clear hx396_0
        try clear hx396_1
        try clear hx396_2
        try clear hx396_3
        try clear hx403_0
        try clear hx403_1
        try clear hx403_2
        try clear hx403_3
        try clear p2
        try clear p3
        try clear p392
        try clear p393
        try clear p394
        try clear p395
        try clear p396
        try clear p403
        try clear p6
        try clear q1
        try clear q15
        try clear q3
        try clear q391
        try clear q392
        try clear q393
        try clear q394
        try clear q395
        try clear q396
        try clear q403
        try clear q9
        obtain ⟨x11_2, x12_2, rfl, rfl, HA, HK2, HO_6, HB⟩ := hrel
        cases gk with
        | zero => exact absurd HA.out (by simp [palinodelaw15_MergeSees.l1])
        | succ k2 =>
         have H := HA.out
         clear HA
         simp only [palinodelaw15_MergeSees.l1] at H
         by_cases c32 : x12_2 < (y383.length : Int)
         ·
          rw [if_pos c32] at H
          have c32b0 : decide (x12_2 < (y383.length : Int)) = true := decide_eq_true c32
          clear c32
          by_cases c33 : 0 ≤ x12_2
          ·
           rw [if_pos c33] at H
           have c33b0 : decide (0 ≤ x12_2) = true := decide_eq_true c33
           clear c33
           replace H := Option.bind_eq_some_iff.mp H
           obtain ⟨⟨t405, t406, t407, t408, t409⟩, A340, H⟩ := H
           replace H : (if t409 = true then (if (t405.toList == (((rd_T34 y383 x12_2).f0).toList) && (t406 == ((rd_T34 y383 x12_2).f1) && (t407 == ((rd_T34 y383 x12_2).f2) && (t408.toList == (((rd_T34 y383 x12_2).f3).toList))))) = true then (if t407 = true then (palinodelaw15_MergeSees.l1 k2 y383 a1 t382 t387 x11_2 (wrap64 (x12_2 + 1))) else (palinodelaw15_MergeSees.l1 k2 y383 a1 t382 t387 (wrap64 (x11_2 + 1)) (wrap64 (x12_2 + 1)))) else (palinodelaw15_MergeSees.l1 k2 y383 a1 t382 t387 x11_2 (wrap64 (x12_2 + 1)))) else (palinodelaw15_MergeSees.l1 k2 y383 a1 t382 t387 x11_2 (wrap64 (x12_2 + 1)))) = some r := H
           have A34 := Aside0.mk A340
           clear A340
           by_cases c35 : t409 = true
           ·
            subst c35
            have H1 : (if (t405.toList == (((rd_T34 y383 x12_2).f0).toList) && (t406 == ((rd_T34 y383 x12_2).f1) && (t407 == ((rd_T34 y383 x12_2).f2) && (t408.toList == (((rd_T34 y383 x12_2).f3).toList))))) = true then (if t407 = true then (palinodelaw15_MergeSees.l1 k2 y383 a1 t382 t387 x11_2 (wrap64 (x12_2 + 1))) else (palinodelaw15_MergeSees.l1 k2 y383 a1 t382 t387 (wrap64 (x11_2 + 1)) (wrap64 (x12_2 + 1)))) else (palinodelaw15_MergeSees.l1 k2 y383 a1 t382 t387 x11_2 (wrap64 (x12_2 + 1)))) = some r := by rw [if_pos rfl] at H; exact H
            clear H
            have H := H1
            clear H1
            by_cases c36 : (t405.toList == (((rd_T34 y383 x12_2).f0).toList) && (t406 == ((rd_T34 y383 x12_2).f1) && (t407 == ((rd_T34 y383 x12_2).f2) && (t408.toList == (((rd_T34 y383 x12_2).f3).toList))))) = true
            ·
             rw [if_pos c36] at H
             have c36b0 : (t405.toList == (((rd_T34 y383 x12_2).f0).toList) && (t406 == ((rd_T34 y383 x12_2).f1) && (t407 == ((rd_T34 y383 x12_2).f2) && (t408.toList == (((rd_T34 y383 x12_2).f3).toList))))) = true := c36
             (try (have c36b1 : decide (t405.toList = (((rd_T34 y383 x12_2).f0).toList) && (t406 == ((rd_T34 y383 x12_2).f1) && (t407 == ((rd_T34 y383 x12_2).f2) && (t408.toList == (((rd_T34 y383 x12_2).f3).toList))))) = true := by simpa using c36))
             (try (have c36b2 : (t405.toList == (((rd_T34 y383 x12_2).f0).toList) && (t406 == ((rd_T34 y383 x12_2).f1) && (t407 == ((rd_T34 y383 x12_2).f2) && (t408.toList == (((rd_T34 y383 x12_2).f3).toList))))) = true := by simpa using c36))
             clear c36
             by_cases c37 : t407 = true
             ·
              subst c37
              have ce36 := c36b0
              simp only [Bool.and_eq_true] at ce36
              obtain ⟨ce36_0, ce36_1, ce36_2, ce36_3⟩ := ce36
              have cf36 : ((rd_T34 y383 x12_2).f2) = true := by simpa using ce36_2
              have H1 : (palinodelaw15_MergeSees.l1 k2 y383 a1 t382 t387 x11_2 (wrap64 (x12_2 + 1))) = some r := by rw [if_pos rfl] at H; exact H
              clear H
              have H := H1
              clear H1
              have H' := Aside0.mk H
              clear H
              have p404 : 0 ≤ (x12_2 : Int) := of_decide_eq_true (by first | (with_reducible assumption) | assumption)
              have q404 : x12_2 < (y383.length : Int) := of_decide_eq_true (by first | (with_reducible assumption) | assumption)
              obtain ⟨ad404, e404, hx404_0, hx404_1, hx404_2, hx404_3⟩ := at_T34 HR386.out x12_2 p404 q404
              cases e404
              replace hx404_0 := (HB.out.cell (World.block_lt_of_cell? w _ hx404_0)).trans hx404_0
              replace hx404_1 := (HB.out.cell (World.block_lt_of_cell? w _ hx404_1)).trans hx404_1
              replace hx404_2 := (HB.out.cell (World.block_lt_of_cell? w _ hx404_2)).trans hx404_2
              replace hx404_3 := (HB.out.cell (World.block_lt_of_cell? w _ hx404_3)).trans hx404_3
              replace p404 := eq_true p404
              replace q404 := eq_true q404
              go_wp2_with (first | (go_at_call 20; (with_reducible refine (block_Find.calls k2 _ _ y383 ((rd_T34 y383 x12_2).f0) a1 t405 t406 true t408 true _ ?side1 ?side2 A34.out).mono ?_); (case side1 => repeat (first | exact (Kd.C_below HR386.out HB.out) | (with_reducible refine Kd.C_alloc ?_ _) | (with_reducible refine Kd.C_drewN ?_ _) | (with_reducible refine Kd.C_drew ?_))); (case side2 => exact HC386.out); rintro e w38 ⟨rfl, hb⟩; have n0_ := Aside0.mk (Kd.R_below (by (with_reducible repeat (first | apply Kd.R_alloc | apply Kd.R_drewN | apply Kd.R_drew)); exact HO_6.out) hb); have n1_ := Aside0.mk (Yv HB hb); clear HO_6; clear HB; have HO_6 := n0_; have HB := n1_; clear n0_ n1_; (try clear hb); (try clear hb2); (try clear hk); (try clear hi)) | ((with_reducible refine gate_dst (N := 13) rfl ?_); (try (refine gate_guard (by rfl) ?_; dsimp only)); refine box_event ?hg (N := 13) ?hd (cs := #[.string (⟨#[]⟩ : ByteArray), .int .i64 0, .bool false, .string (⟨#[]⟩ : ByteArray)]) (t := 34) ?hr ?_; (case hd => rfl); (case hg => rfl); (case hr => first | (go_simp; done) | (go_simp; rfl)); intro gb410 hg w39 hbox hb; have n0_ := Aside0.mk (Kd.R_below (Kd.R_elderB (by (with_reducible repeat (first | apply Kd.R_alloc | apply Kd.R_drewN | apply Kd.R_drew)); exact HO_6.out) gb410 (Nat.le_of_eq hg.symm)) hb); have n1_ := Aside0.mk (Yv HB hb); have n2_ := Aside0.mk (hbox); have n3_ := Aside0.mk (Yg HB hg); have n4_ := Aside0.mk (Yg HB hg); clear HO_6; clear HB; have HO_6 := n0_; have HB := n1_; have BK410 := n2_; have GW410 := n3_; have GE410 := n4_; clear n0_ n1_ n2_ n3_ n4_; clear hb hbox hg; obtain ⟨⟨hcz40_0, hcz40_1, hcz40_2, hcz40_3⟩, hfz40_0, hfz40_1, hfz40_2, hfz40_3⟩ := Zk4 BK410; have p411 : 0 ≤ (x12_2 : Int) := of_decide_eq_true (by first | (with_reducible assumption) | assumption); have q411 : x12_2 < (y383.length : Int) := of_decide_eq_true (by first | (with_reducible assumption) | assumption); obtain ⟨ad411, e411, hx411_0, hx411_1, hx411_2, hx411_3⟩ := at_T34 HR386.out x12_2 p411 q411; obtain rfl : ad404 = ad411 := (by injection e411); have hn411_0 : ad404.block ≠ gb410 := Nat.ne_of_lt (Nat.lt_of_lt_of_le (by have := World.block_lt_of_cell? _ _ hx411_0; first | rwa [add_block] at this | exact this) GW410.out); have hn411_1 : ad404.block ≠ gb410 := Nat.ne_of_lt (Nat.lt_of_lt_of_le (by have := World.block_lt_of_cell? _ _ hx411_0; first | rwa [add_block] at this | exact this) GW410.out); have hn411_2 : ad404.block ≠ gb410 := Nat.ne_of_lt (Nat.lt_of_lt_of_le (by have := World.block_lt_of_cell? _ _ hx411_0; first | rwa [add_block] at this | exact this) GW410.out); have hn411_3 : ad404.block ≠ gb410 := Nat.ne_of_lt (Nat.lt_of_lt_of_le (by have := World.block_lt_of_cell? _ _ hx411_0; first | rwa [add_block] at this | exact this) GW410.out); replace hx411_0 := (HB.out.cell (World.block_lt_of_cell? w _ hx411_0)).trans hx411_0; replace hx411_1 := (HB.out.cell (World.block_lt_of_cell? w _ hx411_1)).trans hx411_1; replace hx411_2 := (HB.out.cell (World.block_lt_of_cell? w _ hx411_2)).trans hx411_2; replace hx411_3 := (HB.out.cell (World.block_lt_of_cell? w _ hx411_3)).trans hx411_3; replace hx411_0 := (cell_far (p := ⟨gb410, 0, none⟩) (by first | (rw [add_block]; exact hn411_0) | (show (Addr.add _ _).block ≠ _; rw [add_block]; exact hn411_0) | exact hn411_0) (.string t405)).trans hx411_0; replace hx411_1 := (cell_far (p := ⟨gb410, 0, none⟩) (by first | (rw [add_block]; exact hn411_0) | (show (Addr.add _ _).block ≠ _; rw [add_block]; exact hn411_0) | exact hn411_0) (.string t405)).trans hx411_1; replace hx411_2 := (cell_far (p := ⟨gb410, 0, none⟩) (by first | (rw [add_block]; exact hn411_0) | (show (Addr.add _ _).block ≠ _; rw [add_block]; exact hn411_0) | exact hn411_0) (.string t405)).trans hx411_2; replace hx411_3 := (cell_far (p := ⟨gb410, 0, none⟩) (by first | (rw [add_block]; exact hn411_0) | (show (Addr.add _ _).block ≠ _; rw [add_block]; exact hn411_0) | exact hn411_0) (.string t405)).trans hx411_3; replace hx411_0 := (cell_far (p := ⟨gb410, 1, none⟩) (by first | (rw [add_block]; exact hn411_1) | (show (Addr.add _ _).block ≠ _; rw [add_block]; exact hn411_1) | exact hn411_1) (.int .i64 t406)).trans hx411_0; replace hx411_1 := (cell_far (p := ⟨gb410, 1, none⟩) (by first | (rw [add_block]; exact hn411_1) | (show (Addr.add _ _).block ≠ _; rw [add_block]; exact hn411_1) | exact hn411_1) (.int .i64 t406)).trans hx411_1; replace hx411_2 := (cell_far (p := ⟨gb410, 1, none⟩) (by first | (rw [add_block]; exact hn411_1) | (show (Addr.add _ _).block ≠ _; rw [add_block]; exact hn411_1) | exact hn411_1) (.int .i64 t406)).trans hx411_2; replace hx411_3 := (cell_far (p := ⟨gb410, 1, none⟩) (by first | (rw [add_block]; exact hn411_1) | (show (Addr.add _ _).block ≠ _; rw [add_block]; exact hn411_1) | exact hn411_1) (.int .i64 t406)).trans hx411_3; replace hx411_0 := (cell_far (p := ⟨gb410, 2, none⟩) (by first | (rw [add_block]; exact hn411_2) | (show (Addr.add _ _).block ≠ _; rw [add_block]; exact hn411_2) | exact hn411_2) (.bool true)).trans hx411_0; replace hx411_1 := (cell_far (p := ⟨gb410, 2, none⟩) (by first | (rw [add_block]; exact hn411_2) | (show (Addr.add _ _).block ≠ _; rw [add_block]; exact hn411_2) | exact hn411_2) (.bool true)).trans hx411_1; replace hx411_2 := (cell_far (p := ⟨gb410, 2, none⟩) (by first | (rw [add_block]; exact hn411_2) | (show (Addr.add _ _).block ≠ _; rw [add_block]; exact hn411_2) | exact hn411_2) (.bool true)).trans hx411_2; replace hx411_3 := (cell_far (p := ⟨gb410, 2, none⟩) (by first | (rw [add_block]; exact hn411_2) | (show (Addr.add _ _).block ≠ _; rw [add_block]; exact hn411_2) | exact hn411_2) (.bool true)).trans hx411_3; replace hx411_0 := (cell_far (p := ⟨gb410, 3, none⟩) (by first | (rw [add_block]; exact hn411_3) | (show (Addr.add _ _).block ≠ _; rw [add_block]; exact hn411_3) | exact hn411_3) (.string t408)).trans hx411_0; replace hx411_1 := (cell_far (p := ⟨gb410, 3, none⟩) (by first | (rw [add_block]; exact hn411_3) | (show (Addr.add _ _).block ≠ _; rw [add_block]; exact hn411_3) | exact hn411_3) (.string t408)).trans hx411_1; replace hx411_2 := (cell_far (p := ⟨gb410, 3, none⟩) (by first | (rw [add_block]; exact hn411_3) | (show (Addr.add _ _).block ≠ _; rw [add_block]; exact hn411_3) | exact hn411_3) (.string t408)).trans hx411_2; replace hx411_3 := (cell_far (p := ⟨gb410, 3, none⟩) (by first | (rw [add_block]; exact hn411_3) | (show (Addr.add _ _).block ≠ _; rw [add_block]; exact hn411_3) | exact hn411_3) (.string t408)).trans hx411_3; (try have hy411_0 := fun (n_ : Nat) => (show ((((((w39.drewN n_).setCell ⟨gb410, 0, none⟩ (.string t405)).setCell ⟨gb410, 1, none⟩ (.int .i64 t406)).setCell ⟨gb410, 2, none⟩ (.bool true)).setCell ⟨gb410, 3, none⟩ (.string t408))).cell? _ = some _ from hx411_0)); (try have hy411_1 := fun (n_ : Nat) => (show ((((((w39.drewN n_).setCell ⟨gb410, 0, none⟩ (.string t405)).setCell ⟨gb410, 1, none⟩ (.int .i64 t406)).setCell ⟨gb410, 2, none⟩ (.bool true)).setCell ⟨gb410, 3, none⟩ (.string t408))).cell? _ = some _ from hx411_1)); (try have hy411_2 := fun (n_ : Nat) => (show ((((((w39.drewN n_).setCell ⟨gb410, 0, none⟩ (.string t405)).setCell ⟨gb410, 1, none⟩ (.int .i64 t406)).setCell ⟨gb410, 2, none⟩ (.bool true)).setCell ⟨gb410, 3, none⟩ (.string t408))).cell? _ = some _ from hx411_2)); (try have hy411_3 := fun (n_ : Nat) => (show ((((((w39.drewN n_).setCell ⟨gb410, 0, none⟩ (.string t405)).setCell ⟨gb410, 1, none⟩ (.int .i64 t406)).setCell ⟨gb410, 2, none⟩ (.bool true)).setCell ⟨gb410, 3, none⟩ (.string t408))).cell? _ = some _ from hx411_3)); clear hn411_0; clear hn411_1; clear hn411_2; clear hn411_3; replace p411 := eq_true p411; replace q411 := eq_true q411))
              repeat (go_quiet (first | (go_at_call 20; (with_reducible refine (block_Find.calls k2 _ _ y383 ((rd_T34 y383 x12_2).f0) a1 t405 t406 true t408 true _ ?side1 ?side2 A34.out).mono ?_); (case side1 => repeat (first | exact (Kd.C_below HR386.out HB.out) | (with_reducible refine Kd.C_alloc ?_ _) | (with_reducible refine Kd.C_drewN ?_ _) | (with_reducible refine Kd.C_drew ?_))); (case side2 => exact HC386.out); rintro e w38 ⟨rfl, hb⟩; have n0_ := Aside0.mk (Kd.R_below (by (with_reducible repeat (first | apply Kd.R_alloc | apply Kd.R_drewN | apply Kd.R_drew)); exact HO_6.out) hb); have n1_ := Aside0.mk (Yv HB hb); clear HO_6; clear HB; have HO_6 := n0_; have HB := n1_; clear n0_ n1_; (try clear hb); (try clear hb2); (try clear hk); (try clear hi)) | ((with_reducible refine gate_dst (N := 13) rfl ?_); (try (refine gate_guard (by rfl) ?_; dsimp only)); refine box_event ?hg (N := 13) ?hd (cs := #[.string (⟨#[]⟩ : ByteArray), .int .i64 0, .bool false, .string (⟨#[]⟩ : ByteArray)]) (t := 34) ?hr ?_; (case hd => rfl); (case hg => rfl); (case hr => first | (go_simp; done) | (go_simp; rfl)); intro gb410 hg w39 hbox hb; have n0_ := Aside0.mk (Kd.R_below (Kd.R_elderB (by (with_reducible repeat (first | apply Kd.R_alloc | apply Kd.R_drewN | apply Kd.R_drew)); exact HO_6.out) gb410 (Nat.le_of_eq hg.symm)) hb); have n1_ := Aside0.mk (Yv HB hb); have n2_ := Aside0.mk (hbox); have n3_ := Aside0.mk (Yg HB hg); have n4_ := Aside0.mk (Yg HB hg); clear HO_6; clear HB; have HO_6 := n0_; have HB := n1_; have BK410 := n2_; have GW410 := n3_; have GE410 := n4_; clear n0_ n1_ n2_ n3_ n4_; clear hb hbox hg; obtain ⟨⟨hcz40_0, hcz40_1, hcz40_2, hcz40_3⟩, hfz40_0, hfz40_1, hfz40_2, hfz40_3⟩ := Zk4 BK410; have p411 : 0 ≤ (x12_2 : Int) := of_decide_eq_true (by first | (with_reducible assumption) | assumption); have q411 : x12_2 < (y383.length : Int) := of_decide_eq_true (by first | (with_reducible assumption) | assumption); obtain ⟨ad411, e411, hx411_0, hx411_1, hx411_2, hx411_3⟩ := at_T34 HR386.out x12_2 p411 q411; obtain rfl : ad404 = ad411 := (by injection e411); have hn411_0 : ad404.block ≠ gb410 := Nat.ne_of_lt (Nat.lt_of_lt_of_le (by have := World.block_lt_of_cell? _ _ hx411_0; first | rwa [add_block] at this | exact this) GW410.out); have hn411_1 : ad404.block ≠ gb410 := Nat.ne_of_lt (Nat.lt_of_lt_of_le (by have := World.block_lt_of_cell? _ _ hx411_0; first | rwa [add_block] at this | exact this) GW410.out); have hn411_2 : ad404.block ≠ gb410 := Nat.ne_of_lt (Nat.lt_of_lt_of_le (by have := World.block_lt_of_cell? _ _ hx411_0; first | rwa [add_block] at this | exact this) GW410.out); have hn411_3 : ad404.block ≠ gb410 := Nat.ne_of_lt (Nat.lt_of_lt_of_le (by have := World.block_lt_of_cell? _ _ hx411_0; first | rwa [add_block] at this | exact this) GW410.out); replace hx411_0 := (HB.out.cell (World.block_lt_of_cell? w _ hx411_0)).trans hx411_0; replace hx411_1 := (HB.out.cell (World.block_lt_of_cell? w _ hx411_1)).trans hx411_1; replace hx411_2 := (HB.out.cell (World.block_lt_of_cell? w _ hx411_2)).trans hx411_2; replace hx411_3 := (HB.out.cell (World.block_lt_of_cell? w _ hx411_3)).trans hx411_3; replace hx411_0 := (cell_far (p := ⟨gb410, 0, none⟩) (by first | (rw [add_block]; exact hn411_0) | (show (Addr.add _ _).block ≠ _; rw [add_block]; exact hn411_0) | exact hn411_0) (.string t405)).trans hx411_0; replace hx411_1 := (cell_far (p := ⟨gb410, 0, none⟩) (by first | (rw [add_block]; exact hn411_0) | (show (Addr.add _ _).block ≠ _; rw [add_block]; exact hn411_0) | exact hn411_0) (.string t405)).trans hx411_1; replace hx411_2 := (cell_far (p := ⟨gb410, 0, none⟩) (by first | (rw [add_block]; exact hn411_0) | (show (Addr.add _ _).block ≠ _; rw [add_block]; exact hn411_0) | exact hn411_0) (.string t405)).trans hx411_2; replace hx411_3 := (cell_far (p := ⟨gb410, 0, none⟩) (by first | (rw [add_block]; exact hn411_0) | (show (Addr.add _ _).block ≠ _; rw [add_block]; exact hn411_0) | exact hn411_0) (.string t405)).trans hx411_3; replace hx411_0 := (cell_far (p := ⟨gb410, 1, none⟩) (by first | (rw [add_block]; exact hn411_1) | (show (Addr.add _ _).block ≠ _; rw [add_block]; exact hn411_1) | exact hn411_1) (.int .i64 t406)).trans hx411_0; replace hx411_1 := (cell_far (p := ⟨gb410, 1, none⟩) (by first | (rw [add_block]; exact hn411_1) | (show (Addr.add _ _).block ≠ _; rw [add_block]; exact hn411_1) | exact hn411_1) (.int .i64 t406)).trans hx411_1; replace hx411_2 := (cell_far (p := ⟨gb410, 1, none⟩) (by first | (rw [add_block]; exact hn411_1) | (show (Addr.add _ _).block ≠ _; rw [add_block]; exact hn411_1) | exact hn411_1) (.int .i64 t406)).trans hx411_2; replace hx411_3 := (cell_far (p := ⟨gb410, 1, none⟩) (by first | (rw [add_block]; exact hn411_1) | (show (Addr.add _ _).block ≠ _; rw [add_block]; exact hn411_1) | exact hn411_1) (.int .i64 t406)).trans hx411_3; replace hx411_0 := (cell_far (p := ⟨gb410, 2, none⟩) (by first | (rw [add_block]; exact hn411_2) | (show (Addr.add _ _).block ≠ _; rw [add_block]; exact hn411_2) | exact hn411_2) (.bool true)).trans hx411_0; replace hx411_1 := (cell_far (p := ⟨gb410, 2, none⟩) (by first | (rw [add_block]; exact hn411_2) | (show (Addr.add _ _).block ≠ _; rw [add_block]; exact hn411_2) | exact hn411_2) (.bool true)).trans hx411_1; replace hx411_2 := (cell_far (p := ⟨gb410, 2, none⟩) (by first | (rw [add_block]; exact hn411_2) | (show (Addr.add _ _).block ≠ _; rw [add_block]; exact hn411_2) | exact hn411_2) (.bool true)).trans hx411_2; replace hx411_3 := (cell_far (p := ⟨gb410, 2, none⟩) (by first | (rw [add_block]; exact hn411_2) | (show (Addr.add _ _).block ≠ _; rw [add_block]; exact hn411_2) | exact hn411_2) (.bool true)).trans hx411_3; replace hx411_0 := (cell_far (p := ⟨gb410, 3, none⟩) (by first | (rw [add_block]; exact hn411_3) | (show (Addr.add _ _).block ≠ _; rw [add_block]; exact hn411_3) | exact hn411_3) (.string t408)).trans hx411_0; replace hx411_1 := (cell_far (p := ⟨gb410, 3, none⟩) (by first | (rw [add_block]; exact hn411_3) | (show (Addr.add _ _).block ≠ _; rw [add_block]; exact hn411_3) | exact hn411_3) (.string t408)).trans hx411_1; replace hx411_2 := (cell_far (p := ⟨gb410, 3, none⟩) (by first | (rw [add_block]; exact hn411_3) | (show (Addr.add _ _).block ≠ _; rw [add_block]; exact hn411_3) | exact hn411_3) (.string t408)).trans hx411_2; replace hx411_3 := (cell_far (p := ⟨gb410, 3, none⟩) (by first | (rw [add_block]; exact hn411_3) | (show (Addr.add _ _).block ≠ _; rw [add_block]; exact hn411_3) | exact hn411_3) (.string t408)).trans hx411_3; (try have hy411_0 := fun (n_ : Nat) => (show ((((((w39.drewN n_).setCell ⟨gb410, 0, none⟩ (.string t405)).setCell ⟨gb410, 1, none⟩ (.int .i64 t406)).setCell ⟨gb410, 2, none⟩ (.bool true)).setCell ⟨gb410, 3, none⟩ (.string t408))).cell? _ = some _ from hx411_0)); (try have hy411_1 := fun (n_ : Nat) => (show ((((((w39.drewN n_).setCell ⟨gb410, 0, none⟩ (.string t405)).setCell ⟨gb410, 1, none⟩ (.int .i64 t406)).setCell ⟨gb410, 2, none⟩ (.bool true)).setCell ⟨gb410, 3, none⟩ (.string t408))).cell? _ = some _ from hx411_1)); (try have hy411_2 := fun (n_ : Nat) => (show ((((((w39.drewN n_).setCell ⟨gb410, 0, none⟩ (.string t405)).setCell ⟨gb410, 1, none⟩ (.int .i64 t406)).setCell ⟨gb410, 2, none⟩ (.bool true)).setCell ⟨gb410, 3, none⟩ (.string t408))).cell? _ = some _ from hx411_2)); (try have hy411_3 := fun (n_ : Nat) => (show ((((((w39.drewN n_).setCell ⟨gb410, 0, none⟩ (.string t405)).setCell ⟨gb410, 1, none⟩ (.int .i64 t406)).setCell ⟨gb410, 2, none⟩ (.bool true)).setCell ⟨gb410, 3, none⟩ (.string t408))).cell? _ = some _ from hx411_3)); clear hn411_0; clear hn411_1; clear hn411_2; clear hn411_3; replace p411 := eq_true p411; replace q411 := eq_true q411)); try go_wp2_with (first | (go_at_call 20; (with_reducible refine (block_Find.calls k2 _ _ y383 ((rd_T34 y383 x12_2).f0) a1 t405 t406 true t408 true _ ?side1 ?side2 A34.out).mono ?_); (case side1 => repeat (first | exact (Kd.C_below HR386.out HB.out) | (with_reducible refine Kd.C_alloc ?_ _) | (with_reducible refine Kd.C_drewN ?_ _) | (with_reducible refine Kd.C_drew ?_))); (case side2 => exact HC386.out); rintro e w38 ⟨rfl, hb⟩; have n0_ := Aside0.mk (Kd.R_below (by (with_reducible repeat (first | apply Kd.R_alloc | apply Kd.R_drewN | apply Kd.R_drew)); exact HO_6.out) hb); have n1_ := Aside0.mk (Yv HB hb); clear HO_6; clear HB; have HO_6 := n0_; have HB := n1_; clear n0_ n1_; (try clear hb); (try clear hb2); (try clear hk); (try clear hi)) | ((with_reducible refine gate_dst (N := 13) rfl ?_); (try (refine gate_guard (by rfl) ?_; dsimp only)); refine box_event ?hg (N := 13) ?hd (cs := #[.string (⟨#[]⟩ : ByteArray), .int .i64 0, .bool false, .string (⟨#[]⟩ : ByteArray)]) (t := 34) ?hr ?_; (case hd => rfl); (case hg => rfl); (case hr => first | (go_simp; done) | (go_simp; rfl)); intro gb410 hg w39 hbox hb; have n0_ := Aside0.mk (Kd.R_below (Kd.R_elderB (by (with_reducible repeat (first | apply Kd.R_alloc | apply Kd.R_drewN | apply Kd.R_drew)); exact HO_6.out) gb410 (Nat.le_of_eq hg.symm)) hb); have n1_ := Aside0.mk (Yv HB hb); have n2_ := Aside0.mk (hbox); have n3_ := Aside0.mk (Yg HB hg); have n4_ := Aside0.mk (Yg HB hg); clear HO_6; clear HB; have HO_6 := n0_; have HB := n1_; have BK410 := n2_; have GW410 := n3_; have GE410 := n4_; clear n0_ n1_ n2_ n3_ n4_; clear hb hbox hg; obtain ⟨⟨hcz40_0, hcz40_1, hcz40_2, hcz40_3⟩, hfz40_0, hfz40_1, hfz40_2, hfz40_3⟩ := Zk4 BK410; have p411 : 0 ≤ (x12_2 : Int) := of_decide_eq_true (by first | (with_reducible assumption) | assumption); have q411 : x12_2 < (y383.length : Int) := of_decide_eq_true (by first | (with_reducible assumption) | assumption); obtain ⟨ad411, e411, hx411_0, hx411_1, hx411_2, hx411_3⟩ := at_T34 HR386.out x12_2 p411 q411; obtain rfl : ad404 = ad411 := (by injection e411); have hn411_0 : ad404.block ≠ gb410 := Nat.ne_of_lt (Nat.lt_of_lt_of_le (by have := World.block_lt_of_cell? _ _ hx411_0; first | rwa [add_block] at this | exact this) GW410.out); have hn411_1 : ad404.block ≠ gb410 := Nat.ne_of_lt (Nat.lt_of_lt_of_le (by have := World.block_lt_of_cell? _ _ hx411_0; first | rwa [add_block] at this | exact this) GW410.out); have hn411_2 : ad404.block ≠ gb410 := Nat.ne_of_lt (Nat.lt_of_lt_of_le (by have := World.block_lt_of_cell? _ _ hx411_0; first | rwa [add_block] at this | exact this) GW410.out); have hn411_3 : ad404.block ≠ gb410 := Nat.ne_of_lt (Nat.lt_of_lt_of_le (by have := World.block_lt_of_cell? _ _ hx411_0; first | rwa [add_block] at this | exact this) GW410.out); replace hx411_0 := (HB.out.cell (World.block_lt_of_cell? w _ hx411_0)).trans hx411_0; replace hx411_1 := (HB.out.cell (World.block_lt_of_cell? w _ hx411_1)).trans hx411_1; replace hx411_2 := (HB.out.cell (World.block_lt_of_cell? w _ hx411_2)).trans hx411_2; replace hx411_3 := (HB.out.cell (World.block_lt_of_cell? w _ hx411_3)).trans hx411_3; replace hx411_0 := (cell_far (p := ⟨gb410, 0, none⟩) (by first | (rw [add_block]; exact hn411_0) | (show (Addr.add _ _).block ≠ _; rw [add_block]; exact hn411_0) | exact hn411_0) (.string t405)).trans hx411_0; replace hx411_1 := (cell_far (p := ⟨gb410, 0, none⟩) (by first | (rw [add_block]; exact hn411_0) | (show (Addr.add _ _).block ≠ _; rw [add_block]; exact hn411_0) | exact hn411_0) (.string t405)).trans hx411_1; replace hx411_2 := (cell_far (p := ⟨gb410, 0, none⟩) (by first | (rw [add_block]; exact hn411_0) | (show (Addr.add _ _).block ≠ _; rw [add_block]; exact hn411_0) | exact hn411_0) (.string t405)).trans hx411_2; replace hx411_3 := (cell_far (p := ⟨gb410, 0, none⟩) (by first | (rw [add_block]; exact hn411_0) | (show (Addr.add _ _).block ≠ _; rw [add_block]; exact hn411_0) | exact hn411_0) (.string t405)).trans hx411_3; replace hx411_0 := (cell_far (p := ⟨gb410, 1, none⟩) (by first | (rw [add_block]; exact hn411_1) | (show (Addr.add _ _).block ≠ _; rw [add_block]; exact hn411_1) | exact hn411_1) (.int .i64 t406)).trans hx411_0; replace hx411_1 := (cell_far (p := ⟨gb410, 1, none⟩) (by first | (rw [add_block]; exact hn411_1) | (show (Addr.add _ _).block ≠ _; rw [add_block]; exact hn411_1) | exact hn411_1) (.int .i64 t406)).trans hx411_1; replace hx411_2 := (cell_far (p := ⟨gb410, 1, none⟩) (by first | (rw [add_block]; exact hn411_1) | (show (Addr.add _ _).block ≠ _; rw [add_block]; exact hn411_1) | exact hn411_1) (.int .i64 t406)).trans hx411_2; replace hx411_3 := (cell_far (p := ⟨gb410, 1, none⟩) (by first | (rw [add_block]; exact hn411_1) | (show (Addr.add _ _).block ≠ _; rw [add_block]; exact hn411_1) | exact hn411_1) (.int .i64 t406)).trans hx411_3; replace hx411_0 := (cell_far (p := ⟨gb410, 2, none⟩) (by first | (rw [add_block]; exact hn411_2) | (show (Addr.add _ _).block ≠ _; rw [add_block]; exact hn411_2) | exact hn411_2) (.bool true)).trans hx411_0; replace hx411_1 := (cell_far (p := ⟨gb410, 2, none⟩) (by first | (rw [add_block]; exact hn411_2) | (show (Addr.add _ _).block ≠ _; rw [add_block]; exact hn411_2) | exact hn411_2) (.bool true)).trans hx411_1; replace hx411_2 := (cell_far (p := ⟨gb410, 2, none⟩) (by first | (rw [add_block]; exact hn411_2) | (show (Addr.add _ _).block ≠ _; rw [add_block]; exact hn411_2) | exact hn411_2) (.bool true)).trans hx411_2; replace hx411_3 := (cell_far (p := ⟨gb410, 2, none⟩) (by first | (rw [add_block]; exact hn411_2) | (show (Addr.add _ _).block ≠ _; rw [add_block]; exact hn411_2) | exact hn411_2) (.bool true)).trans hx411_3; replace hx411_0 := (cell_far (p := ⟨gb410, 3, none⟩) (by first | (rw [add_block]; exact hn411_3) | (show (Addr.add _ _).block ≠ _; rw [add_block]; exact hn411_3) | exact hn411_3) (.string t408)).trans hx411_0; replace hx411_1 := (cell_far (p := ⟨gb410, 3, none⟩) (by first | (rw [add_block]; exact hn411_3) | (show (Addr.add _ _).block ≠ _; rw [add_block]; exact hn411_3) | exact hn411_3) (.string t408)).trans hx411_1; replace hx411_2 := (cell_far (p := ⟨gb410, 3, none⟩) (by first | (rw [add_block]; exact hn411_3) | (show (Addr.add _ _).block ≠ _; rw [add_block]; exact hn411_3) | exact hn411_3) (.string t408)).trans hx411_2; replace hx411_3 := (cell_far (p := ⟨gb410, 3, none⟩) (by first | (rw [add_block]; exact hn411_3) | (show (Addr.add _ _).block ≠ _; rw [add_block]; exact hn411_3) | exact hn411_3) (.string t408)).trans hx411_3; (try have hy411_0 := fun (n_ : Nat) => (show ((((((w39.drewN n_).setCell ⟨gb410, 0, none⟩ (.string t405)).setCell ⟨gb410, 1, none⟩ (.int .i64 t406)).setCell ⟨gb410, 2, none⟩ (.bool true)).setCell ⟨gb410, 3, none⟩ (.string t408))).cell? _ = some _ from hx411_0)); (try have hy411_1 := fun (n_ : Nat) => (show ((((((w39.drewN n_).setCell ⟨gb410, 0, none⟩ (.string t405)).setCell ⟨gb410, 1, none⟩ (.int .i64 t406)).setCell ⟨gb410, 2, none⟩ (.bool true)).setCell ⟨gb410, 3, none⟩ (.string t408))).cell? _ = some _ from hx411_1)); (try have hy411_2 := fun (n_ : Nat) => (show ((((((w39.drewN n_).setCell ⟨gb410, 0, none⟩ (.string t405)).setCell ⟨gb410, 1, none⟩ (.int .i64 t406)).setCell ⟨gb410, 2, none⟩ (.bool true)).setCell ⟨gb410, 3, none⟩ (.string t408))).cell? _ = some _ from hx411_2)); (try have hy411_3 := fun (n_ : Nat) => (show ((((((w39.drewN n_).setCell ⟨gb410, 0, none⟩ (.string t405)).setCell ⟨gb410, 1, none⟩ (.int .i64 t406)).setCell ⟨gb410, 2, none⟩ (.bool true)).setCell ⟨gb410, 3, none⟩ (.string t408))).cell? _ = some _ from hx411_3)); clear hn411_0; clear hn411_1; clear hn411_2; clear hn411_3; replace p411 := eq_true p411; replace q411 := eq_true q411)))
              go_roundg k2
              case measure => have := HK1.out; have := HK2.out; omega
              case rel => exact ⟨(x11_2), (wrap64 (x12_2 + 1)), (by first | rfl | (simp; done) | (simp [*]; done)), (by first | rfl | (simp; done) | (simp [*]; done)), H', ⟨by have := HK1.out; have := HK2.out; omega⟩, ⟨by (with_reducible repeat (first | apply Kd.R_alloc | apply Kd.R_drewN | apply Kd.R_drew)); exact Kd.R_mono (Kd.R_far (p := ⟨gb410, 3, none⟩) (Kd.R_far (p := ⟨gb410, 2, none⟩) (Kd.R_far (p := ⟨gb410, 1, none⟩) (Kd.R_far (p := ⟨gb410, 0, none⟩) (Kd.R_mono HO_6.out (fun k_ hk => (⟨hk, hk.2⟩ : _ ∧ k_ ≠ gb410))) (fun _ hk => hk.2) (.string t405)) (fun _ hk => hk.2) (.int .i64 t406)) (fun _ hk => hk.2) (.bool true)) (fun _ hk => hk.2) (.string t408)) (fun _ hk => trivial)⟩, ⟨Yr HB⟩⟩
             ·
              replace c37 := Bool.eq_false_iff.mpr c37
              subst c37
              have ce36 := c36b0
              simp only [Bool.and_eq_true] at ce36
              obtain ⟨ce36_0, ce36_1, ce36_2, ce36_3⟩ := ce36
              have cf36 : ((rd_T34 y383 x12_2).f2) = false := by simpa using ce36_2
              have H1 : (palinodelaw15_MergeSees.l1 k2 y383 a1 t382 t387 (wrap64 (x11_2 + 1)) (wrap64 (x12_2 + 1))) = some r := by rw [if_neg (show ¬ (false = true) by decide)] at H; exact H
              clear H
              have H := H1
              clear H1
              have H' := Aside0.mk H
              clear H
              have p404 : 0 ≤ (x12_2 : Int) := of_decide_eq_true (by first | (with_reducible assumption) | assumption)
              have q404 : x12_2 < (y383.length : Int) := of_decide_eq_true (by first | (with_reducible assumption) | assumption)
              obtain ⟨ad404, e404, hx404_0, hx404_1, hx404_2, hx404_3⟩ := at_T34 HR386.out x12_2 p404 q404
              cases e404
              replace hx404_0 := (HB.out.cell (World.block_lt_of_cell? w _ hx404_0)).trans hx404_0
              replace hx404_1 := (HB.out.cell (World.block_lt_of_cell? w _ hx404_1)).trans hx404_1
              replace hx404_2 := (HB.out.cell (World.block_lt_of_cell? w _ hx404_2)).trans hx404_2
              replace hx404_3 := (HB.out.cell (World.block_lt_of_cell? w _ hx404_3)).trans hx404_3
              replace p404 := eq_true p404
              replace q404 := eq_true q404
              go_wp2_with (first | (go_at_call 20; (with_reducible refine (block_Find.calls k2 _ _ y383 ((rd_T34 y383 x12_2).f0) a1 t405 t406 false t408 true _ ?side1 ?side2 A34.out).mono ?_); (case side1 => repeat (first | exact (Kd.C_below HR386.out HB.out) | (with_reducible refine Kd.C_alloc ?_ _) | (with_reducible refine Kd.C_drewN ?_ _) | (with_reducible refine Kd.C_drew ?_))); (case side2 => exact HC386.out); rintro e w41 ⟨rfl, hb⟩; have n0_ := Aside0.mk (Kd.R_below (by (with_reducible repeat (first | apply Kd.R_alloc | apply Kd.R_drewN | apply Kd.R_drew)); exact HO_6.out) hb); have n1_ := Aside0.mk (Yv HB hb); clear HO_6; clear HB; have HO_6 := n0_; have HB := n1_; clear n0_ n1_; (try clear hb); (try clear hb2); (try clear hk); (try clear hi)) | ((with_reducible refine gate_dst (N := 13) rfl ?_); (try (refine gate_guard (by rfl) ?_; dsimp only)); refine box_event ?hg (N := 13) ?hd (cs := #[.string (⟨#[]⟩ : ByteArray), .int .i64 0, .bool false, .string (⟨#[]⟩ : ByteArray)]) (t := 34) ?hr ?_; (case hd => rfl); (case hg => rfl); (case hr => first | (go_simp; done) | (go_simp; rfl)); intro gb410 hg w42 hbox hb; have n0_ := Aside0.mk (Kd.R_below (Kd.R_elderB (by (with_reducible repeat (first | apply Kd.R_alloc | apply Kd.R_drewN | apply Kd.R_drew)); exact HO_6.out) gb410 (Nat.le_of_eq hg.symm)) hb); have n1_ := Aside0.mk (Yv HB hb); have n2_ := Aside0.mk (hbox); have n3_ := Aside0.mk (Yg HB hg); have n4_ := Aside0.mk (Yg HB hg); clear HO_6; clear HB; have HO_6 := n0_; have HB := n1_; have BK410 := n2_; have GW410 := n3_; have GE410 := n4_; clear n0_ n1_ n2_ n3_ n4_; clear hb hbox hg; obtain ⟨⟨hcz43_0, hcz43_1, hcz43_2, hcz43_3⟩, hfz43_0, hfz43_1, hfz43_2, hfz43_3⟩ := Zk4 BK410; have p411 : 0 ≤ (x12_2 : Int) := of_decide_eq_true (by first | (with_reducible assumption) | assumption); have q411 : x12_2 < (y383.length : Int) := of_decide_eq_true (by first | (with_reducible assumption) | assumption); obtain ⟨ad411, e411, hx411_0, hx411_1, hx411_2, hx411_3⟩ := at_T34 HR386.out x12_2 p411 q411; obtain rfl : ad404 = ad411 := (by injection e411); have hn411_0 : ad404.block ≠ gb410 := Nat.ne_of_lt (Nat.lt_of_lt_of_le (by have := World.block_lt_of_cell? _ _ hx411_0; first | rwa [add_block] at this | exact this) GW410.out); have hn411_1 : ad404.block ≠ gb410 := Nat.ne_of_lt (Nat.lt_of_lt_of_le (by have := World.block_lt_of_cell? _ _ hx411_0; first | rwa [add_block] at this | exact this) GW410.out); have hn411_2 : ad404.block ≠ gb410 := Nat.ne_of_lt (Nat.lt_of_lt_of_le (by have := World.block_lt_of_cell? _ _ hx411_0; first | rwa [add_block] at this | exact this) GW410.out); have hn411_3 : ad404.block ≠ gb410 := Nat.ne_of_lt (Nat.lt_of_lt_of_le (by have := World.block_lt_of_cell? _ _ hx411_0; first | rwa [add_block] at this | exact this) GW410.out); replace hx411_0 := (HB.out.cell (World.block_lt_of_cell? w _ hx411_0)).trans hx411_0; replace hx411_1 := (HB.out.cell (World.block_lt_of_cell? w _ hx411_1)).trans hx411_1; replace hx411_2 := (HB.out.cell (World.block_lt_of_cell? w _ hx411_2)).trans hx411_2; replace hx411_3 := (HB.out.cell (World.block_lt_of_cell? w _ hx411_3)).trans hx411_3; replace hx411_0 := (cell_far (p := ⟨gb410, 0, none⟩) (by first | (rw [add_block]; exact hn411_0) | (show (Addr.add _ _).block ≠ _; rw [add_block]; exact hn411_0) | exact hn411_0) (.string t405)).trans hx411_0; replace hx411_1 := (cell_far (p := ⟨gb410, 0, none⟩) (by first | (rw [add_block]; exact hn411_0) | (show (Addr.add _ _).block ≠ _; rw [add_block]; exact hn411_0) | exact hn411_0) (.string t405)).trans hx411_1; replace hx411_2 := (cell_far (p := ⟨gb410, 0, none⟩) (by first | (rw [add_block]; exact hn411_0) | (show (Addr.add _ _).block ≠ _; rw [add_block]; exact hn411_0) | exact hn411_0) (.string t405)).trans hx411_2; replace hx411_3 := (cell_far (p := ⟨gb410, 0, none⟩) (by first | (rw [add_block]; exact hn411_0) | (show (Addr.add _ _).block ≠ _; rw [add_block]; exact hn411_0) | exact hn411_0) (.string t405)).trans hx411_3; replace hx411_0 := (cell_far (p := ⟨gb410, 1, none⟩) (by first | (rw [add_block]; exact hn411_1) | (show (Addr.add _ _).block ≠ _; rw [add_block]; exact hn411_1) | exact hn411_1) (.int .i64 t406)).trans hx411_0; replace hx411_1 := (cell_far (p := ⟨gb410, 1, none⟩) (by first | (rw [add_block]; exact hn411_1) | (show (Addr.add _ _).block ≠ _; rw [add_block]; exact hn411_1) | exact hn411_1) (.int .i64 t406)).trans hx411_1; replace hx411_2 := (cell_far (p := ⟨gb410, 1, none⟩) (by first | (rw [add_block]; exact hn411_1) | (show (Addr.add _ _).block ≠ _; rw [add_block]; exact hn411_1) | exact hn411_1) (.int .i64 t406)).trans hx411_2; replace hx411_3 := (cell_far (p := ⟨gb410, 1, none⟩) (by first | (rw [add_block]; exact hn411_1) | (show (Addr.add _ _).block ≠ _; rw [add_block]; exact hn411_1) | exact hn411_1) (.int .i64 t406)).trans hx411_3; replace hx411_0 := (cell_far (p := ⟨gb410, 2, none⟩) (by first | (rw [add_block]; exact hn411_2) | (show (Addr.add _ _).block ≠ _; rw [add_block]; exact hn411_2) | exact hn411_2) (.bool false)).trans hx411_0; replace hx411_1 := (cell_far (p := ⟨gb410, 2, none⟩) (by first | (rw [add_block]; exact hn411_2) | (show (Addr.add _ _).block ≠ _; rw [add_block]; exact hn411_2) | exact hn411_2) (.bool false)).trans hx411_1; replace hx411_2 := (cell_far (p := ⟨gb410, 2, none⟩) (by first | (rw [add_block]; exact hn411_2) | (show (Addr.add _ _).block ≠ _; rw [add_block]; exact hn411_2) | exact hn411_2) (.bool false)).trans hx411_2; replace hx411_3 := (cell_far (p := ⟨gb410, 2, none⟩) (by first | (rw [add_block]; exact hn411_2) | (show (Addr.add _ _).block ≠ _; rw [add_block]; exact hn411_2) | exact hn411_2) (.bool false)).trans hx411_3; replace hx411_0 := (cell_far (p := ⟨gb410, 3, none⟩) (by first | (rw [add_block]; exact hn411_3) | (show (Addr.add _ _).block ≠ _; rw [add_block]; exact hn411_3) | exact hn411_3) (.string t408)).trans hx411_0; replace hx411_1 := (cell_far (p := ⟨gb410, 3, none⟩) (by first | (rw [add_block]; exact hn411_3) | (show (Addr.add _ _).block ≠ _; rw [add_block]; exact hn411_3) | exact hn411_3) (.string t408)).trans hx411_1; replace hx411_2 := (cell_far (p := ⟨gb410, 3, none⟩) (by first | (rw [add_block]; exact hn411_3) | (show (Addr.add _ _).block ≠ _; rw [add_block]; exact hn411_3) | exact hn411_3) (.string t408)).trans hx411_2; replace hx411_3 := (cell_far (p := ⟨gb410, 3, none⟩) (by first | (rw [add_block]; exact hn411_3) | (show (Addr.add _ _).block ≠ _; rw [add_block]; exact hn411_3) | exact hn411_3) (.string t408)).trans hx411_3; (try have hy411_0 := fun (n_ : Nat) => (show ((((((w42.drewN n_).setCell ⟨gb410, 0, none⟩ (.string t405)).setCell ⟨gb410, 1, none⟩ (.int .i64 t406)).setCell ⟨gb410, 2, none⟩ (.bool false)).setCell ⟨gb410, 3, none⟩ (.string t408))).cell? _ = some _ from hx411_0)); (try have hy411_1 := fun (n_ : Nat) => (show ((((((w42.drewN n_).setCell ⟨gb410, 0, none⟩ (.string t405)).setCell ⟨gb410, 1, none⟩ (.int .i64 t406)).setCell ⟨gb410, 2, none⟩ (.bool false)).setCell ⟨gb410, 3, none⟩ (.string t408))).cell? _ = some _ from hx411_1)); (try have hy411_2 := fun (n_ : Nat) => (show ((((((w42.drewN n_).setCell ⟨gb410, 0, none⟩ (.string t405)).setCell ⟨gb410, 1, none⟩ (.int .i64 t406)).setCell ⟨gb410, 2, none⟩ (.bool false)).setCell ⟨gb410, 3, none⟩ (.string t408))).cell? _ = some _ from hx411_2)); (try have hy411_3 := fun (n_ : Nat) => (show ((((((w42.drewN n_).setCell ⟨gb410, 0, none⟩ (.string t405)).setCell ⟨gb410, 1, none⟩ (.int .i64 t406)).setCell ⟨gb410, 2, none⟩ (.bool false)).setCell ⟨gb410, 3, none⟩ (.string t408))).cell? _ = some _ from hx411_3)); clear hn411_0; clear hn411_1; clear hn411_2; clear hn411_3; replace p411 := eq_true p411; replace q411 := eq_true q411))
              repeat (go_quiet (first | (go_at_call 20; (with_reducible refine (block_Find.calls k2 _ _ y383 ((rd_T34 y383 x12_2).f0) a1 t405 t406 false t408 true _ ?side1 ?side2 A34.out).mono ?_); (case side1 => repeat (first | exact (Kd.C_below HR386.out HB.out) | (with_reducible refine Kd.C_alloc ?_ _) | (with_reducible refine Kd.C_drewN ?_ _) | (with_reducible refine Kd.C_drew ?_))); (case side2 => exact HC386.out); rintro e w41 ⟨rfl, hb⟩; have n0_ := Aside0.mk (Kd.R_below (by (with_reducible repeat (first | apply Kd.R_alloc | apply Kd.R_drewN | apply Kd.R_drew)); exact HO_6.out) hb); have n1_ := Aside0.mk (Yv HB hb); clear HO_6; clear HB; have HO_6 := n0_; have HB := n1_; clear n0_ n1_; (try clear hb); (try clear hb2); (try clear hk); (try clear hi)) | ((with_reducible refine gate_dst (N := 13) rfl ?_); (try (refine gate_guard (by rfl) ?_; dsimp only)); refine box_event ?hg (N := 13) ?hd (cs := #[.string (⟨#[]⟩ : ByteArray), .int .i64 0, .bool false, .string (⟨#[]⟩ : ByteArray)]) (t := 34) ?hr ?_; (case hd => rfl); (case hg => rfl); (case hr => first | (go_simp; done) | (go_simp; rfl)); intro gb410 hg w42 hbox hb; have n0_ := Aside0.mk (Kd.R_below (Kd.R_elderB (by (with_reducible repeat (first | apply Kd.R_alloc | apply Kd.R_drewN | apply Kd.R_drew)); exact HO_6.out) gb410 (Nat.le_of_eq hg.symm)) hb); have n1_ := Aside0.mk (Yv HB hb); have n2_ := Aside0.mk (hbox); have n3_ := Aside0.mk (Yg HB hg); have n4_ := Aside0.mk (Yg HB hg); clear HO_6; clear HB; have HO_6 := n0_; have HB := n1_; have BK410 := n2_; have GW410 := n3_; have GE410 := n4_; clear n0_ n1_ n2_ n3_ n4_; clear hb hbox hg; obtain ⟨⟨hcz43_0, hcz43_1, hcz43_2, hcz43_3⟩, hfz43_0, hfz43_1, hfz43_2, hfz43_3⟩ := Zk4 BK410; have p411 : 0 ≤ (x12_2 : Int) := of_decide_eq_true (by first | (with_reducible assumption) | assumption); have q411 : x12_2 < (y383.length : Int) := of_decide_eq_true (by first | (with_reducible assumption) | assumption); obtain ⟨ad411, e411, hx411_0, hx411_1, hx411_2, hx411_3⟩ := at_T34 HR386.out x12_2 p411 q411; obtain rfl : ad404 = ad411 := (by injection e411); have hn411_0 : ad404.block ≠ gb410 := Nat.ne_of_lt (Nat.lt_of_lt_of_le (by have := World.block_lt_of_cell? _ _ hx411_0; first | rwa [add_block] at this | exact this) GW410.out); have hn411_1 : ad404.block ≠ gb410 := Nat.ne_of_lt (Nat.lt_of_lt_of_le (by have := World.block_lt_of_cell? _ _ hx411_0; first | rwa [add_block] at this | exact this) GW410.out); have hn411_2 : ad404.block ≠ gb410 := Nat.ne_of_lt (Nat.lt_of_lt_of_le (by have := World.block_lt_of_cell? _ _ hx411_0; first | rwa [add_block] at this | exact this) GW410.out); have hn411_3 : ad404.block ≠ gb410 := Nat.ne_of_lt (Nat.lt_of_lt_of_le (by have := World.block_lt_of_cell? _ _ hx411_0; first | rwa [add_block] at this | exact this) GW410.out); replace hx411_0 := (HB.out.cell (World.block_lt_of_cell? w _ hx411_0)).trans hx411_0; replace hx411_1 := (HB.out.cell (World.block_lt_of_cell? w _ hx411_1)).trans hx411_1; replace hx411_2 := (HB.out.cell (World.block_lt_of_cell? w _ hx411_2)).trans hx411_2; replace hx411_3 := (HB.out.cell (World.block_lt_of_cell? w _ hx411_3)).trans hx411_3; replace hx411_0 := (cell_far (p := ⟨gb410, 0, none⟩) (by first | (rw [add_block]; exact hn411_0) | (show (Addr.add _ _).block ≠ _; rw [add_block]; exact hn411_0) | exact hn411_0) (.string t405)).trans hx411_0; replace hx411_1 := (cell_far (p := ⟨gb410, 0, none⟩) (by first | (rw [add_block]; exact hn411_0) | (show (Addr.add _ _).block ≠ _; rw [add_block]; exact hn411_0) | exact hn411_0) (.string t405)).trans hx411_1; replace hx411_2 := (cell_far (p := ⟨gb410, 0, none⟩) (by first | (rw [add_block]; exact hn411_0) | (show (Addr.add _ _).block ≠ _; rw [add_block]; exact hn411_0) | exact hn411_0) (.string t405)).trans hx411_2; replace hx411_3 := (cell_far (p := ⟨gb410, 0, none⟩) (by first | (rw [add_block]; exact hn411_0) | (show (Addr.add _ _).block ≠ _; rw [add_block]; exact hn411_0) | exact hn411_0) (.string t405)).trans hx411_3; replace hx411_0 := (cell_far (p := ⟨gb410, 1, none⟩) (by first | (rw [add_block]; exact hn411_1) | (show (Addr.add _ _).block ≠ _; rw [add_block]; exact hn411_1) | exact hn411_1) (.int .i64 t406)).trans hx411_0; replace hx411_1 := (cell_far (p := ⟨gb410, 1, none⟩) (by first | (rw [add_block]; exact hn411_1) | (show (Addr.add _ _).block ≠ _; rw [add_block]; exact hn411_1) | exact hn411_1) (.int .i64 t406)).trans hx411_1; replace hx411_2 := (cell_far (p := ⟨gb410, 1, none⟩) (by first | (rw [add_block]; exact hn411_1) | (show (Addr.add _ _).block ≠ _; rw [add_block]; exact hn411_1) | exact hn411_1) (.int .i64 t406)).trans hx411_2; replace hx411_3 := (cell_far (p := ⟨gb410, 1, none⟩) (by first | (rw [add_block]; exact hn411_1) | (show (Addr.add _ _).block ≠ _; rw [add_block]; exact hn411_1) | exact hn411_1) (.int .i64 t406)).trans hx411_3; replace hx411_0 := (cell_far (p := ⟨gb410, 2, none⟩) (by first | (rw [add_block]; exact hn411_2) | (show (Addr.add _ _).block ≠ _; rw [add_block]; exact hn411_2) | exact hn411_2) (.bool false)).trans hx411_0; replace hx411_1 := (cell_far (p := ⟨gb410, 2, none⟩) (by first | (rw [add_block]; exact hn411_2) | (show (Addr.add _ _).block ≠ _; rw [add_block]; exact hn411_2) | exact hn411_2) (.bool false)).trans hx411_1; replace hx411_2 := (cell_far (p := ⟨gb410, 2, none⟩) (by first | (rw [add_block]; exact hn411_2) | (show (Addr.add _ _).block ≠ _; rw [add_block]; exact hn411_2) | exact hn411_2) (.bool false)).trans hx411_2; replace hx411_3 := (cell_far (p := ⟨gb410, 2, none⟩) (by first | (rw [add_block]; exact hn411_2) | (show (Addr.add _ _).block ≠ _; rw [add_block]; exact hn411_2) | exact hn411_2) (.bool false)).trans hx411_3; replace hx411_0 := (cell_far (p := ⟨gb410, 3, none⟩) (by first | (rw [add_block]; exact hn411_3) | (show (Addr.add _ _).block ≠ _; rw [add_block]; exact hn411_3) | exact hn411_3) (.string t408)).trans hx411_0; replace hx411_1 := (cell_far (p := ⟨gb410, 3, none⟩) (by first | (rw [add_block]; exact hn411_3) | (show (Addr.add _ _).block ≠ _; rw [add_block]; exact hn411_3) | exact hn411_3) (.string t408)).trans hx411_1; replace hx411_2 := (cell_far (p := ⟨gb410, 3, none⟩) (by first | (rw [add_block]; exact hn411_3) | (show (Addr.add _ _).block ≠ _; rw [add_block]; exact hn411_3) | exact hn411_3) (.string t408)).trans hx411_2; replace hx411_3 := (cell_far (p := ⟨gb410, 3, none⟩) (by first | (rw [add_block]; exact hn411_3) | (show (Addr.add _ _).block ≠ _; rw [add_block]; exact hn411_3) | exact hn411_3) (.string t408)).trans hx411_3; (try have hy411_0 := fun (n_ : Nat) => (show ((((((w42.drewN n_).setCell ⟨gb410, 0, none⟩ (.string t405)).setCell ⟨gb410, 1, none⟩ (.int .i64 t406)).setCell ⟨gb410, 2, none⟩ (.bool false)).setCell ⟨gb410, 3, none⟩ (.string t408))).cell? _ = some _ from hx411_0)); (try have hy411_1 := fun (n_ : Nat) => (show ((((((w42.drewN n_).setCell ⟨gb410, 0, none⟩ (.string t405)).setCell ⟨gb410, 1, none⟩ (.int .i64 t406)).setCell ⟨gb410, 2, none⟩ (.bool false)).setCell ⟨gb410, 3, none⟩ (.string t408))).cell? _ = some _ from hx411_1)); (try have hy411_2 := fun (n_ : Nat) => (show ((((((w42.drewN n_).setCell ⟨gb410, 0, none⟩ (.string t405)).setCell ⟨gb410, 1, none⟩ (.int .i64 t406)).setCell ⟨gb410, 2, none⟩ (.bool false)).setCell ⟨gb410, 3, none⟩ (.string t408))).cell? _ = some _ from hx411_2)); (try have hy411_3 := fun (n_ : Nat) => (show ((((((w42.drewN n_).setCell ⟨gb410, 0, none⟩ (.string t405)).setCell ⟨gb410, 1, none⟩ (.int .i64 t406)).setCell ⟨gb410, 2, none⟩ (.bool false)).setCell ⟨gb410, 3, none⟩ (.string t408))).cell? _ = some _ from hx411_3)); clear hn411_0; clear hn411_1; clear hn411_2; clear hn411_3; replace p411 := eq_true p411; replace q411 := eq_true q411)); try go_wp2_with (first | (go_at_call 20; (with_reducible refine (block_Find.calls k2 _ _ y383 ((rd_T34 y383 x12_2).f0) a1 t405 t406 false t408 true _ ?side1 ?side2 A34.out).mono ?_); (case side1 => repeat (first | exact (Kd.C_below HR386.out HB.out) | (with_reducible refine Kd.C_alloc ?_ _) | (with_reducible refine Kd.C_drewN ?_ _) | (with_reducible refine Kd.C_drew ?_))); (case side2 => exact HC386.out); rintro e w41 ⟨rfl, hb⟩; have n0_ := Aside0.mk (Kd.R_below (by (with_reducible repeat (first | apply Kd.R_alloc | apply Kd.R_drewN | apply Kd.R_drew)); exact HO_6.out) hb); have n1_ := Aside0.mk (Yv HB hb); clear HO_6; clear HB; have HO_6 := n0_; have HB := n1_; clear n0_ n1_; (try clear hb); (try clear hb2); (try clear hk); (try clear hi)) | ((with_reducible refine gate_dst (N := 13) rfl ?_); (try (refine gate_guard (by rfl) ?_; dsimp only)); refine box_event ?hg (N := 13) ?hd (cs := #[.string (⟨#[]⟩ : ByteArray), .int .i64 0, .bool false, .string (⟨#[]⟩ : ByteArray)]) (t := 34) ?hr ?_; (case hd => rfl); (case hg => rfl); (case hr => first | (go_simp; done) | (go_simp; rfl)); intro gb410 hg w42 hbox hb; have n0_ := Aside0.mk (Kd.R_below (Kd.R_elderB (by (with_reducible repeat (first | apply Kd.R_alloc | apply Kd.R_drewN | apply Kd.R_drew)); exact HO_6.out) gb410 (Nat.le_of_eq hg.symm)) hb); have n1_ := Aside0.mk (Yv HB hb); have n2_ := Aside0.mk (hbox); have n3_ := Aside0.mk (Yg HB hg); have n4_ := Aside0.mk (Yg HB hg); clear HO_6; clear HB; have HO_6 := n0_; have HB := n1_; have BK410 := n2_; have GW410 := n3_; have GE410 := n4_; clear n0_ n1_ n2_ n3_ n4_; clear hb hbox hg; obtain ⟨⟨hcz43_0, hcz43_1, hcz43_2, hcz43_3⟩, hfz43_0, hfz43_1, hfz43_2, hfz43_3⟩ := Zk4 BK410; have p411 : 0 ≤ (x12_2 : Int) := of_decide_eq_true (by first | (with_reducible assumption) | assumption); have q411 : x12_2 < (y383.length : Int) := of_decide_eq_true (by first | (with_reducible assumption) | assumption); obtain ⟨ad411, e411, hx411_0, hx411_1, hx411_2, hx411_3⟩ := at_T34 HR386.out x12_2 p411 q411; obtain rfl : ad404 = ad411 := (by injection e411); have hn411_0 : ad404.block ≠ gb410 := Nat.ne_of_lt (Nat.lt_of_lt_of_le (by have := World.block_lt_of_cell? _ _ hx411_0; first | rwa [add_block] at this | exact this) GW410.out); have hn411_1 : ad404.block ≠ gb410 := Nat.ne_of_lt (Nat.lt_of_lt_of_le (by have := World.block_lt_of_cell? _ _ hx411_0; first | rwa [add_block] at this | exact this) GW410.out); have hn411_2 : ad404.block ≠ gb410 := Nat.ne_of_lt (Nat.lt_of_lt_of_le (by have := World.block_lt_of_cell? _ _ hx411_0; first | rwa [add_block] at this | exact this) GW410.out); have hn411_3 : ad404.block ≠ gb410 := Nat.ne_of_lt (Nat.lt_of_lt_of_le (by have := World.block_lt_of_cell? _ _ hx411_0; first | rwa [add_block] at this | exact this) GW410.out); replace hx411_0 := (HB.out.cell (World.block_lt_of_cell? w _ hx411_0)).trans hx411_0; replace hx411_1 := (HB.out.cell (World.block_lt_of_cell? w _ hx411_1)).trans hx411_1; replace hx411_2 := (HB.out.cell (World.block_lt_of_cell? w _ hx411_2)).trans hx411_2; replace hx411_3 := (HB.out.cell (World.block_lt_of_cell? w _ hx411_3)).trans hx411_3; replace hx411_0 := (cell_far (p := ⟨gb410, 0, none⟩) (by first | (rw [add_block]; exact hn411_0) | (show (Addr.add _ _).block ≠ _; rw [add_block]; exact hn411_0) | exact hn411_0) (.string t405)).trans hx411_0; replace hx411_1 := (cell_far (p := ⟨gb410, 0, none⟩) (by first | (rw [add_block]; exact hn411_0) | (show (Addr.add _ _).block ≠ _; rw [add_block]; exact hn411_0) | exact hn411_0) (.string t405)).trans hx411_1; replace hx411_2 := (cell_far (p := ⟨gb410, 0, none⟩) (by first | (rw [add_block]; exact hn411_0) | (show (Addr.add _ _).block ≠ _; rw [add_block]; exact hn411_0) | exact hn411_0) (.string t405)).trans hx411_2; replace hx411_3 := (cell_far (p := ⟨gb410, 0, none⟩) (by first | (rw [add_block]; exact hn411_0) | (show (Addr.add _ _).block ≠ _; rw [add_block]; exact hn411_0) | exact hn411_0) (.string t405)).trans hx411_3; replace hx411_0 := (cell_far (p := ⟨gb410, 1, none⟩) (by first | (rw [add_block]; exact hn411_1) | (show (Addr.add _ _).block ≠ _; rw [add_block]; exact hn411_1) | exact hn411_1) (.int .i64 t406)).trans hx411_0; replace hx411_1 := (cell_far (p := ⟨gb410, 1, none⟩) (by first | (rw [add_block]; exact hn411_1) | (show (Addr.add _ _).block ≠ _; rw [add_block]; exact hn411_1) | exact hn411_1) (.int .i64 t406)).trans hx411_1; replace hx411_2 := (cell_far (p := ⟨gb410, 1, none⟩) (by first | (rw [add_block]; exact hn411_1) | (show (Addr.add _ _).block ≠ _; rw [add_block]; exact hn411_1) | exact hn411_1) (.int .i64 t406)).trans hx411_2; replace hx411_3 := (cell_far (p := ⟨gb410, 1, none⟩) (by first | (rw [add_block]; exact hn411_1) | (show (Addr.add _ _).block ≠ _; rw [add_block]; exact hn411_1) | exact hn411_1) (.int .i64 t406)).trans hx411_3; replace hx411_0 := (cell_far (p := ⟨gb410, 2, none⟩) (by first | (rw [add_block]; exact hn411_2) | (show (Addr.add _ _).block ≠ _; rw [add_block]; exact hn411_2) | exact hn411_2) (.bool false)).trans hx411_0; replace hx411_1 := (cell_far (p := ⟨gb410, 2, none⟩) (by first | (rw [add_block]; exact hn411_2) | (show (Addr.add _ _).block ≠ _; rw [add_block]; exact hn411_2) | exact hn411_2) (.bool false)).trans hx411_1; replace hx411_2 := (cell_far (p := ⟨gb410, 2, none⟩) (by first | (rw [add_block]; exact hn411_2) | (show (Addr.add _ _).block ≠ _; rw [add_block]; exact hn411_2) | exact hn411_2) (.bool false)).trans hx411_2; replace hx411_3 := (cell_far (p := ⟨gb410, 2, none⟩) (by first | (rw [add_block]; exact hn411_2) | (show (Addr.add _ _).block ≠ _; rw [add_block]; exact hn411_2) | exact hn411_2) (.bool false)).trans hx411_3; replace hx411_0 := (cell_far (p := ⟨gb410, 3, none⟩) (by first | (rw [add_block]; exact hn411_3) | (show (Addr.add _ _).block ≠ _; rw [add_block]; exact hn411_3) | exact hn411_3) (.string t408)).trans hx411_0; replace hx411_1 := (cell_far (p := ⟨gb410, 3, none⟩) (by first | (rw [add_block]; exact hn411_3) | (show (Addr.add _ _).block ≠ _; rw [add_block]; exact hn411_3) | exact hn411_3) (.string t408)).trans hx411_1; replace hx411_2 := (cell_far (p := ⟨gb410, 3, none⟩) (by first | (rw [add_block]; exact hn411_3) | (show (Addr.add _ _).block ≠ _; rw [add_block]; exact hn411_3) | exact hn411_3) (.string t408)).trans hx411_2; replace hx411_3 := (cell_far (p := ⟨gb410, 3, none⟩) (by first | (rw [add_block]; exact hn411_3) | (show (Addr.add _ _).block ≠ _; rw [add_block]; exact hn411_3) | exact hn411_3) (.string t408)).trans hx411_3; (try have hy411_0 := fun (n_ : Nat) => (show ((((((w42.drewN n_).setCell ⟨gb410, 0, none⟩ (.string t405)).setCell ⟨gb410, 1, none⟩ (.int .i64 t406)).setCell ⟨gb410, 2, none⟩ (.bool false)).setCell ⟨gb410, 3, none⟩ (.string t408))).cell? _ = some _ from hx411_0)); (try have hy411_1 := fun (n_ : Nat) => (show ((((((w42.drewN n_).setCell ⟨gb410, 0, none⟩ (.string t405)).setCell ⟨gb410, 1, none⟩ (.int .i64 t406)).setCell ⟨gb410, 2, none⟩ (.bool false)).setCell ⟨gb410, 3, none⟩ (.string t408))).cell? _ = some _ from hx411_1)); (try have hy411_2 := fun (n_ : Nat) => (show ((((((w42.drewN n_).setCell ⟨gb410, 0, none⟩ (.string t405)).setCell ⟨gb410, 1, none⟩ (.int .i64 t406)).setCell ⟨gb410, 2, none⟩ (.bool false)).setCell ⟨gb410, 3, none⟩ (.string t408))).cell? _ = some _ from hx411_2)); (try have hy411_3 := fun (n_ : Nat) => (show ((((((w42.drewN n_).setCell ⟨gb410, 0, none⟩ (.string t405)).setCell ⟨gb410, 1, none⟩ (.int .i64 t406)).setCell ⟨gb410, 2, none⟩ (.bool false)).setCell ⟨gb410, 3, none⟩ (.string t408))).cell? _ = some _ from hx411_3)); clear hn411_0; clear hn411_1; clear hn411_2; clear hn411_3; replace p411 := eq_true p411; replace q411 := eq_true q411)))
              go_roundg k2
              case measure => have := HK1.out; have := HK2.out; omega
              case rel => exact ⟨(wrap64 (x11_2 + 1)), (wrap64 (x12_2 + 1)), (by first | rfl | (simp; done) | (simp [*]; done)), (by first | rfl | (simp; done) | (simp [*]; done)), H', ⟨by have := HK1.out; have := HK2.out; omega⟩, ⟨by (with_reducible repeat (first | apply Kd.R_alloc | apply Kd.R_drewN | apply Kd.R_drew)); exact Kd.R_mono (Kd.R_far (p := ⟨gb410, 3, none⟩) (Kd.R_far (p := ⟨gb410, 2, none⟩) (Kd.R_far (p := ⟨gb410, 1, none⟩) (Kd.R_far (p := ⟨gb410, 0, none⟩) (Kd.R_mono HO_6.out (fun k_ hk => (⟨hk, hk.2⟩ : _ ∧ k_ ≠ gb410))) (fun _ hk => hk.2) (.string t405)) (fun _ hk => hk.2) (.int .i64 t406)) (fun _ hk => hk.2) (.bool false)) (fun _ hk => hk.2) (.string t408)) (fun _ hk => trivial)⟩, ⟨Yr HB⟩⟩
            ·
             rw [if_neg c36] at H
             have c36b0 : (t405.toList == (((rd_T34 y383 x12_2).f0).toList) && (t406 == ((rd_T34 y383 x12_2).f1) && (t407 == ((rd_T34 y383 x12_2).f2) && (t408.toList == (((rd_T34 y383 x12_2).f3).toList))))) = false := by simpa using c36
             (try (have c36b1 : decide (t405.toList = (((rd_T34 y383 x12_2).f0).toList) && (t406 == ((rd_T34 y383 x12_2).f1) && (t407 == ((rd_T34 y383 x12_2).f2) && (t408.toList == (((rd_T34 y383 x12_2).f3).toList))))) = false := by simpa using c36))
             (try (have c36b2 : (t405.toList == (((rd_T34 y383 x12_2).f0).toList) && (t406 == ((rd_T34 y383 x12_2).f1) && (t407 == ((rd_T34 y383 x12_2).f2) && (t408.toList == (((rd_T34 y383 x12_2).f3).toList))))) = false := by simpa using c36))
             (try (have c36b3 : ¬ (t405.toList = (((rd_T34 y383 x12_2).f0).toList) && (t406 == ((rd_T34 y383 x12_2).f1) && (t407 == ((rd_T34 y383 x12_2).f2) && (t408.toList == (((rd_T34 y383 x12_2).f3).toList))))) := by simpa using c36))
             clear c36
             have H' := Aside0.mk H
             clear H
             have p404 : 0 ≤ (x12_2 : Int) := of_decide_eq_true (by first | (with_reducible assumption) | assumption)
             have q404 : x12_2 < (y383.length : Int) := of_decide_eq_true (by first | (with_reducible assumption) | assumption)
             obtain ⟨ad404, e404, hx404_0, hx404_1, hx404_2, hx404_3⟩ := at_T34 HR386.out x12_2 p404 q404
             cases e404
             replace hx404_0 := (HB.out.cell (World.block_lt_of_cell? w _ hx404_0)).trans hx404_0
             replace hx404_1 := (HB.out.cell (World.block_lt_of_cell? w _ hx404_1)).trans hx404_1
             replace hx404_2 := (HB.out.cell (World.block_lt_of_cell? w _ hx404_2)).trans hx404_2
             replace hx404_3 := (HB.out.cell (World.block_lt_of_cell? w _ hx404_3)).trans hx404_3
             replace p404 := eq_true p404
             replace q404 := eq_true q404
             go_wp2_with (first | (go_at_call 20; (with_reducible refine (block_Find.calls k2 _ _ y383 ((rd_T34 y383 x12_2).f0) a1 t405 t406 t407 t408 true _ ?side1 ?side2 A34.out).mono ?_); (case side1 => repeat (first | exact (Kd.C_below HR386.out HB.out) | (with_reducible refine Kd.C_alloc ?_ _) | (with_reducible refine Kd.C_drewN ?_ _) | (with_reducible refine Kd.C_drew ?_))); (case side2 => exact HC386.out); rintro e w44 ⟨rfl, hb⟩; have n0_ := Aside0.mk (Kd.R_below (by (with_reducible repeat (first | apply Kd.R_alloc | apply Kd.R_drewN | apply Kd.R_drew)); exact HO_6.out) hb); have n1_ := Aside0.mk (Yv HB hb); clear HO_6; clear HB; have HO_6 := n0_; have HB := n1_; clear n0_ n1_; (try clear hb); (try clear hb2); (try clear hk); (try clear hi)) | ((with_reducible refine gate_dst (N := 13) rfl ?_); (try (refine gate_guard (by rfl) ?_; dsimp only)); refine box_event ?hg (N := 13) ?hd (cs := #[.string (⟨#[]⟩ : ByteArray), .int .i64 0, .bool false, .string (⟨#[]⟩ : ByteArray)]) (t := 34) ?hr ?_; (case hd => rfl); (case hg => rfl); (case hr => first | (go_simp; done) | (go_simp; rfl)); intro gb410 hg w45 hbox hb; have n0_ := Aside0.mk (Kd.R_below (Kd.R_elderB (by (with_reducible repeat (first | apply Kd.R_alloc | apply Kd.R_drewN | apply Kd.R_drew)); exact HO_6.out) gb410 (Nat.le_of_eq hg.symm)) hb); have n1_ := Aside0.mk (Yv HB hb); have n2_ := Aside0.mk (hbox); have n3_ := Aside0.mk (Yg HB hg); have n4_ := Aside0.mk (Yg HB hg); clear HO_6; clear HB; have HO_6 := n0_; have HB := n1_; have BK410 := n2_; have GW410 := n3_; have GE410 := n4_; clear n0_ n1_ n2_ n3_ n4_; clear hb hbox hg; obtain ⟨⟨hcz46_0, hcz46_1, hcz46_2, hcz46_3⟩, hfz46_0, hfz46_1, hfz46_2, hfz46_3⟩ := Zk4 BK410; have p411 : 0 ≤ (x12_2 : Int) := of_decide_eq_true (by first | (with_reducible assumption) | assumption); have q411 : x12_2 < (y383.length : Int) := of_decide_eq_true (by first | (with_reducible assumption) | assumption); obtain ⟨ad411, e411, hx411_0, hx411_1, hx411_2, hx411_3⟩ := at_T34 HR386.out x12_2 p411 q411; obtain rfl : ad404 = ad411 := (by injection e411); have hn411_0 : ad404.block ≠ gb410 := Nat.ne_of_lt (Nat.lt_of_lt_of_le (by have := World.block_lt_of_cell? _ _ hx411_0; first | rwa [add_block] at this | exact this) GW410.out); have hn411_1 : ad404.block ≠ gb410 := Nat.ne_of_lt (Nat.lt_of_lt_of_le (by have := World.block_lt_of_cell? _ _ hx411_0; first | rwa [add_block] at this | exact this) GW410.out); have hn411_2 : ad404.block ≠ gb410 := Nat.ne_of_lt (Nat.lt_of_lt_of_le (by have := World.block_lt_of_cell? _ _ hx411_0; first | rwa [add_block] at this | exact this) GW410.out); have hn411_3 : ad404.block ≠ gb410 := Nat.ne_of_lt (Nat.lt_of_lt_of_le (by have := World.block_lt_of_cell? _ _ hx411_0; first | rwa [add_block] at this | exact this) GW410.out); replace hx411_0 := (HB.out.cell (World.block_lt_of_cell? w _ hx411_0)).trans hx411_0; replace hx411_1 := (HB.out.cell (World.block_lt_of_cell? w _ hx411_1)).trans hx411_1; replace hx411_2 := (HB.out.cell (World.block_lt_of_cell? w _ hx411_2)).trans hx411_2; replace hx411_3 := (HB.out.cell (World.block_lt_of_cell? w _ hx411_3)).trans hx411_3; replace hx411_0 := (cell_far (p := ⟨gb410, 0, none⟩) (by first | (rw [add_block]; exact hn411_0) | (show (Addr.add _ _).block ≠ _; rw [add_block]; exact hn411_0) | exact hn411_0) (.string t405)).trans hx411_0; replace hx411_1 := (cell_far (p := ⟨gb410, 0, none⟩) (by first | (rw [add_block]; exact hn411_0) | (show (Addr.add _ _).block ≠ _; rw [add_block]; exact hn411_0) | exact hn411_0) (.string t405)).trans hx411_1; replace hx411_2 := (cell_far (p := ⟨gb410, 0, none⟩) (by first | (rw [add_block]; exact hn411_0) | (show (Addr.add _ _).block ≠ _; rw [add_block]; exact hn411_0) | exact hn411_0) (.string t405)).trans hx411_2; replace hx411_3 := (cell_far (p := ⟨gb410, 0, none⟩) (by first | (rw [add_block]; exact hn411_0) | (show (Addr.add _ _).block ≠ _; rw [add_block]; exact hn411_0) | exact hn411_0) (.string t405)).trans hx411_3; replace hx411_0 := (cell_far (p := ⟨gb410, 1, none⟩) (by first | (rw [add_block]; exact hn411_1) | (show (Addr.add _ _).block ≠ _; rw [add_block]; exact hn411_1) | exact hn411_1) (.int .i64 t406)).trans hx411_0; replace hx411_1 := (cell_far (p := ⟨gb410, 1, none⟩) (by first | (rw [add_block]; exact hn411_1) | (show (Addr.add _ _).block ≠ _; rw [add_block]; exact hn411_1) | exact hn411_1) (.int .i64 t406)).trans hx411_1; replace hx411_2 := (cell_far (p := ⟨gb410, 1, none⟩) (by first | (rw [add_block]; exact hn411_1) | (show (Addr.add _ _).block ≠ _; rw [add_block]; exact hn411_1) | exact hn411_1) (.int .i64 t406)).trans hx411_2; replace hx411_3 := (cell_far (p := ⟨gb410, 1, none⟩) (by first | (rw [add_block]; exact hn411_1) | (show (Addr.add _ _).block ≠ _; rw [add_block]; exact hn411_1) | exact hn411_1) (.int .i64 t406)).trans hx411_3; replace hx411_0 := (cell_far (p := ⟨gb410, 2, none⟩) (by first | (rw [add_block]; exact hn411_2) | (show (Addr.add _ _).block ≠ _; rw [add_block]; exact hn411_2) | exact hn411_2) (.bool t407)).trans hx411_0; replace hx411_1 := (cell_far (p := ⟨gb410, 2, none⟩) (by first | (rw [add_block]; exact hn411_2) | (show (Addr.add _ _).block ≠ _; rw [add_block]; exact hn411_2) | exact hn411_2) (.bool t407)).trans hx411_1; replace hx411_2 := (cell_far (p := ⟨gb410, 2, none⟩) (by first | (rw [add_block]; exact hn411_2) | (show (Addr.add _ _).block ≠ _; rw [add_block]; exact hn411_2) | exact hn411_2) (.bool t407)).trans hx411_2; replace hx411_3 := (cell_far (p := ⟨gb410, 2, none⟩) (by first | (rw [add_block]; exact hn411_2) | (show (Addr.add _ _).block ≠ _; rw [add_block]; exact hn411_2) | exact hn411_2) (.bool t407)).trans hx411_3; replace hx411_0 := (cell_far (p := ⟨gb410, 3, none⟩) (by first | (rw [add_block]; exact hn411_3) | (show (Addr.add _ _).block ≠ _; rw [add_block]; exact hn411_3) | exact hn411_3) (.string t408)).trans hx411_0; replace hx411_1 := (cell_far (p := ⟨gb410, 3, none⟩) (by first | (rw [add_block]; exact hn411_3) | (show (Addr.add _ _).block ≠ _; rw [add_block]; exact hn411_3) | exact hn411_3) (.string t408)).trans hx411_1; replace hx411_2 := (cell_far (p := ⟨gb410, 3, none⟩) (by first | (rw [add_block]; exact hn411_3) | (show (Addr.add _ _).block ≠ _; rw [add_block]; exact hn411_3) | exact hn411_3) (.string t408)).trans hx411_2; replace hx411_3 := (cell_far (p := ⟨gb410, 3, none⟩) (by first | (rw [add_block]; exact hn411_3) | (show (Addr.add _ _).block ≠ _; rw [add_block]; exact hn411_3) | exact hn411_3) (.string t408)).trans hx411_3; (try have hy411_0 := fun (n_ : Nat) => (show ((((((w45.drewN n_).setCell ⟨gb410, 0, none⟩ (.string t405)).setCell ⟨gb410, 1, none⟩ (.int .i64 t406)).setCell ⟨gb410, 2, none⟩ (.bool t407)).setCell ⟨gb410, 3, none⟩ (.string t408))).cell? _ = some _ from hx411_0)); (try have hy411_1 := fun (n_ : Nat) => (show ((((((w45.drewN n_).setCell ⟨gb410, 0, none⟩ (.string t405)).setCell ⟨gb410, 1, none⟩ (.int .i64 t406)).setCell ⟨gb410, 2, none⟩ (.bool t407)).setCell ⟨gb410, 3, none⟩ (.string t408))).cell? _ = some _ from hx411_1)); (try have hy411_2 := fun (n_ : Nat) => (show ((((((w45.drewN n_).setCell ⟨gb410, 0, none⟩ (.string t405)).setCell ⟨gb410, 1, none⟩ (.int .i64 t406)).setCell ⟨gb410, 2, none⟩ (.bool t407)).setCell ⟨gb410, 3, none⟩ (.string t408))).cell? _ = some _ from hx411_2)); (try have hy411_3 := fun (n_ : Nat) => (show ((((((w45.drewN n_).setCell ⟨gb410, 0, none⟩ (.string t405)).setCell ⟨gb410, 1, none⟩ (.int .i64 t406)).setCell ⟨gb410, 2, none⟩ (.bool t407)).setCell ⟨gb410, 3, none⟩ (.string t408))).cell? _ = some _ from hx411_3)); clear hn411_0; clear hn411_1; clear hn411_2; clear hn411_3; replace p411 := eq_true p411; replace q411 := eq_true q411))
             repeat (go_quiet (first | (go_at_call 20; (with_reducible refine (block_Find.calls k2 _ _ y383 ((rd_T34 y383 x12_2).f0) a1 t405 t406 t407 t408 true _ ?side1 ?side2 A34.out).mono ?_); (case side1 => repeat (first | exact (Kd.C_below HR386.out HB.out) | (with_reducible refine Kd.C_alloc ?_ _) | (with_reducible refine Kd.C_drewN ?_ _) | (with_reducible refine Kd.C_drew ?_))); (case side2 => exact HC386.out); rintro e w44 ⟨rfl, hb⟩; have n0_ := Aside0.mk (Kd.R_below (by (with_reducible repeat (first | apply Kd.R_alloc | apply Kd.R_drewN | apply Kd.R_drew)); exact HO_6.out) hb); have n1_ := Aside0.mk (Yv HB hb); clear HO_6; clear HB; have HO_6 := n0_; have HB := n1_; clear n0_ n1_; (try clear hb); (try clear hb2); (try clear hk); (try clear hi)) | ((with_reducible refine gate_dst (N := 13) rfl ?_); (try (refine gate_guard (by rfl) ?_; dsimp only)); refine box_event ?hg (N := 13) ?hd (cs := #[.string (⟨#[]⟩ : ByteArray), .int .i64 0, .bool false, .string (⟨#[]⟩ : ByteArray)]) (t := 34) ?hr ?_; (case hd => rfl); (case hg => rfl); (case hr => first | (go_simp; done) | (go_simp; rfl)); intro gb410 hg w45 hbox hb; have n0_ := Aside0.mk (Kd.R_below (Kd.R_elderB (by (with_reducible repeat (first | apply Kd.R_alloc | apply Kd.R_drewN | apply Kd.R_drew)); exact HO_6.out) gb410 (Nat.le_of_eq hg.symm)) hb); have n1_ := Aside0.mk (Yv HB hb); have n2_ := Aside0.mk (hbox); have n3_ := Aside0.mk (Yg HB hg); have n4_ := Aside0.mk (Yg HB hg); clear HO_6; clear HB; have HO_6 := n0_; have HB := n1_; have BK410 := n2_; have GW410 := n3_; have GE410 := n4_; clear n0_ n1_ n2_ n3_ n4_; clear hb hbox hg; obtain ⟨⟨hcz46_0, hcz46_1, hcz46_2, hcz46_3⟩, hfz46_0, hfz46_1, hfz46_2, hfz46_3⟩ := Zk4 BK410; have p411 : 0 ≤ (x12_2 : Int) := of_decide_eq_true (by first | (with_reducible assumption) | assumption); have q411 : x12_2 < (y383.length : Int) := of_decide_eq_true (by first | (with_reducible assumption) | assumption); obtain ⟨ad411, e411, hx411_0, hx411_1, hx411_2, hx411_3⟩ := at_T34 HR386.out x12_2 p411 q411; obtain rfl : ad404 = ad411 := (by injection e411); have hn411_0 : ad404.block ≠ gb410 := Nat.ne_of_lt (Nat.lt_of_lt_of_le (by have := World.block_lt_of_cell? _ _ hx411_0; first | rwa [add_block] at this | exact this) GW410.out); have hn411_1 : ad404.block ≠ gb410 := Nat.ne_of_lt (Nat.lt_of_lt_of_le (by have := World.block_lt_of_cell? _ _ hx411_0; first | rwa [add_block] at this | exact this) GW410.out); have hn411_2 : ad404.block ≠ gb410 := Nat.ne_of_lt (Nat.lt_of_lt_of_le (by have := World.block_lt_of_cell? _ _ hx411_0; first | rwa [add_block] at this | exact this) GW410.out); have hn411_3 : ad404.block ≠ gb410 := Nat.ne_of_lt (Nat.lt_of_lt_of_le (by have := World.block_lt_of_cell? _ _ hx411_0; first | rwa [add_block] at this | exact this) GW410.out); replace hx411_0 := (HB.out.cell (World.block_lt_of_cell? w _ hx411_0)).trans hx411_0; replace hx411_1 := (HB.out.cell (World.block_lt_of_cell? w _ hx411_1)).trans hx411_1; replace hx411_2 := (HB.out.cell (World.block_lt_of_cell? w _ hx411_2)).trans hx411_2; replace hx411_3 := (HB.out.cell (World.block_lt_of_cell? w _ hx411_3)).trans hx411_3; replace hx411_0 := (cell_far (p := ⟨gb410, 0, none⟩) (by first | (rw [add_block]; exact hn411_0) | (show (Addr.add _ _).block ≠ _; rw [add_block]; exact hn411_0) | exact hn411_0) (.string t405)).trans hx411_0; replace hx411_1 := (cell_far (p := ⟨gb410, 0, none⟩) (by first | (rw [add_block]; exact hn411_0) | (show (Addr.add _ _).block ≠ _; rw [add_block]; exact hn411_0) | exact hn411_0) (.string t405)).trans hx411_1; replace hx411_2 := (cell_far (p := ⟨gb410, 0, none⟩) (by first | (rw [add_block]; exact hn411_0) | (show (Addr.add _ _).block ≠ _; rw [add_block]; exact hn411_0) | exact hn411_0) (.string t405)).trans hx411_2; replace hx411_3 := (cell_far (p := ⟨gb410, 0, none⟩) (by first | (rw [add_block]; exact hn411_0) | (show (Addr.add _ _).block ≠ _; rw [add_block]; exact hn411_0) | exact hn411_0) (.string t405)).trans hx411_3; replace hx411_0 := (cell_far (p := ⟨gb410, 1, none⟩) (by first | (rw [add_block]; exact hn411_1) | (show (Addr.add _ _).block ≠ _; rw [add_block]; exact hn411_1) | exact hn411_1) (.int .i64 t406)).trans hx411_0; replace hx411_1 := (cell_far (p := ⟨gb410, 1, none⟩) (by first | (rw [add_block]; exact hn411_1) | (show (Addr.add _ _).block ≠ _; rw [add_block]; exact hn411_1) | exact hn411_1) (.int .i64 t406)).trans hx411_1; replace hx411_2 := (cell_far (p := ⟨gb410, 1, none⟩) (by first | (rw [add_block]; exact hn411_1) | (show (Addr.add _ _).block ≠ _; rw [add_block]; exact hn411_1) | exact hn411_1) (.int .i64 t406)).trans hx411_2; replace hx411_3 := (cell_far (p := ⟨gb410, 1, none⟩) (by first | (rw [add_block]; exact hn411_1) | (show (Addr.add _ _).block ≠ _; rw [add_block]; exact hn411_1) | exact hn411_1) (.int .i64 t406)).trans hx411_3; replace hx411_0 := (cell_far (p := ⟨gb410, 2, none⟩) (by first | (rw [add_block]; exact hn411_2) | (show (Addr.add _ _).block ≠ _; rw [add_block]; exact hn411_2) | exact hn411_2) (.bool t407)).trans hx411_0; replace hx411_1 := (cell_far (p := ⟨gb410, 2, none⟩) (by first | (rw [add_block]; exact hn411_2) | (show (Addr.add _ _).block ≠ _; rw [add_block]; exact hn411_2) | exact hn411_2) (.bool t407)).trans hx411_1; replace hx411_2 := (cell_far (p := ⟨gb410, 2, none⟩) (by first | (rw [add_block]; exact hn411_2) | (show (Addr.add _ _).block ≠ _; rw [add_block]; exact hn411_2) | exact hn411_2) (.bool t407)).trans hx411_2; replace hx411_3 := (cell_far (p := ⟨gb410, 2, none⟩) (by first | (rw [add_block]; exact hn411_2) | (show (Addr.add _ _).block ≠ _; rw [add_block]; exact hn411_2) | exact hn411_2) (.bool t407)).trans hx411_3; replace hx411_0 := (cell_far (p := ⟨gb410, 3, none⟩) (by first | (rw [add_block]; exact hn411_3) | (show (Addr.add _ _).block ≠ _; rw [add_block]; exact hn411_3) | exact hn411_3) (.string t408)).trans hx411_0; replace hx411_1 := (cell_far (p := ⟨gb410, 3, none⟩) (by first | (rw [add_block]; exact hn411_3) | (show (Addr.add _ _).block ≠ _; rw [add_block]; exact hn411_3) | exact hn411_3) (.string t408)).trans hx411_1; replace hx411_2 := (cell_far (p := ⟨gb410, 3, none⟩) (by first | (rw [add_block]; exact hn411_3) | (show (Addr.add _ _).block ≠ _; rw [add_block]; exact hn411_3) | exact hn411_3) (.string t408)).trans hx411_2; replace hx411_3 := (cell_far (p := ⟨gb410, 3, none⟩) (by first | (rw [add_block]; exact hn411_3) | (show (Addr.add _ _).block ≠ _; rw [add_block]; exact hn411_3) | exact hn411_3) (.string t408)).trans hx411_3; (try have hy411_0 := fun (n_ : Nat) => (show ((((((w45.drewN n_).setCell ⟨gb410, 0, none⟩ (.string t405)).setCell ⟨gb410, 1, none⟩ (.int .i64 t406)).setCell ⟨gb410, 2, none⟩ (.bool t407)).setCell ⟨gb410, 3, none⟩ (.string t408))).cell? _ = some _ from hx411_0)); (try have hy411_1 := fun (n_ : Nat) => (show ((((((w45.drewN n_).setCell ⟨gb410, 0, none⟩ (.string t405)).setCell ⟨gb410, 1, none⟩ (.int .i64 t406)).setCell ⟨gb410, 2, none⟩ (.bool t407)).setCell ⟨gb410, 3, none⟩ (.string t408))).cell? _ = some _ from hx411_1)); (try have hy411_2 := fun (n_ : Nat) => (show ((((((w45.drewN n_).setCell ⟨gb410, 0, none⟩ (.string t405)).setCell ⟨gb410, 1, none⟩ (.int .i64 t406)).setCell ⟨gb410, 2, none⟩ (.bool t407)).setCell ⟨gb410, 3, none⟩ (.string t408))).cell? _ = some _ from hx411_2)); (try have hy411_3 := fun (n_ : Nat) => (show ((((((w45.drewN n_).setCell ⟨gb410, 0, none⟩ (.string t405)).setCell ⟨gb410, 1, none⟩ (.int .i64 t406)).setCell ⟨gb410, 2, none⟩ (.bool t407)).setCell ⟨gb410, 3, none⟩ (.string t408))).cell? _ = some _ from hx411_3)); clear hn411_0; clear hn411_1; clear hn411_2; clear hn411_3; replace p411 := eq_true p411; replace q411 := eq_true q411)); try go_wp2_with (first | (go_at_call 20; (with_reducible refine (block_Find.calls k2 _ _ y383 ((rd_T34 y383 x12_2).f0) a1 t405 t406 t407 t408 true _ ?side1 ?side2 A34.out).mono ?_); (case side1 => repeat (first | exact (Kd.C_below HR386.out HB.out) | (with_reducible refine Kd.C_alloc ?_ _) | (with_reducible refine Kd.C_drewN ?_ _) | (with_reducible refine Kd.C_drew ?_))); (case side2 => exact HC386.out); rintro e w44 ⟨rfl, hb⟩; have n0_ := Aside0.mk (Kd.R_below (by (with_reducible repeat (first | apply Kd.R_alloc | apply Kd.R_drewN | apply Kd.R_drew)); exact HO_6.out) hb); have n1_ := Aside0.mk (Yv HB hb); clear HO_6; clear HB; have HO_6 := n0_; have HB := n1_; clear n0_ n1_; (try clear hb); (try clear hb2); (try clear hk); (try clear hi)) | ((with_reducible refine gate_dst (N := 13) rfl ?_); (try (refine gate_guard (by rfl) ?_; dsimp only)); refine box_event ?hg (N := 13) ?hd (cs := #[.string (⟨#[]⟩ : ByteArray), .int .i64 0, .bool false, .string (⟨#[]⟩ : ByteArray)]) (t := 34) ?hr ?_; (case hd => rfl); (case hg => rfl); (case hr => first | (go_simp; done) | (go_simp; rfl)); intro gb410 hg w45 hbox hb; have n0_ := Aside0.mk (Kd.R_below (Kd.R_elderB (by (with_reducible repeat (first | apply Kd.R_alloc | apply Kd.R_drewN | apply Kd.R_drew)); exact HO_6.out) gb410 (Nat.le_of_eq hg.symm)) hb); have n1_ := Aside0.mk (Yv HB hb); have n2_ := Aside0.mk (hbox); have n3_ := Aside0.mk (Yg HB hg); have n4_ := Aside0.mk (Yg HB hg); clear HO_6; clear HB; have HO_6 := n0_; have HB := n1_; have BK410 := n2_; have GW410 := n3_; have GE410 := n4_; clear n0_ n1_ n2_ n3_ n4_; clear hb hbox hg; obtain ⟨⟨hcz46_0, hcz46_1, hcz46_2, hcz46_3⟩, hfz46_0, hfz46_1, hfz46_2, hfz46_3⟩ := Zk4 BK410; have p411 : 0 ≤ (x12_2 : Int) := of_decide_eq_true (by first | (with_reducible assumption) | assumption); have q411 : x12_2 < (y383.length : Int) := of_decide_eq_true (by first | (with_reducible assumption) | assumption); obtain ⟨ad411, e411, hx411_0, hx411_1, hx411_2, hx411_3⟩ := at_T34 HR386.out x12_2 p411 q411; obtain rfl : ad404 = ad411 := (by injection e411); have hn411_0 : ad404.block ≠ gb410 := Nat.ne_of_lt (Nat.lt_of_lt_of_le (by have := World.block_lt_of_cell? _ _ hx411_0; first | rwa [add_block] at this | exact this) GW410.out); have hn411_1 : ad404.block ≠ gb410 := Nat.ne_of_lt (Nat.lt_of_lt_of_le (by have := World.block_lt_of_cell? _ _ hx411_0; first | rwa [add_block] at this | exact this) GW410.out); have hn411_2 : ad404.block ≠ gb410 := Nat.ne_of_lt (Nat.lt_of_lt_of_le (by have := World.block_lt_of_cell? _ _ hx411_0; first | rwa [add_block] at this | exact this) GW410.out); have hn411_3 : ad404.block ≠ gb410 := Nat.ne_of_lt (Nat.lt_of_lt_of_le (by have := World.block_lt_of_cell? _ _ hx411_0; first | rwa [add_block] at this | exact this) GW410.out); replace hx411_0 := (HB.out.cell (World.block_lt_of_cell? w _ hx411_0)).trans hx411_0; replace hx411_1 := (HB.out.cell (World.block_lt_of_cell? w _ hx411_1)).trans hx411_1; replace hx411_2 := (HB.out.cell (World.block_lt_of_cell? w _ hx411_2)).trans hx411_2; replace hx411_3 := (HB.out.cell (World.block_lt_of_cell? w _ hx411_3)).trans hx411_3; replace hx411_0 := (cell_far (p := ⟨gb410, 0, none⟩) (by first | (rw [add_block]; exact hn411_0) | (show (Addr.add _ _).block ≠ _; rw [add_block]; exact hn411_0) | exact hn411_0) (.string t405)).trans hx411_0; replace hx411_1 := (cell_far (p := ⟨gb410, 0, none⟩) (by first | (rw [add_block]; exact hn411_0) | (show (Addr.add _ _).block ≠ _; rw [add_block]; exact hn411_0) | exact hn411_0) (.string t405)).trans hx411_1; replace hx411_2 := (cell_far (p := ⟨gb410, 0, none⟩) (by first | (rw [add_block]; exact hn411_0) | (show (Addr.add _ _).block ≠ _; rw [add_block]; exact hn411_0) | exact hn411_0) (.string t405)).trans hx411_2; replace hx411_3 := (cell_far (p := ⟨gb410, 0, none⟩) (by first | (rw [add_block]; exact hn411_0) | (show (Addr.add _ _).block ≠ _; rw [add_block]; exact hn411_0) | exact hn411_0) (.string t405)).trans hx411_3; replace hx411_0 := (cell_far (p := ⟨gb410, 1, none⟩) (by first | (rw [add_block]; exact hn411_1) | (show (Addr.add _ _).block ≠ _; rw [add_block]; exact hn411_1) | exact hn411_1) (.int .i64 t406)).trans hx411_0; replace hx411_1 := (cell_far (p := ⟨gb410, 1, none⟩) (by first | (rw [add_block]; exact hn411_1) | (show (Addr.add _ _).block ≠ _; rw [add_block]; exact hn411_1) | exact hn411_1) (.int .i64 t406)).trans hx411_1; replace hx411_2 := (cell_far (p := ⟨gb410, 1, none⟩) (by first | (rw [add_block]; exact hn411_1) | (show (Addr.add _ _).block ≠ _; rw [add_block]; exact hn411_1) | exact hn411_1) (.int .i64 t406)).trans hx411_2; replace hx411_3 := (cell_far (p := ⟨gb410, 1, none⟩) (by first | (rw [add_block]; exact hn411_1) | (show (Addr.add _ _).block ≠ _; rw [add_block]; exact hn411_1) | exact hn411_1) (.int .i64 t406)).trans hx411_3; replace hx411_0 := (cell_far (p := ⟨gb410, 2, none⟩) (by first | (rw [add_block]; exact hn411_2) | (show (Addr.add _ _).block ≠ _; rw [add_block]; exact hn411_2) | exact hn411_2) (.bool t407)).trans hx411_0; replace hx411_1 := (cell_far (p := ⟨gb410, 2, none⟩) (by first | (rw [add_block]; exact hn411_2) | (show (Addr.add _ _).block ≠ _; rw [add_block]; exact hn411_2) | exact hn411_2) (.bool t407)).trans hx411_1; replace hx411_2 := (cell_far (p := ⟨gb410, 2, none⟩) (by first | (rw [add_block]; exact hn411_2) | (show (Addr.add _ _).block ≠ _; rw [add_block]; exact hn411_2) | exact hn411_2) (.bool t407)).trans hx411_2; replace hx411_3 := (cell_far (p := ⟨gb410, 2, none⟩) (by first | (rw [add_block]; exact hn411_2) | (show (Addr.add _ _).block ≠ _; rw [add_block]; exact hn411_2) | exact hn411_2) (.bool t407)).trans hx411_3; replace hx411_0 := (cell_far (p := ⟨gb410, 3, none⟩) (by first | (rw [add_block]; exact hn411_3) | (show (Addr.add _ _).block ≠ _; rw [add_block]; exact hn411_3) | exact hn411_3) (.string t408)).trans hx411_0; replace hx411_1 := (cell_far (p := ⟨gb410, 3, none⟩) (by first | (rw [add_block]; exact hn411_3) | (show (Addr.add _ _).block ≠ _; rw [add_block]; exact hn411_3) | exact hn411_3) (.string t408)).trans hx411_1; replace hx411_2 := (cell_far (p := ⟨gb410, 3, none⟩) (by first | (rw [add_block]; exact hn411_3) | (show (Addr.add _ _).block ≠ _; rw [add_block]; exact hn411_3) | exact hn411_3) (.string t408)).trans hx411_2; replace hx411_3 := (cell_far (p := ⟨gb410, 3, none⟩) (by first | (rw [add_block]; exact hn411_3) | (show (Addr.add _ _).block ≠ _; rw [add_block]; exact hn411_3) | exact hn411_3) (.string t408)).trans hx411_3; (try have hy411_0 := fun (n_ : Nat) => (show ((((((w45.drewN n_).setCell ⟨gb410, 0, none⟩ (.string t405)).setCell ⟨gb410, 1, none⟩ (.int .i64 t406)).setCell ⟨gb410, 2, none⟩ (.bool t407)).setCell ⟨gb410, 3, none⟩ (.string t408))).cell? _ = some _ from hx411_0)); (try have hy411_1 := fun (n_ : Nat) => (show ((((((w45.drewN n_).setCell ⟨gb410, 0, none⟩ (.string t405)).setCell ⟨gb410, 1, none⟩ (.int .i64 t406)).setCell ⟨gb410, 2, none⟩ (.bool t407)).setCell ⟨gb410, 3, none⟩ (.string t408))).cell? _ = some _ from hx411_1)); (try have hy411_2 := fun (n_ : Nat) => (show ((((((w45.drewN n_).setCell ⟨gb410, 0, none⟩ (.string t405)).setCell ⟨gb410, 1, none⟩ (.int .i64 t406)).setCell ⟨gb410, 2, none⟩ (.bool t407)).setCell ⟨gb410, 3, none⟩ (.string t408))).cell? _ = some _ from hx411_2)); (try have hy411_3 := fun (n_ : Nat) => (show ((((((w45.drewN n_).setCell ⟨gb410, 0, none⟩ (.string t405)).setCell ⟨gb410, 1, none⟩ (.int .i64 t406)).setCell ⟨gb410, 2, none⟩ (.bool t407)).setCell ⟨gb410, 3, none⟩ (.string t408))).cell? _ = some _ from hx411_3)); clear hn411_0; clear hn411_1; clear hn411_2; clear hn411_3; replace p411 := eq_true p411; replace q411 := eq_true q411)))
             go_roundg k2
             case measure => have := HK1.out; have := HK2.out; omega
             case rel => exact ⟨(x11_2), (wrap64 (x12_2 + 1)), (by first | rfl | (simp; done) | (simp [*]; done)), (by first | rfl | (simp; done) | (simp [*]; done)), H', ⟨by have := HK1.out; have := HK2.out; omega⟩, ⟨by (with_reducible repeat (first | apply Kd.R_alloc | apply Kd.R_drewN | apply Kd.R_drew)); exact Kd.R_mono (Kd.R_far (p := ⟨gb410, 3, none⟩) (Kd.R_far (p := ⟨gb410, 2, none⟩) (Kd.R_far (p := ⟨gb410, 1, none⟩) (Kd.R_far (p := ⟨gb410, 0, none⟩) (Kd.R_mono HO_6.out (fun k_ hk => (⟨hk, hk.2⟩ : _ ∧ k_ ≠ gb410))) (fun _ hk => hk.2) (.string t405)) (fun _ hk => hk.2) (.int .i64 t406)) (fun _ hk => hk.2) (.bool t407)) (fun _ hk => hk.2) (.string t408)) (fun _ hk => trivial)⟩, ⟨Yr HB⟩⟩
           ·
            replace c35 := Bool.eq_false_iff.mpr c35
            subst c35
            have H1 : (palinodelaw15_MergeSees.l1 k2 y383 a1 t382 t387 x11_2 (wrap64 (x12_2 + 1))) = some r := by rw [if_neg (show ¬ (false = true) by decide)] at H; exact H
            clear H
            have H := H1
            clear H1
            have H' := Aside0.mk H
            clear H
            have p404 : 0 ≤ (x12_2 : Int) := of_decide_eq_true (by first | (with_reducible assumption) | assumption)
            have q404 : x12_2 < (y383.length : Int) := of_decide_eq_true (by first | (with_reducible assumption) | assumption)
            obtain ⟨ad404, e404, hx404_0, hx404_1, hx404_2, hx404_3⟩ := at_T34 HR386.out x12_2 p404 q404
            cases e404
            replace hx404_0 := (HB.out.cell (World.block_lt_of_cell? w _ hx404_0)).trans hx404_0
            replace hx404_1 := (HB.out.cell (World.block_lt_of_cell? w _ hx404_1)).trans hx404_1
            replace hx404_2 := (HB.out.cell (World.block_lt_of_cell? w _ hx404_2)).trans hx404_2
            replace hx404_3 := (HB.out.cell (World.block_lt_of_cell? w _ hx404_3)).trans hx404_3
            replace p404 := eq_true p404
            replace q404 := eq_true q404
            go_wp2_with (first | (go_at_call 20; (with_reducible refine (block_Find.calls k2 _ _ y383 ((rd_T34 y383 x12_2).f0) a1 t405 t406 t407 t408 false _ ?side1 ?side2 A34.out).mono ?_); (case side1 => repeat (first | exact (Kd.C_below HR386.out HB.out) | (with_reducible refine Kd.C_alloc ?_ _) | (with_reducible refine Kd.C_drewN ?_ _) | (with_reducible refine Kd.C_drew ?_))); (case side2 => exact HC386.out); rintro e w47 ⟨rfl, hb⟩; have n0_ := Aside0.mk (Kd.R_below (by (with_reducible repeat (first | apply Kd.R_alloc | apply Kd.R_drewN | apply Kd.R_drew)); exact HO_6.out) hb); have n1_ := Aside0.mk (Yv HB hb); clear HO_6; clear HB; have HO_6 := n0_; have HB := n1_; clear n0_ n1_; (try clear hb); (try clear hb2); (try clear hk); (try clear hi)) | ((with_reducible refine gate_dst (N := 13) rfl ?_); (try (refine gate_guard (by rfl) ?_; dsimp only)); refine box_event ?hg (N := 13) ?hd (cs := #[.string (⟨#[]⟩ : ByteArray), .int .i64 0, .bool false, .string (⟨#[]⟩ : ByteArray)]) (t := 34) ?hr ?_; (case hd => rfl); (case hg => rfl); (case hr => first | (go_simp; done) | (go_simp; rfl)); intro gb410 hg w48 hbox hb; have n0_ := Aside0.mk (Kd.R_below (Kd.R_elderB (by (with_reducible repeat (first | apply Kd.R_alloc | apply Kd.R_drewN | apply Kd.R_drew)); exact HO_6.out) gb410 (Nat.le_of_eq hg.symm)) hb); have n1_ := Aside0.mk (Yv HB hb); have n2_ := Aside0.mk (hbox); have n3_ := Aside0.mk (Yg HB hg); have n4_ := Aside0.mk (Yg HB hg); clear HO_6; clear HB; have HO_6 := n0_; have HB := n1_; have BK410 := n2_; have GW410 := n3_; have GE410 := n4_; clear n0_ n1_ n2_ n3_ n4_; clear hb hbox hg; obtain ⟨⟨hcz49_0, hcz49_1, hcz49_2, hcz49_3⟩, hfz49_0, hfz49_1, hfz49_2, hfz49_3⟩ := Zk4 BK410))
            repeat (go_quiet (first | (go_at_call 20; (with_reducible refine (block_Find.calls k2 _ _ y383 ((rd_T34 y383 x12_2).f0) a1 t405 t406 t407 t408 false _ ?side1 ?side2 A34.out).mono ?_); (case side1 => repeat (first | exact (Kd.C_below HR386.out HB.out) | (with_reducible refine Kd.C_alloc ?_ _) | (with_reducible refine Kd.C_drewN ?_ _) | (with_reducible refine Kd.C_drew ?_))); (case side2 => exact HC386.out); rintro e w47 ⟨rfl, hb⟩; have n0_ := Aside0.mk (Kd.R_below (by (with_reducible repeat (first | apply Kd.R_alloc | apply Kd.R_drewN | apply Kd.R_drew)); exact HO_6.out) hb); have n1_ := Aside0.mk (Yv HB hb); clear HO_6; clear HB; have HO_6 := n0_; have HB := n1_; clear n0_ n1_; (try clear hb); (try clear hb2); (try clear hk); (try clear hi)) | ((with_reducible refine gate_dst (N := 13) rfl ?_); (try (refine gate_guard (by rfl) ?_; dsimp only)); refine box_event ?hg (N := 13) ?hd (cs := #[.string (⟨#[]⟩ : ByteArray), .int .i64 0, .bool false, .string (⟨#[]⟩ : ByteArray)]) (t := 34) ?hr ?_; (case hd => rfl); (case hg => rfl); (case hr => first | (go_simp; done) | (go_simp; rfl)); intro gb410 hg w48 hbox hb; have n0_ := Aside0.mk (Kd.R_below (Kd.R_elderB (by (with_reducible repeat (first | apply Kd.R_alloc | apply Kd.R_drewN | apply Kd.R_drew)); exact HO_6.out) gb410 (Nat.le_of_eq hg.symm)) hb); have n1_ := Aside0.mk (Yv HB hb); have n2_ := Aside0.mk (hbox); have n3_ := Aside0.mk (Yg HB hg); have n4_ := Aside0.mk (Yg HB hg); clear HO_6; clear HB; have HO_6 := n0_; have HB := n1_; have BK410 := n2_; have GW410 := n3_; have GE410 := n4_; clear n0_ n1_ n2_ n3_ n4_; clear hb hbox hg; obtain ⟨⟨hcz49_0, hcz49_1, hcz49_2, hcz49_3⟩, hfz49_0, hfz49_1, hfz49_2, hfz49_3⟩ := Zk4 BK410)); try go_wp2_with (first | (go_at_call 20; (with_reducible refine (block_Find.calls k2 _ _ y383 ((rd_T34 y383 x12_2).f0) a1 t405 t406 t407 t408 false _ ?side1 ?side2 A34.out).mono ?_); (case side1 => repeat (first | exact (Kd.C_below HR386.out HB.out) | (with_reducible refine Kd.C_alloc ?_ _) | (with_reducible refine Kd.C_drewN ?_ _) | (with_reducible refine Kd.C_drew ?_))); (case side2 => exact HC386.out); rintro e w47 ⟨rfl, hb⟩; have n0_ := Aside0.mk (Kd.R_below (by (with_reducible repeat (first | apply Kd.R_alloc | apply Kd.R_drewN | apply Kd.R_drew)); exact HO_6.out) hb); have n1_ := Aside0.mk (Yv HB hb); clear HO_6; clear HB; have HO_6 := n0_; have HB := n1_; clear n0_ n1_; (try clear hb); (try clear hb2); (try clear hk); (try clear hi)) | ((with_reducible refine gate_dst (N := 13) rfl ?_); (try (refine gate_guard (by rfl) ?_; dsimp only)); refine box_event ?hg (N := 13) ?hd (cs := #[.string (⟨#[]⟩ : ByteArray), .int .i64 0, .bool false, .string (⟨#[]⟩ : ByteArray)]) (t := 34) ?hr ?_; (case hd => rfl); (case hg => rfl); (case hr => first | (go_simp; done) | (go_simp; rfl)); intro gb410 hg w48 hbox hb; have n0_ := Aside0.mk (Kd.R_below (Kd.R_elderB (by (with_reducible repeat (first | apply Kd.R_alloc | apply Kd.R_drewN | apply Kd.R_drew)); exact HO_6.out) gb410 (Nat.le_of_eq hg.symm)) hb); have n1_ := Aside0.mk (Yv HB hb); have n2_ := Aside0.mk (hbox); have n3_ := Aside0.mk (Yg HB hg); have n4_ := Aside0.mk (Yg HB hg); clear HO_6; clear HB; have HO_6 := n0_; have HB := n1_; have BK410 := n2_; have GW410 := n3_; have GE410 := n4_; clear n0_ n1_ n2_ n3_ n4_; clear hb hbox hg; obtain ⟨⟨hcz49_0, hcz49_1, hcz49_2, hcz49_3⟩, hfz49_0, hfz49_1, hfz49_2, hfz49_3⟩ := Zk4 BK410)))
            go_roundg k2
            case measure => have := HK1.out; have := HK2.out; omega
            case rel => exact ⟨(x11_2), (wrap64 (x12_2 + 1)), (by first | rfl | (simp; done) | (simp [*]; done)), (by first | rfl | (simp; done) | (simp [*]; done)), H', ⟨by have := HK1.out; have := HK2.out; omega⟩, ⟨by (with_reducible repeat (first | apply Kd.R_alloc | apply Kd.R_drewN | apply Kd.R_drew)); exact Kd.R_mono (Kd.R_far (p := ⟨gb410, 3, none⟩) (Kd.R_far (p := ⟨gb410, 2, none⟩) (Kd.R_far (p := ⟨gb410, 1, none⟩) (Kd.R_far (p := ⟨gb410, 0, none⟩) (Kd.R_mono HO_6.out (fun k_ hk => (⟨hk, hk.2⟩ : _ ∧ k_ ≠ gb410))) (fun _ hk => hk.2) (.string t405)) (fun _ hk => hk.2) (.int .i64 t406)) (fun _ hk => hk.2) (.bool t407)) (fun _ hk => hk.2) (.string t408)) (fun _ hk => trivial)⟩, ⟨Yr HB⟩⟩
          ·
           rw [if_neg c33] at H
           exact absurd H (by simp)
         ·
          rw [if_neg c32] at H
          have c32b0 : decide (x12_2 < (y383.length : Int)) = false := decide_eq_false c32
          clear c32
          by_cases c50 : t382 = true
          ·
           subst c50
           have H1 : (some (x11_2 == (t387.length : Int))) = some r := by rw [if_pos rfl] at H; exact H
           clear H
           have H := H1
           clear H1
           obtain rfl := Option.some.inj H
           go_wp2
           repeat (go_quiet (fail); try go_wp2)
           go_ret
           exact ⟨by first | rfl | (simp [errW_none, errW_some] <;> rfl) | (simp only [← hji4]; first | rfl | (simp [errW_none, errW_some] <;> rfl)) | (simp [*, errW_none, errW_some] <;> rfl), Yr HB⟩
          ·
           replace c50 := Bool.eq_false_iff.mpr c50
           subst c50
           have H1 : (some false) = some r := by rw [if_neg (show ¬ (false = true) by decide)] at H; exact H
           clear H
           have H := H1
           clear H1
           exact absurd ((Option.some.inj H).trans HRT_.out) (by decide)
   ·
    have H1 : (if t382 = true then (some ((t387.length : Int) == 0)) else (some false)) = some r := by rw [if_neg (show ¬ (some q391).isNone = true by simp)] at H; exact H
    clear H
    have H := H1
    clear H1
    try simp only [errW_none, errW_some]
    by_cases c51 : t382 = true
    ·
     subst c51
     have H1 : (some ((t387.length : Int) == 0)) = some r := by rw [if_pos rfl] at H; exact H
     clear H
     have H := H1
     clear H1
     obtain rfl := Option.some.inj H
     go_enter Try.func8, Try.ntmps8
     go_wp2_with (first | (go_at_call 10; (with_reducible refine (palinodelaw15_examples.calls  true _ A3.out).mono ?_); rintro e w52 ⟨rfl, hb⟩; have n0_ := Aside0.mk (Yv HB hb); clear HB; have HB := n0_; clear n0_; (try clear hb); (try clear hb2); (try clear hk); (try clear hi); have q53 : ((ji4) : Int) ≤ ((l0.length : Int) : Int) := of_decide_eq_true (by first | (with_reducible assumption) | assumption); obtain ⟨i053, hi053, _, hsz53, _⟩ := info_parts info34; have hroom53 : l0.length ≤ c0 := HC0.out; have hC53 : Kd.C k34 _ A0 l0.length l0 := HR0.out; have hcut53 := cut_to (P := Try.prog) 24 34 .i64 Try.underlying24 hi053 A0 l0.length c0 (ji4) (of_decide_eq_true (by first | (with_reducible assumption) | assumption)) q53 hroom53; have hr53 := Kd.C_take (m := ((ji4) : Int).toNat) hC53 (by omega); have hy53 : y383.length = ((ji4) : Int).toNat := (by rw [Ny383.out, List.length_take]; omega); rw [← Ny383.out] at hr53; rw [← hy53] at hcut53; have HR386 := Aside0.mk hr53; have HC386 := Aside0.mk (show y383.length ≤ c0 from by omega); clear hr53 hC53 hroom53 hi053 hsz53; have KY53 := Aside0.mk hy53; clear hy53; replace q53 := eq_true q53) | (go_at_call 17; (with_reducible refine (merge_See.calls _ _ y383 a1 t387 (some q391) _ ?side1 ?side2 A7.out).mono ?_); (case side1 => repeat (first | exact (Kd.C_below HR386.out HB.out) | (with_reducible refine Kd.C_alloc ?_ _) | (with_reducible refine Kd.C_drewN ?_ _) | (with_reducible refine Kd.C_drew ?_))); (case side2 => exact HC386.out); rintro e w54 ⟨v389, rfl, ho0, hb⟩; have n0_ := Aside0.mk (Kd.R_lower ho0 (below_size (Yr HB))); have n1_ := Aside0.mk (Yv HB hb); clear HB; have HO390 := n0_; have HB := n1_; clear n0_ n1_; (try clear hb); (try clear hb2); (try clear hk); (try clear hi); (try clear ho0); (try simp only [errW_none, errW_some]); obtain ⟨Ao55, co55, eo55⟩ := Kd.R_slice HO390.out; subst eo55))
     repeat (go_quiet (first | (go_at_call 10; (with_reducible refine (palinodelaw15_examples.calls  true _ A3.out).mono ?_); rintro e w52 ⟨rfl, hb⟩; have n0_ := Aside0.mk (Yv HB hb); clear HB; have HB := n0_; clear n0_; (try clear hb); (try clear hb2); (try clear hk); (try clear hi); have q53 : ((ji4) : Int) ≤ ((l0.length : Int) : Int) := of_decide_eq_true (by first | (with_reducible assumption) | assumption); obtain ⟨i053, hi053, _, hsz53, _⟩ := info_parts info34; have hroom53 : l0.length ≤ c0 := HC0.out; have hC53 : Kd.C k34 _ A0 l0.length l0 := HR0.out; have hcut53 := cut_to (P := Try.prog) 24 34 .i64 Try.underlying24 hi053 A0 l0.length c0 (ji4) (of_decide_eq_true (by first | (with_reducible assumption) | assumption)) q53 hroom53; have hr53 := Kd.C_take (m := ((ji4) : Int).toNat) hC53 (by omega); have hy53 : y383.length = ((ji4) : Int).toNat := (by rw [Ny383.out, List.length_take]; omega); rw [← Ny383.out] at hr53; rw [← hy53] at hcut53; have HR386 := Aside0.mk hr53; have HC386 := Aside0.mk (show y383.length ≤ c0 from by omega); clear hr53 hC53 hroom53 hi053 hsz53; have KY53 := Aside0.mk hy53; clear hy53; replace q53 := eq_true q53) | (go_at_call 17; (with_reducible refine (merge_See.calls _ _ y383 a1 t387 (some q391) _ ?side1 ?side2 A7.out).mono ?_); (case side1 => repeat (first | exact (Kd.C_below HR386.out HB.out) | (with_reducible refine Kd.C_alloc ?_ _) | (with_reducible refine Kd.C_drewN ?_ _) | (with_reducible refine Kd.C_drew ?_))); (case side2 => exact HC386.out); rintro e w54 ⟨v389, rfl, ho0, hb⟩; have n0_ := Aside0.mk (Kd.R_lower ho0 (below_size (Yr HB))); have n1_ := Aside0.mk (Yv HB hb); clear HB; have HO390 := n0_; have HB := n1_; clear n0_ n1_; (try clear hb); (try clear hb2); (try clear hk); (try clear hi); (try clear ho0); (try simp only [errW_none, errW_some]); obtain ⟨Ao55, co55, eo55⟩ := Kd.R_slice HO390.out; subst eo55)); try go_wp2_with (first | (go_at_call 10; (with_reducible refine (palinodelaw15_examples.calls  true _ A3.out).mono ?_); rintro e w52 ⟨rfl, hb⟩; have n0_ := Aside0.mk (Yv HB hb); clear HB; have HB := n0_; clear n0_; (try clear hb); (try clear hb2); (try clear hk); (try clear hi); have q53 : ((ji4) : Int) ≤ ((l0.length : Int) : Int) := of_decide_eq_true (by first | (with_reducible assumption) | assumption); obtain ⟨i053, hi053, _, hsz53, _⟩ := info_parts info34; have hroom53 : l0.length ≤ c0 := HC0.out; have hC53 : Kd.C k34 _ A0 l0.length l0 := HR0.out; have hcut53 := cut_to (P := Try.prog) 24 34 .i64 Try.underlying24 hi053 A0 l0.length c0 (ji4) (of_decide_eq_true (by first | (with_reducible assumption) | assumption)) q53 hroom53; have hr53 := Kd.C_take (m := ((ji4) : Int).toNat) hC53 (by omega); have hy53 : y383.length = ((ji4) : Int).toNat := (by rw [Ny383.out, List.length_take]; omega); rw [← Ny383.out] at hr53; rw [← hy53] at hcut53; have HR386 := Aside0.mk hr53; have HC386 := Aside0.mk (show y383.length ≤ c0 from by omega); clear hr53 hC53 hroom53 hi053 hsz53; have KY53 := Aside0.mk hy53; clear hy53; replace q53 := eq_true q53) | (go_at_call 17; (with_reducible refine (merge_See.calls _ _ y383 a1 t387 (some q391) _ ?side1 ?side2 A7.out).mono ?_); (case side1 => repeat (first | exact (Kd.C_below HR386.out HB.out) | (with_reducible refine Kd.C_alloc ?_ _) | (with_reducible refine Kd.C_drewN ?_ _) | (with_reducible refine Kd.C_drew ?_))); (case side2 => exact HC386.out); rintro e w54 ⟨v389, rfl, ho0, hb⟩; have n0_ := Aside0.mk (Kd.R_lower ho0 (below_size (Yr HB))); have n1_ := Aside0.mk (Yv HB hb); clear HB; have HO390 := n0_; have HB := n1_; clear n0_ n1_; (try clear hb); (try clear hb2); (try clear hk); (try clear hi); (try clear ho0); (try simp only [errW_none, errW_some]); obtain ⟨Ao55, co55, eo55⟩ := Kd.R_slice HO390.out; subst eo55)))
     go_ret
     exact ⟨by first | rfl | (simp [errW_none, errW_some] <;> rfl) | (simp only [← hji4]; first | rfl | (simp [errW_none, errW_some] <;> rfl)) | (simp [*, errW_none, errW_some] <;> rfl), Yr HB⟩
    ·
     replace c51 := Bool.eq_false_iff.mpr c51
     subst c51
     have H1 : (some false) = some r := by rw [if_neg (show ¬ (false = true) by decide)] at H; exact H
     clear H
     have H := H1
     clear H1
     exact absurd ((Option.some.inj H).trans HRT_.out) (by decide)
  ·
   rw [if_neg c6] at H
   exact absurd H (by simp)
 ·
  rw [if_neg c5] at H
  exact absurd H (by simp)

/-- THE ONE PURE STATEMENT of palinodelaw15_MergeSees. -/
def palinodelaw15_MergeSees.Pure : Prop := (∀ r_, palinodelaw15_examples.f = some r_ → r_ = true) ∧ ∀ (l0 : List (S34)) (a1 : Int), (l0.length ≤ maxLen ∧ l0.length * 48 ≤ 140737488351232 ∧ ∀ x_ ∈ l0, V34 x_) → (Lit.int .i64 a1).wf = true → ∃ k, palinodelaw15_MergeSees.f k l0 a1 = some true
theorem palinodelaw15_MergeSees.walk (P : palinodelaw15_MergeSees.Pure) (A0 : Option Addr) (c0 : Nat) (l0 : List (S34)) (a1 : Int) (w : World) (hr0 : Kd.C k34 w A0 l0.length l0) (hc0 : l0.length ≤ c0) (v0 : (l0.length ≤ maxLen ∧ l0.length * 48 ≤ 140737488351232 ∧ ∀ x_ ∈ l0, V34 x_)) (v1 : (Lit.int .i64 a1).wf = true) :
  Calls Try.prog 8 #[.slice A0 l0.length c0, .int .i64 a1] w fun e w' => e = .returned (.bool true) ∧ Below w.heap.size w w' := by
 obtain ⟨k, h⟩ := P.2 l0 a1 v0 v1
 refine (palinodelaw15_MergeSees.calls k A0 c0 l0 a1 true w hr0 hc0 h ⟨P.1⟩).mono ?_
 rintro e w' ⟨rfl, hd⟩
 exact ⟨rfl, hd⟩

-- NOT PRINTED: function 9 (palinodelaw15_MergeTurned)

end Go.Proofs.Yteljlfodjbgejaa.Print
