-- Printed out of the translation by a program of this session's own. Not trusted: Lean checks it.
import Derived.Test.YteljlfodjbgejaaPrint0
import Derived.Test.YteljlfodjbgejaaPrint7
import Derived.Test.YteljlfodjbgejaaPrint11
namespace Go.Proofs.Yteljlfodjbgejaa.Print
open Go.RowKit Go.Proofs.YteljlfodjbgejaaW.PrintWords Go.Proofs.YteljlfodjbgejaaW.PrintLast Go.Proofs.YteljlfodjbgejaaW.PrintMore Go.Proofs.YteljlfodjbgejaaX
attribute [local go_sem] max2_int min2_int max_two min_two max_three min_three max_four min_four   -- for this text's walks alone
set_option linter.unusedVariables false
set_option linter.unusedSimpArgs false

/-! ### palinoderef15_Fold: function 16 -/
mutual
def palinoderef15_Fold.l0 : Nat → List (S34) → List Int → Bool → List (S34) → Int → Option ((List (S34)) × Bool)
 | 0, _, _, _, _, _ => none
 | k + 1, x0, x1, x2, x9, x10 => if x10 < (x0.length : Int) then ((palinoderef15_needed.f k x0 x10 x1).bind fun t266 => (if t266 = true then (if 0 ≤ x10 then (if x9.length < 2932031007402 then (palinoderef15_Fold.j1 k x0 x1 x2 (x9 ++ [(⟨(rd_T34 x0 x10).f0, (rd_T34 x0 x10).f1, (rd_T34 x0 x10).f2, (rd_T34 x0 x10).f3⟩ : S34)]) x10) else (none)) else (none)) else (palinoderef15_Fold.j1 k x0 x1 x2 x9 x10))) else (some (x9, true))
def palinoderef15_Fold.j1 : Nat → List (S34) → List Int → Bool → List (S34) → Int → Option ((List (S34)) × Bool)
 | 0, _, _, _, _, _ => none
 | k + 1, x0, x1, x2, x9, x10 => if x10 = (wrap64 ((x0.length : Int) - 1)) then (palinoderef15_Fold.j2 k x0 x1 x2 x9 x10 true) else (if 0 ≤ (wrap64 (x10 + 1)) then (if (wrap64 (x10 + 1)) < (x0.length : Int) then (if 0 ≤ x10 then (if x10 < (x0.length : Int) then (palinoderef15_Fold.j2 k x0 x1 x2 x9 x10 (((rd_T34 x0 (wrap64 (x10 + 1))).f0).toList != ((rd_T34 x0 x10).f0).toList)) else (none)) else (none)) else (none)) else (none))
def palinoderef15_Fold.j2 : Nat → List (S34) → List Int → Bool → List (S34) → Int → Bool → Option ((List (S34)) × Bool)
 | 0, _, _, _, _, _, _ => none
 | k + 1, x0, x1, x2, x9, x10, x12 => palinoderef15_Fold.l1 k x0 x1 x2 x9 x10 x12
def palinoderef15_Fold.l1 : Nat → List (S34) → List Int → Bool → List (S34) → Int → Bool → Option ((List (S34)) × Bool)
 | 0, _, _, _, _, _, _ => none
 | k + 1, x0, x1, x2, x9, x10, x12 => if x2 = true then (if x12 = true then (if (x9.length : Int) > 0 then (if 0 ≤ (wrap64 ((x9.length : Int) - 1)) then (if (wrap64 ((x9.length : Int) - 1)) < (x9.length : Int) then (if 0 ≤ x10 then (if x10 < (x0.length : Int) then (if ((rd_T34 x9 (wrap64 ((x9.length : Int) - 1))).f0).toList = ((rd_T34 x0 x10).f0).toList then (if (rd_T34 x9 (wrap64 ((x9.length : Int) - 1))).f2 = true then (if (wrap64 ((x9.length : Int) - 1)) ≤ (x9.length : Int) then (palinoderef15_Fold.l1 k x0 x1 x2 (x9.take ((wrap64 ((x9.length : Int) - 1)) : Int).toNat) x10 x12) else (none)) else (palinoderef15_Fold.l0 k x0 x1 x2 x9 (wrap64 (x10 + 1)))) else (palinoderef15_Fold.l0 k x0 x1 x2 x9 (wrap64 (x10 + 1)))) else (none)) else (none)) else (none)) else (none)) else (palinoderef15_Fold.l0 k x0 x1 x2 x9 (wrap64 (x10 + 1)))) else (palinoderef15_Fold.l0 k x0 x1 x2 x9 (wrap64 (x10 + 1)))) else (palinoderef15_Fold.l0 k x0 x1 x2 x9 (wrap64 (x10 + 1)))
end
def palinoderef15_Fold.f (k : Nat) (l0 : List (S34)) (l1 : List Int) (a2 : Bool) : Option ((List (S34)) × Bool) := (palinoderef12_Sorted.f k l0).bind fun t265 => (if t265 = true then (palinoderef15_Fold.l0 k l0 l1 a2 ([] : List (S34)) 0) else (some (([] : List (S34)), false)))
theorem palinoderef15_Fold.mono_l : ∀ k, (∀ y0 y1 y2 y3 y4, LeO (palinoderef15_Fold.l0 k y0 y1 y2 y3 y4) (palinoderef15_Fold.l0 (k + 1) y0 y1 y2 y3 y4)) ∧ (∀ y0 y1 y2 y3 y4, LeO (palinoderef15_Fold.j1 k y0 y1 y2 y3 y4) (palinoderef15_Fold.j1 (k + 1) y0 y1 y2 y3 y4)) ∧ (∀ y0 y1 y2 y3 y4 y5, LeO (palinoderef15_Fold.j2 k y0 y1 y2 y3 y4 y5) (palinoderef15_Fold.j2 (k + 1) y0 y1 y2 y3 y4 y5)) ∧ (∀ y0 y1 y2 y3 y4 y5, LeO (palinoderef15_Fold.l1 k y0 y1 y2 y3 y4 y5) (palinoderef15_Fold.l1 (k + 1) y0 y1 y2 y3 y4 y5))
 | 0 => ⟨fun _ _ _ _ _ r h => by simp [palinoderef15_Fold.l0] at h, fun _ _ _ _ _ r h => by simp [palinoderef15_Fold.j1] at h, fun _ _ _ _ _ _ r h => by simp [palinoderef15_Fold.j2] at h, fun _ _ _ _ _ _ r h => by simp [palinoderef15_Fold.l1] at h⟩
 | k + 1 => by
  obtain ⟨ih0, ih1, ih2, ih3⟩ := palinoderef15_Fold.mono_l k
  refine ⟨?_, ?_, ?_, ?_⟩
  ·
   intro y0 y1 y2 y3 y4
   unfold palinoderef15_Fold.l0
   repeat' first
   | (with_reducible exact ih0 _ _ _ _ _)
   | (with_reducible exact ih1 _ _ _ _ _)
   | (with_reducible exact ih2 _ _ _ _ _ _)
   | (with_reducible exact ih3 _ _ _ _ _ _)
   | (with_reducible exact palinoderef12_Sorted.mono _ _)
   | (with_reducible exact palinoderef15_needed.mono _ _ _ _)
   | (with_reducible exact LeO.refl _)
   | (with_reducible exact LeO.none _)
   | (with_reducible refine LeO.ite ?_ ?_)
   | (with_reducible refine LeO.bind ?_ (fun _ => ?_))
   | exact ih0 _ _ _ _ _
   | exact ih1 _ _ _ _ _
   | exact ih2 _ _ _ _ _ _
   | exact ih3 _ _ _ _ _ _
   | exact palinoderef12_Sorted.mono _ _
   | exact palinoderef15_needed.mono _ _ _ _
   | exact LeO.none _
   | refine LeO.ite ?_ ?_
   | refine LeO.bind ?_ (fun _ => ?_)
  ·
   intro y0 y1 y2 y3 y4
   unfold palinoderef15_Fold.j1
   repeat' first
   | (with_reducible exact ih0 _ _ _ _ _)
   | (with_reducible exact ih1 _ _ _ _ _)
   | (with_reducible exact ih2 _ _ _ _ _ _)
   | (with_reducible exact ih3 _ _ _ _ _ _)
   | (with_reducible exact palinoderef12_Sorted.mono _ _)
   | (with_reducible exact palinoderef15_needed.mono _ _ _ _)
   | (with_reducible exact LeO.refl _)
   | (with_reducible exact LeO.none _)
   | (with_reducible refine LeO.ite ?_ ?_)
   | (with_reducible refine LeO.bind ?_ (fun _ => ?_))
   | exact ih0 _ _ _ _ _
   | exact ih1 _ _ _ _ _
   | exact ih2 _ _ _ _ _ _
   | exact ih3 _ _ _ _ _ _
   | exact palinoderef12_Sorted.mono _ _
   | exact palinoderef15_needed.mono _ _ _ _
   | exact LeO.none _
   | refine LeO.ite ?_ ?_
   | refine LeO.bind ?_ (fun _ => ?_)
  ·
   intro y0 y1 y2 y3 y4 y5
   unfold palinoderef15_Fold.j2
   repeat' first
   | (with_reducible exact ih0 _ _ _ _ _)
   | (with_reducible exact ih1 _ _ _ _ _)
   | (with_reducible exact ih2 _ _ _ _ _ _)
   | (with_reducible exact ih3 _ _ _ _ _ _)
   | (with_reducible exact palinoderef12_Sorted.mono _ _)
   | (with_reducible exact palinoderef15_needed.mono _ _ _ _)
   | (with_reducible exact LeO.refl _)
   | (with_reducible exact LeO.none _)
   | (with_reducible refine LeO.ite ?_ ?_)
   | (with_reducible refine LeO.bind ?_ (fun _ => ?_))
   | exact ih0 _ _ _ _ _
   | exact ih1 _ _ _ _ _
   | exact ih2 _ _ _ _ _ _
   | exact ih3 _ _ _ _ _ _
   | exact palinoderef12_Sorted.mono _ _
   | exact palinoderef15_needed.mono _ _ _ _
   | exact LeO.none _
   | refine LeO.ite ?_ ?_
   | refine LeO.bind ?_ (fun _ => ?_)
  ·
   intro y0 y1 y2 y3 y4 y5
   unfold palinoderef15_Fold.l1
   repeat' first
   | (with_reducible exact ih0 _ _ _ _ _)
   | (with_reducible exact ih1 _ _ _ _ _)
   | (with_reducible exact ih2 _ _ _ _ _ _)
   | (with_reducible exact ih3 _ _ _ _ _ _)
   | (with_reducible exact palinoderef12_Sorted.mono _ _)
   | (with_reducible exact palinoderef15_needed.mono _ _ _ _)
   | (with_reducible exact LeO.refl _)
   | (with_reducible exact LeO.none _)
   | (with_reducible refine LeO.ite ?_ ?_)
   | (with_reducible refine LeO.bind ?_ (fun _ => ?_))
   | exact ih0 _ _ _ _ _
   | exact ih1 _ _ _ _ _
   | exact ih2 _ _ _ _ _ _
   | exact ih3 _ _ _ _ _ _
   | exact palinoderef12_Sorted.mono _ _
   | exact palinoderef15_needed.mono _ _ _ _
   | exact LeO.none _
   | refine LeO.ite ?_ ?_
   | refine LeO.bind ?_ (fun _ => ?_)
theorem palinoderef15_Fold.mono : ∀ a0 a1 a2 k, LeO (palinoderef15_Fold.f k a0 a1 a2) (palinoderef15_Fold.f (k + 1) a0 a1 a2) := by
 intro a0 a1 a2 k
 obtain ⟨ih0, ih1, ih2, ih3⟩ := palinoderef15_Fold.mono_l k
 unfold palinoderef15_Fold.f
 repeat' first
   | (with_reducible exact ih0 _ _ _ _ _)
   | (with_reducible exact ih1 _ _ _ _ _)
   | (with_reducible exact ih2 _ _ _ _ _ _)
   | (with_reducible exact ih3 _ _ _ _ _ _)
   | (with_reducible exact palinoderef12_Sorted.mono _ _)
   | (with_reducible exact palinoderef15_needed.mono _ _ _ _)
   | (with_reducible exact LeO.refl _)
   | (with_reducible exact LeO.none _)
   | (with_reducible refine LeO.ite ?_ ?_)
   | (with_reducible refine LeO.bind ?_ (fun _ => ?_))
   | exact ih0 _ _ _ _ _
   | exact ih1 _ _ _ _ _
   | exact ih2 _ _ _ _ _ _
   | exact ih3 _ _ _ _ _ _
   | exact palinoderef12_Sorted.mono _ _
   | exact palinoderef15_needed.mono _ _ _ _
   | exact LeO.none _
   | refine LeO.ite ?_ ?_
   | refine LeO.bind ?_ (fun _ => ?_)
set_option maxHeartbeats 8000000 in
set_option maxRecDepth 100000 in
theorem palinoderef15_Fold.calls (k : Nat) (A0 : Option Addr) (c0 : Nat) (l0 : List (S34)) (A1 : Option Addr) (c1 : Nat) (l1 : List Int) (a2 : Bool) (r1 : List (S34)) (r2 : Bool) (w : World) (hr0 : Kd.C k34 w A0 l0.length l0) (hc0 : l0.length ≤ c0) (hr1 : Kd.C (Kd.int .i64) w A1 l1.length l1) (hc1 : l1.length ≤ c1) (h : palinoderef15_Fold.f k l0 l1 a2 = some (r1, r2)) :
  Calls Try.prog 16 #[.slice A0 l0.length c0, .slice A1 l1.length c1, .bool a2] w fun e w' => ∃ v0_ : Value, e = .returned (.tuple #[v0_, .bool r2]) ∧ Kd.R k34 34 w' w.heap.size (fun _ => True) v0_ r1 ∧ Below w.heap.size w w' := by
 have hu34 := Try.underlying34
 have HR0 := Aside0.mk hr0
 have HC0 := Aside0.mk hc0
 clear hr0 hc0
 have HR1 := Aside0.mk hr1
 have HC1 := Aside0.mk hc1
 clear hr1 hc1
 have HB := Aside0.mk (Below.refl w.heap.size w)
 have H : ((palinoderef12_Sorted.f k l0).bind fun t265 => (if t265 = true then (palinoderef15_Fold.l0 k l0 l1 a2 ([] : List (S34)) 0) else (some (([] : List (S34)), false)))) = some (r1, r2) := h
 clear h
 replace H := Option.bind_eq_some_iff.mp H
 obtain ⟨t265, A40, H⟩ := H
 replace H : (if t265 = true then (palinoderef15_Fold.l0 k l0 l1 a2 ([] : List (S34)) 0) else (some (([] : List (S34)), false))) = some (r1, r2) := H
 have A4 := Aside0.mk A40
 clear A40
 by_cases c5 : t265 = true
 ·
  subst c5
  have H1 : (palinoderef15_Fold.l0 k l0 l1 a2 ([] : List (S34)) 0) = some (r1, r2) := by rw [if_pos rfl] at H; exact H
  clear H
  have H := H1
  clear H1
  have H' := Aside0.mk H
  clear H
  go_enter Try.func16, Try.ntmps16
  go_wp2_with (first | (go_at_call 21; (with_reducible refine (palinoderef12_Sorted.calls k _ _ l0 true _ ?side1 ?side2 A4.out).mono ?_); (case side1 => repeat (first | exact HR0.out | (with_reducible refine Kd.C_alloc ?_ _) | (with_reducible refine Kd.C_drewN ?_ _) | (with_reducible refine Kd.C_drew ?_))); (case side2 => exact HC0.out); rintro e w6 ⟨rfl, hb⟩; have n0_ := Aside0.mk (Yv HB hb); clear HB; have HB := n0_; clear n0_; (try clear hb); (try clear hb2); (try clear hk); (try clear hi)))
  repeat (go_quiet (first | (go_at_call 21; (with_reducible refine (palinoderef12_Sorted.calls k _ _ l0 true _ ?side1 ?side2 A4.out).mono ?_); (case side1 => repeat (first | exact HR0.out | (with_reducible refine Kd.C_alloc ?_ _) | (with_reducible refine Kd.C_drewN ?_ _) | (with_reducible refine Kd.C_drew ?_))); (case side2 => exact HC0.out); rintro e w6 ⟨rfl, hb⟩; have n0_ := Aside0.mk (Yv HB hb); clear HB; have HB := n0_; clear n0_; (try clear hb); (try clear hb2); (try clear hk); (try clear hi))); try go_wp2_with (first | (go_at_call 21; (with_reducible refine (palinoderef12_Sorted.calls k _ _ l0 true _ ?side1 ?side2 A4.out).mono ?_); (case side1 => repeat (first | exact HR0.out | (with_reducible refine Kd.C_alloc ?_ _) | (with_reducible refine Kd.C_drewN ?_ _) | (with_reducible refine Kd.C_drew ?_))); (case side2 => exact HC0.out); rintro e w6 ⟨rfl, hb⟩; have n0_ := Aside0.mk (Yv HB hb); clear HB; have HB := n0_; clear n0_; (try clear hb); (try clear hb2); (try clear hk); (try clear hi))))
  go_loopg [9, 10] k (fun kq v9 v10 w' => ∃ (x9_1 : List (S34)) (x10_1 : Int), v10 = .int .i64 x10_1 ∧ Aside0 (palinoderef15_Fold.l0 kq l0 l1 a2 x9_1 x10_1 = some (r1, r2)) ∧ Aside0 (kq ≤ k) ∧ Aside0 (Kd.R k34 34 w' w.heap.size (fun _ => True) v9 x9_1) ∧ Aside0 (Below w.heap.size w w'))
  case atStart => exact ⟨(([] : List (S34))), (0), (by first | rfl | (simp; done) | (simp [*]; done)), H', ⟨Nat.le_refl _⟩, ⟨by first | exact Kd.R_nil _ _ _ _ _ | exact Kd.N_nil _ _ _ _ _ | exact Kd.V_nil _ _ _ _ _ | exact Kd.Q_nil _ _ _ _ _ | exact Kd.S_nil _ _ _ _ _⟩, ⟨Yr HB⟩⟩
  case round =>
   clear H'
   try clear c1
   try clear p2
   try clear c5
   obtain ⟨x9_1, x10_1, rfl, HA, HK1, HO_9, HB⟩ := hrel
   cases gk with
   | zero => exact absurd HA.out (by simp [palinoderef15_Fold.l0])
   | succ k1 =>
    have H := HA.out
    clear HA
    simp only [palinoderef15_Fold.l0] at H
    by_cases c7 : x10_1 < (l0.length : Int)
    ·
     rw [if_pos c7] at H
     have c7b0 : decide (x10_1 < (l0.length : Int)) = true := decide_eq_true c7
     clear c7
     replace H := Option.bind_eq_some_iff.mp H
     obtain ⟨t266, A80, H⟩ := H
     replace H : (if t266 = true then (if 0 ≤ x10_1 then (if x9_1.length < 2932031007402 then (palinoderef15_Fold.j1 k1 l0 l1 a2 (x9_1 ++ [(⟨(rd_T34 l0 x10_1).f0, (rd_T34 l0 x10_1).f1, (rd_T34 l0 x10_1).f2, (rd_T34 l0 x10_1).f3⟩ : S34)]) x10_1) else (none)) else (none)) else (palinoderef15_Fold.j1 k1 l0 l1 a2 x9_1 x10_1)) = some (r1, r2) := H
     have A8 := Aside0.mk A80
     clear A80
     have HC9 := Aside0.mk H
     clear H
     go_upto_if 27 with (first | (go_at_call 29; (with_reducible refine (palinoderef15_needed.calls k1 _ _ l0 x10_1 _ _ l1 t266 _ ?side1 ?side2 ?side3 ?side4 A8.out).mono ?_); (case side1 => repeat (first | exact (Kd.C_below HR0.out HB.out) | (with_reducible refine Kd.C_alloc ?_ _) | (with_reducible refine Kd.C_drewN ?_ _) | (with_reducible refine Kd.C_drew ?_))); (case side2 => exact HC0.out); (case side3 => repeat (first | exact (Kd.C_below HR1.out HB.out) | (with_reducible refine Kd.C_alloc ?_ _) | (with_reducible refine Kd.C_drewN ?_ _) | (with_reducible refine Kd.C_drew ?_))); (case side4 => exact HC1.out); rintro e w' ⟨rfl, ⟨nd, rfl⟩⟩; (try first | exact ⟨rfl, _, World.drewN_drewN _ _ _⟩ | exact ⟨rfl, _, Eq.trans (World.drewN_drewN _ _ _) (congrArg (World.drewN _) (Nat.add_assoc _ _ _))⟩)))
     repeat (go_quiet (first | (go_at_call 29; (with_reducible refine (palinoderef15_needed.calls k1 _ _ l0 x10_1 _ _ l1 t266 _ ?side1 ?side2 ?side3 ?side4 A8.out).mono ?_); (case side1 => repeat (first | exact (Kd.C_below HR0.out HB.out) | (with_reducible refine Kd.C_alloc ?_ _) | (with_reducible refine Kd.C_drewN ?_ _) | (with_reducible refine Kd.C_drew ?_))); (case side2 => exact HC0.out); (case side3 => repeat (first | exact (Kd.C_below HR1.out HB.out) | (with_reducible refine Kd.C_alloc ?_ _) | (with_reducible refine Kd.C_drewN ?_ _) | (with_reducible refine Kd.C_drew ?_))); (case side4 => exact HC1.out); rintro e w' ⟨rfl, ⟨nd, rfl⟩⟩; (try first | exact ⟨rfl, _, World.drewN_drewN _ _ _⟩ | exact ⟨rfl, _, Eq.trans (World.drewN_drewN _ _ _) (congrArg (World.drewN _) (Nat.add_assoc _ _ _))⟩))); go_upto_if 27 with (first | (go_at_call 29; (with_reducible refine (palinoderef15_needed.calls k1 _ _ l0 x10_1 _ _ l1 t266 _ ?side1 ?side2 ?side3 ?side4 A8.out).mono ?_); (case side1 => repeat (first | exact (Kd.C_below HR0.out HB.out) | (with_reducible refine Kd.C_alloc ?_ _) | (with_reducible refine Kd.C_drewN ?_ _) | (with_reducible refine Kd.C_drew ?_))); (case side2 => exact HC0.out); (case side3 => repeat (first | exact (Kd.C_below HR1.out HB.out) | (with_reducible refine Kd.C_alloc ?_ _) | (with_reducible refine Kd.C_drewN ?_ _) | (with_reducible refine Kd.C_drew ?_))); (case side4 => exact HC1.out); rintro e w' ⟨rfl, ⟨nd, rfl⟩⟩; (try first | exact ⟨rfl, _, World.drewN_drewN _ _ _⟩ | exact ⟨rfl, _, Eq.trans (World.drewN_drewN _ _ _) (congrArg (World.drewN _) (Nat.add_assoc _ _ _))⟩))))
     (try simp only [Act.put, List.setIfInBounds_toArray, List.set_cons_zero, List.set_cons_succ])
     go_cut [9] (fun v9 wc => ∃ (kq : Nat) (x9_8 : List (S34)), Aside0 (palinoderef15_Fold.j1 kq l0 l1 a2 x9_8 x10_1 = some (r1, r2)) ∧ Aside0 (kq ≤ k1) ∧ Aside0 (Kd.R k34 34 wc w.heap.size (fun _ => True) v9 x9_8) ∧ Aside0 (Below w.heap.size w wc))
     case first =>
      have H := HC9.out
      clear HC9
      by_cases c10 : t266 = true
      ·
       subst c10
       have H1 : (if 0 ≤ x10_1 then (if x9_1.length < 2932031007402 then (palinoderef15_Fold.j1 k1 l0 l1 a2 (x9_1 ++ [(⟨(rd_T34 l0 x10_1).f0, (rd_T34 l0 x10_1).f1, (rd_T34 l0 x10_1).f2, (rd_T34 l0 x10_1).f3⟩ : S34)]) x10_1) else (none)) else (none)) = some (r1, r2) := by rw [if_pos rfl] at H; exact H
       clear H
       have H := H1
       clear H1
       by_cases c11 : 0 ≤ x10_1
       ·
        rw [if_pos c11] at H
        have c11b0 : decide (0 ≤ x10_1) = true := decide_eq_true c11
        clear c11
        (first | rw [c11b0] | (simp only [i64_w, i32_w]; rw [c11b0]) | skip)
        by_cases c12 : x9_1.length < 2932031007402
        ·
         rw [if_pos c12] at H
         have LMc12 := Aside0.mk c12
         clear c12
         obtain ⟨y268, hy268⟩ : ∃ y_ : List (S34), y_ = (x9_1 ++ [(⟨(rd_T34 l0 x10_1).f0, (rd_T34 l0 x10_1).f1, (rd_T34 l0 x10_1).f2, (rd_T34 l0 x10_1).f3⟩ : S34)]) := ⟨_, rfl⟩
         replace H : (palinoderef15_Fold.j1 k1 l0 l1 a2 y268 x10_1) = some (r1, r2) := by first | (rw [hy268]; with_reducible exact H) | (have H2_ := (Option.bind_some _ _).symm.trans H; rw [hy268]; with_reducible exact H2_) | (have H2_ := (Option.bind_some _ _).symm.trans H; with_reducible exact H2_) | with_reducible exact H | (rw [hy268]; exact H) | exact H
         have Ny268 := Aside0.mk hy268
         clear hy268
         have H' := Aside0.mk H
         clear H
         have p267 : 0 ≤ (x10_1 : Int) := of_decide_eq_true (by first | (with_reducible assumption) | assumption)
         have q267 : x10_1 < (l0.length : Int) := of_decide_eq_true (by first | (with_reducible assumption) | assumption)
         obtain ⟨ad267, e267, hx267_0, hx267_1, hx267_2, hx267_3⟩ := at_T34 HR0.out x10_1 p267 q267
         cases e267
         replace hx267_0 := (HB.out.cell (World.block_lt_of_cell? w _ hx267_0)).trans hx267_0
         replace hx267_1 := (HB.out.cell (World.block_lt_of_cell? w _ hx267_1)).trans hx267_1
         replace hx267_2 := (HB.out.cell (World.block_lt_of_cell? w _ hx267_2)).trans hx267_2
         replace hx267_3 := (HB.out.cell (World.block_lt_of_cell? w _ hx267_3)).trans hx267_3
         replace p267 := eq_true p267
         replace q267 := eq_true q267
         go_wp2_with (first | ((with_reducible refine gate_builtin (b := .append) (xs := #[.tmp 28, .tmp 33]) rfl ?_); (try (refine gate_guard (by rfl) ?_; dsimp only)); at_builtin; refine Kd.R_append k34 (w0 := w) w.heap.size rfl (.tmp 28) (.tmp 33) 24 34 (.agg #[(.string ⟨#[]⟩), (.int .i64 0), (.bool false), (.string ⟨#[]⟩)]) 48 rfl Try.underlying24 info34 rfl (by decide) (by omega) u9 x9_1 (⟨(rd_T34 l0 x10_1).f0, (rd_T34 l0 x10_1).f1, (rd_T34 l0 x10_1).f2, (rd_T34 l0 x10_1).f3⟩ : S34) [.string ((rd_T34 l0 x10_1).f0), .int .i64 ((rd_T34 l0 x10_1).f1), .bool ((rd_T34 l0 x10_1).f2), .string ((rd_T34 l0 x10_1).f3)] (fun _ => True) (fun _ => False) rfl rfl ?aP (fun _ hk => hk.elim) ?aF ?aO ?aB ?aS ?aL ?_; (case aP => exact k34_mkM _ _ _ (⟨(rd_T34 l0 x10_1).f0, (rd_T34 l0 x10_1).f1, (rd_T34 l0 x10_1).f2, (rd_T34 l0 x10_1).f3⟩ : S34)); (case aB => exact (Yr HB)); (case aF => exact (fun _ _ => trivial)); (case aO => exact (by (with_reducible repeat (first | apply Kd.R_alloc | apply Kd.R_drewN | apply Kd.R_drew)); exact HO_9.out)); (case aS => exact (below_size (Yr HB))); (case aL => have := LMc12.out; omega); intro v269 w13 ho hb hg hat; rw [← Ny268.out] at ho; have n0_ := Aside0.mk (hb); have n1_ := Aside0.mk (ho); clear HB; clear HO_9; have HB := n0_; have HO270 := n1_; clear n0_ n1_; clear ho hb hg hat))
         repeat (go_quiet (first | ((with_reducible refine gate_builtin (b := .append) (xs := #[.tmp 28, .tmp 33]) rfl ?_); (try (refine gate_guard (by rfl) ?_; dsimp only)); at_builtin; refine Kd.R_append k34 (w0 := w) w.heap.size rfl (.tmp 28) (.tmp 33) 24 34 (.agg #[(.string ⟨#[]⟩), (.int .i64 0), (.bool false), (.string ⟨#[]⟩)]) 48 rfl Try.underlying24 info34 rfl (by decide) (by omega) u9 x9_1 (⟨(rd_T34 l0 x10_1).f0, (rd_T34 l0 x10_1).f1, (rd_T34 l0 x10_1).f2, (rd_T34 l0 x10_1).f3⟩ : S34) [.string ((rd_T34 l0 x10_1).f0), .int .i64 ((rd_T34 l0 x10_1).f1), .bool ((rd_T34 l0 x10_1).f2), .string ((rd_T34 l0 x10_1).f3)] (fun _ => True) (fun _ => False) rfl rfl ?aP (fun _ hk => hk.elim) ?aF ?aO ?aB ?aS ?aL ?_; (case aP => exact k34_mkM _ _ _ (⟨(rd_T34 l0 x10_1).f0, (rd_T34 l0 x10_1).f1, (rd_T34 l0 x10_1).f2, (rd_T34 l0 x10_1).f3⟩ : S34)); (case aB => exact (Yr HB)); (case aF => exact (fun _ _ => trivial)); (case aO => exact (by (with_reducible repeat (first | apply Kd.R_alloc | apply Kd.R_drewN | apply Kd.R_drew)); exact HO_9.out)); (case aS => exact (below_size (Yr HB))); (case aL => have := LMc12.out; omega); intro v269 w13 ho hb hg hat; rw [← Ny268.out] at ho; have n0_ := Aside0.mk (hb); have n1_ := Aside0.mk (ho); clear HB; clear HO_9; have HB := n0_; have HO270 := n1_; clear n0_ n1_; clear ho hb hg hat)); try go_wp2_with (first | ((with_reducible refine gate_builtin (b := .append) (xs := #[.tmp 28, .tmp 33]) rfl ?_); (try (refine gate_guard (by rfl) ?_; dsimp only)); at_builtin; refine Kd.R_append k34 (w0 := w) w.heap.size rfl (.tmp 28) (.tmp 33) 24 34 (.agg #[(.string ⟨#[]⟩), (.int .i64 0), (.bool false), (.string ⟨#[]⟩)]) 48 rfl Try.underlying24 info34 rfl (by decide) (by omega) u9 x9_1 (⟨(rd_T34 l0 x10_1).f0, (rd_T34 l0 x10_1).f1, (rd_T34 l0 x10_1).f2, (rd_T34 l0 x10_1).f3⟩ : S34) [.string ((rd_T34 l0 x10_1).f0), .int .i64 ((rd_T34 l0 x10_1).f1), .bool ((rd_T34 l0 x10_1).f2), .string ((rd_T34 l0 x10_1).f3)] (fun _ => True) (fun _ => False) rfl rfl ?aP (fun _ hk => hk.elim) ?aF ?aO ?aB ?aS ?aL ?_; (case aP => exact k34_mkM _ _ _ (⟨(rd_T34 l0 x10_1).f0, (rd_T34 l0 x10_1).f1, (rd_T34 l0 x10_1).f2, (rd_T34 l0 x10_1).f3⟩ : S34)); (case aB => exact (Yr HB)); (case aF => exact (fun _ _ => trivial)); (case aO => exact (by (with_reducible repeat (first | apply Kd.R_alloc | apply Kd.R_drewN | apply Kd.R_drew)); exact HO_9.out)); (case aS => exact (below_size (Yr HB))); (case aL => have := LMc12.out; omega); intro v269 w13 ho hb hg hat; rw [← Ny268.out] at ho; have n0_ := Aside0.mk (hb); have n1_ := Aside0.mk (ho); clear HB; clear HO_9; have HB := n0_; have HO270 := n1_; clear n0_ n1_; clear ho hb hg hat)))
         go_meet
         case rel => exact ⟨_, (y268), H', ⟨by have := HK1.out; first | omega | exact Nat.le_refl _⟩, ⟨by (with_reducible repeat (first | apply Kd.R_alloc | apply Kd.R_drewN | apply Kd.R_drew)); exact HO270.out⟩, ⟨Yr HB⟩⟩
        ·
         rw [if_neg c12] at H
         exact absurd H (by simp)
       ·
        rw [if_neg c11] at H
        exact absurd H (by simp)
      ·
       replace c10 := Bool.eq_false_iff.mpr c10
       subst c10
       have H1 : (palinoderef15_Fold.j1 k1 l0 l1 a2 x9_1 x10_1) = some (r1, r2) := by rw [if_neg (show ¬ (false = true) by decide)] at H; exact H
       clear H
       have H := H1
       clear H1
       have H' := Aside0.mk H
       clear H
       go_wp2
       repeat (go_quiet (fail); try go_wp2)
       go_meet
       case rel => exact ⟨_, (x9_1), H', ⟨by have := HK1.out; first | omega | exact Nat.le_refl _⟩, ⟨by (with_reducible repeat (first | apply Kd.R_alloc | apply Kd.R_drewN | apply Kd.R_drew)); exact HO_9.out⟩, ⟨Yr HB⟩⟩
     case rest =>
      clear HC9
      try clear c1
      try clear p2
      try clear q2
      try clear hx2
      try clear c5
      try clear c7
      try clear c7b0
      try clear c10
      try clear c11
      try clear c11b0
      try clear c12
      try clear hx267_0
      try clear hx267_1
      try clear hx267_2
      try clear hx267_3
      try clear p2
      try clear p267
      try clear q267
      obtain ⟨kq, x9_8, HA, HJ8, HO_9, HB⟩ := hcut
      cases kq with
      | zero => exact absurd HA.out (by simp [palinoderef15_Fold.j1])
      | succ kj8 =>
       have H := HA.out
       clear HA
       simp only [palinoderef15_Fold.j1] at H
       have HC14 := Aside0.mk H
       clear H
       go_upto_region 11 with (fail)
       repeat (go_quiet (fail); go_upto_region 11 with (fail))
       go_cut [12] (fun v12 wc => ∃ (kq : Nat) (x12_13 : Bool), v12 = .bool x12_13 ∧ Aside0 (palinoderef15_Fold.j2 kq l0 l1 a2 x9_8 x10_1 x12_13 = some (r1, r2)) ∧ Aside0 (kq ≤ kj8) ∧ Aside0 (Kd.R k34 34 wc w.heap.size (fun _ => True) u9 x9_8) ∧ Aside0 (Below w.heap.size w wc))
       case first =>
        have H := HC14.out
        clear HC14
        by_cases c15 : x10_1 = (wrap64 ((l0.length : Int) - 1))
        ·
         rw [if_pos c15] at H
         have c15b0 : (x10_1 == (wrap64 ((l0.length : Int) - 1))) = true := beq_iff_eq.mpr c15
         have c15b1 : (x10_1 != (wrap64 ((l0.length : Int) - 1))) = false := bne_eq_false_iff_eq.mpr c15
         clear c15
         (first | rw [c15b0] | (simp only [i64_w, i32_w]; rw [c15b0]) | skip)
         have H' := Aside0.mk H
         clear H
         go_wp2
         repeat (go_quiet (fail); try go_wp2)
         go_meet
         case rel => exact ⟨_, (true), (by first | rfl | (simp; done) | (simp [*]; done)), H', ⟨by have := HK1.out; have := HJ8.out; first | omega | exact Nat.le_refl _⟩, ⟨by (with_reducible repeat (first | apply Kd.R_alloc | apply Kd.R_drewN | apply Kd.R_drew)); exact HO_9.out⟩, ⟨Yr HB⟩⟩
        ·
         rw [if_neg c15] at H
         have c15b0 : (x10_1 == (wrap64 ((l0.length : Int) - 1))) = false := beq_eq_false_iff_ne.mpr c15
         have c15b1 : (x10_1 != (wrap64 ((l0.length : Int) - 1))) = true := bne_iff_ne.mpr c15
         (first | rw [c15b0] | (simp only [i64_w, i32_w]; rw [c15b0]) | skip)
         obtain ⟨ji16, hji16⟩ : ∃ j_ : Int, (wrap64 (x10_1 + 1)) = j_ := ⟨_, rfl⟩
         replace H : (if 0 ≤ (ji16) then (if (ji16) < (l0.length : Int) then (if 0 ≤ x10_1 then (if x10_1 < (l0.length : Int) then (palinoderef15_Fold.j2 kj8 l0 l1 a2 x9_8 x10_1 (((rd_T34 l0 (ji16)).f0).toList != ((rd_T34 l0 x10_1).f0).toList)) else (none)) else (none)) else (none)) else (none)) = some (r1, r2) := by first | (rw [hji16] at H; exact H) | (simp only [hji16] at H ⊢; exact H)
         have hji16w : (IntKind.i64.wrap (x10_1 + 1)) = ji16 := (i64_w _).trans hji16
         by_cases c17 : 0 ≤ (ji16)
         ·
          rw [if_pos c17] at H
          have c17b0 : decide (0 ≤ (ji16)) = true := decide_eq_true c17
          clear c17
          by_cases c18 : (ji16) < (l0.length : Int)
          ·
           rw [if_pos c18] at H
           have c18b0 : decide ((ji16) < (l0.length : Int)) = true := decide_eq_true c18
           clear c18
           by_cases c19 : 0 ≤ x10_1
           ·
            rw [if_pos c19] at H
            have c19b0 : decide (0 ≤ x10_1) = true := decide_eq_true c19
            clear c19
            by_cases c20 : x10_1 < (l0.length : Int)
            ·
             rw [if_pos c20] at H
             have c20b0 : decide (x10_1 < (l0.length : Int)) = true := decide_eq_true c20
             clear c20
             have H' := Aside0.mk H
             clear H
             have p271 : 0 ≤ ((ji16) : Int) := of_decide_eq_true (by first | (with_reducible assumption) | assumption)
             have q271 : (ji16) < (l0.length : Int) := of_decide_eq_true (by first | (with_reducible assumption) | assumption)
             obtain ⟨ad271, e271, hx271_0, hx271_1, hx271_2, hx271_3⟩ := at_T34 HR0.out (ji16) p271 q271
             cases e271
             replace hx271_0 := (HB.out.cell (World.block_lt_of_cell? w _ hx271_0)).trans hx271_0
             replace hx271_1 := (HB.out.cell (World.block_lt_of_cell? w _ hx271_1)).trans hx271_1
             replace hx271_2 := (HB.out.cell (World.block_lt_of_cell? w _ hx271_2)).trans hx271_2
             replace hx271_3 := (HB.out.cell (World.block_lt_of_cell? w _ hx271_3)).trans hx271_3
             replace p271 := eq_true p271
             replace q271 := eq_true q271
             have p272 : 0 ≤ (x10_1 : Int) := of_decide_eq_true (by first | (with_reducible assumption) | assumption)
             have q272 : x10_1 < (l0.length : Int) := of_decide_eq_true (by first | (with_reducible assumption) | assumption)
             obtain ⟨ad272, e272, hx272_0, hx272_1, hx272_2, hx272_3⟩ := at_T34 HR0.out x10_1 p272 q272
             obtain rfl : ad271 = ad272 := (by injection e272)
             replace hx272_0 := (HB.out.cell (World.block_lt_of_cell? w _ hx272_0)).trans hx272_0
             replace hx272_1 := (HB.out.cell (World.block_lt_of_cell? w _ hx272_1)).trans hx272_1
             replace hx272_2 := (HB.out.cell (World.block_lt_of_cell? w _ hx272_2)).trans hx272_2
             replace hx272_3 := (HB.out.cell (World.block_lt_of_cell? w _ hx272_3)).trans hx272_3
             replace p272 := eq_true p272
             replace q272 := eq_true q272
             go_wp2
             repeat (go_quiet (fail); try go_wp2)
             go_meet
             case rel => exact ⟨_, ((((rd_T34 l0 (ji16)).f0).toList != ((rd_T34 l0 x10_1).f0).toList)), (by first | rfl | (simp; done) | (simp only [← hji16] <;> (first | rfl | simp)) | (simp [*]; done)), H', ⟨by have := HK1.out; have := HJ8.out; first | omega | exact Nat.le_refl _⟩, ⟨by (with_reducible repeat (first | apply Kd.R_alloc | apply Kd.R_drewN | apply Kd.R_drew)); exact HO_9.out⟩, ⟨Yr HB⟩⟩
            ·
             rw [if_neg c20] at H
             exact absurd H (by simp)
           ·
            rw [if_neg c19] at H
            exact absurd H (by simp)
          ·
           rw [if_neg c18] at H
           exact absurd H (by simp)
         ·
          rw [if_neg c17] at H
          exact absurd H (by simp)
       case rest =>
        clear HC14
        try clear c1
        try clear c2
        try clear p2
        try clear q2
        try clear hx2
        try clear c5
        try clear p6
        try clear c7
        try clear c7b0
        try clear c10
        try clear c11
        try clear c11b0
        try clear c12
        try clear c15
        try clear c15b0
        try clear c15b1
        try clear c16
        try clear c17
        try clear c17b0
        try clear c18
        try clear c18b0
        try clear c19
        try clear c19b0
        try clear c20
        try clear c20b0
        try clear hx267_0
        try clear hx267_1
        try clear hx267_2
        try clear hx267_3
        try clear hx271_0
        try clear hx271_1
        try clear hx271_2
        try clear hx271_3
        try clear hx272_0
        try clear hx272_1
        try clear hx272_2
        try clear hx272_3
        try clear p2
        try clear p267
        try clear p271
        try clear p272
        try clear q2
        try clear q267
        try clear q271
        try clear q272
        obtain ⟨kq, x12_13, rfl, HA, HJ13, HO_9, HB⟩ := hcut
        cases kq with
        | zero => exact absurd HA.out (by simp [palinoderef15_Fold.j2])
        | succ kj13 =>
         have H := HA.out
         clear HA
         simp only [palinoderef15_Fold.j2] at H
         have H' := Aside0.mk H
         clear H
         go_wp2
         repeat (go_quiet (fail); try go_wp2)
         go_loopg [9] kj13 (fun kq v9 w' => ∃ (x9_4 : List (S34)), Aside0 (palinoderef15_Fold.l1 kq l0 l1 a2 x9_4 x10_1 x12_13 = some (r1, r2)) ∧ Aside0 (kq ≤ kj13) ∧ Aside0 (Kd.R k34 34 w' w.heap.size (fun _ => True) v9 x9_4) ∧ Aside0 (Below w.heap.size w w'))
         case atStart => exact ⟨(x9_8), H', ⟨Nat.le_refl _⟩, ⟨by (with_reducible repeat (first | apply Kd.R_alloc | apply Kd.R_drewN | apply Kd.R_drew)); exact HO_9.out⟩, ⟨Yr HB⟩⟩
         case round =>
          clear H'
          try clear c1
          try clear c2
          try clear p2
          try clear q2
          try clear hx2
          try clear c5
          try clear p6
          try clear c7
          try clear c7b0
          try clear c10
          try clear c11
          try clear c11b0
          try clear c12
          try clear c15
          try clear c15b0
          try clear c15b1
          try clear c16
          try clear c17
          try clear c17b0
          try clear c18
          try clear c18b0
          try clear c19
          try clear c19b0
          try clear c20
          try clear c20b0
          try clear hx267_0
          try clear hx267_1
          try clear hx267_2
          try clear hx267_3
          try clear hx271_0
          try clear hx271_1
          try clear hx271_2
          try clear hx271_3
          try clear hx272_0
          try clear hx272_1
          try clear hx272_2
          try clear hx272_3
          try clear p2
          try clear p267
          try clear p271
          try clear p272
          try clear p6
          try clear q2
          try clear q267
          try clear q271
          try clear q272
          obtain ⟨x9_4, HA, HK4, HO_9, HB⟩ := hrel
          cases gk with
          | zero => exact absurd HA.out (by simp [palinoderef15_Fold.l1])
          | succ k4 =>
           have H := HA.out
           clear HA
           simp only [palinoderef15_Fold.l1] at H
           by_cases c21 : a2 = true
           ·
            subst c21
            have H1 : (if x12_13 = true then (if (x9_4.length : Int) > 0 then (if 0 ≤ (wrap64 ((x9_4.length : Int) - 1)) then (if (wrap64 ((x9_4.length : Int) - 1)) < (x9_4.length : Int) then (if 0 ≤ x10_1 then (if x10_1 < (l0.length : Int) then (if ((rd_T34 x9_4 (wrap64 ((x9_4.length : Int) - 1))).f0).toList = ((rd_T34 l0 x10_1).f0).toList then (if (rd_T34 x9_4 (wrap64 ((x9_4.length : Int) - 1))).f2 = true then (if (wrap64 ((x9_4.length : Int) - 1)) ≤ (x9_4.length : Int) then (palinoderef15_Fold.l1 k4 l0 l1 true (x9_4.take ((wrap64 ((x9_4.length : Int) - 1)) : Int).toNat) x10_1 x12_13) else (none)) else (palinoderef15_Fold.l0 k4 l0 l1 true x9_4 (wrap64 (x10_1 + 1)))) else (palinoderef15_Fold.l0 k4 l0 l1 true x9_4 (wrap64 (x10_1 + 1)))) else (none)) else (none)) else (none)) else (none)) else (palinoderef15_Fold.l0 k4 l0 l1 true x9_4 (wrap64 (x10_1 + 1)))) else (palinoderef15_Fold.l0 k4 l0 l1 true x9_4 (wrap64 (x10_1 + 1)))) = some (r1, r2) := by rw [if_pos rfl] at H; exact H
            clear H
            have H := H1
            clear H1
            by_cases c22 : x12_13 = true
            ·
             subst c22
             have H1 : (if (x9_4.length : Int) > 0 then (if 0 ≤ (wrap64 ((x9_4.length : Int) - 1)) then (if (wrap64 ((x9_4.length : Int) - 1)) < (x9_4.length : Int) then (if 0 ≤ x10_1 then (if x10_1 < (l0.length : Int) then (if ((rd_T34 x9_4 (wrap64 ((x9_4.length : Int) - 1))).f0).toList = ((rd_T34 l0 x10_1).f0).toList then (if (rd_T34 x9_4 (wrap64 ((x9_4.length : Int) - 1))).f2 = true then (if (wrap64 ((x9_4.length : Int) - 1)) ≤ (x9_4.length : Int) then (palinoderef15_Fold.l1 k4 l0 l1 true (x9_4.take ((wrap64 ((x9_4.length : Int) - 1)) : Int).toNat) x10_1 true) else (none)) else (palinoderef15_Fold.l0 k4 l0 l1 true x9_4 (wrap64 (x10_1 + 1)))) else (palinoderef15_Fold.l0 k4 l0 l1 true x9_4 (wrap64 (x10_1 + 1)))) else (none)) else (none)) else (none)) else (none)) else (palinoderef15_Fold.l0 k4 l0 l1 true x9_4 (wrap64 (x10_1 + 1)))) = some (r1, r2) := by rw [if_pos rfl] at H; exact H
             clear H
             have H := H1
             clear H1
             by_cases c23 : (x9_4.length : Int) > 0
             ·
              rw [if_pos c23] at H
              have c23b0 : decide (0 < (x9_4.length : Int)) = true := decide_eq_true c23
              have c23b1 : decide (0 < x9_4.length) = true := decide_eq_true (by omega)
              clear c23
              obtain ⟨ji24, hji24⟩ : ∃ j_ : Int, (wrap64 ((x9_4.length : Int) - 1)) = j_ := ⟨_, rfl⟩
              replace H : (if 0 ≤ (ji24) then (if (ji24) < (x9_4.length : Int) then (if 0 ≤ x10_1 then (if x10_1 < (l0.length : Int) then (if ((rd_T34 x9_4 (ji24)).f0).toList = ((rd_T34 l0 x10_1).f0).toList then (if (rd_T34 x9_4 (ji24)).f2 = true then (if (ji24) ≤ (x9_4.length : Int) then (palinoderef15_Fold.l1 k4 l0 l1 true (x9_4.take ((ji24) : Int).toNat) x10_1 true) else (none)) else (palinoderef15_Fold.l0 k4 l0 l1 true x9_4 (wrap64 (x10_1 + 1)))) else (palinoderef15_Fold.l0 k4 l0 l1 true x9_4 (wrap64 (x10_1 + 1)))) else (none)) else (none)) else (none)) else (none)) = some (r1, r2) := by first | (rw [hji24] at H; exact H) | (simp only [hji24] at H ⊢; exact H)
              have hji24w : (IntKind.i64.wrap ((x9_4.length : Int) - 1)) = ji24 := (i64_w _).trans hji24
              by_cases c25 : 0 ≤ (ji24)
              ·
               rw [if_pos c25] at H
               have c25b0 : decide (0 ≤ (ji24)) = true := decide_eq_true c25
               clear c25
               by_cases c26 : (ji24) < (x9_4.length : Int)
               ·
                rw [if_pos c26] at H
                have c26b0 : decide ((ji24) < (x9_4.length : Int)) = true := decide_eq_true c26
                clear c26
                by_cases c27 : 0 ≤ x10_1
                ·
                 rw [if_pos c27] at H
                 have c27b0 : decide (0 ≤ x10_1) = true := decide_eq_true c27
                 clear c27
                 by_cases c28 : x10_1 < (l0.length : Int)
                 ·
                  rw [if_pos c28] at H
                  have c28b0 : decide (x10_1 < (l0.length : Int)) = true := decide_eq_true c28
                  clear c28
                  by_cases c29 : ((rd_T34 x9_4 (ji24)).f0).toList = ((rd_T34 l0 x10_1).f0).toList
                  ·
                   rw [if_pos c29] at H
                   have c29b0 : (((rd_T34 x9_4 (ji24)).f0).toList == ((rd_T34 l0 x10_1).f0).toList) = true := beq_iff_eq.mpr c29
                   have c29b1 : (((rd_T34 x9_4 (ji24)).f0).toList != ((rd_T34 l0 x10_1).f0).toList) = false := bne_eq_false_iff_eq.mpr c29
                   clear c29
                   obtain ⟨bq30, hbq30⟩ : ∃ b_ : Bool, b_ = ((rd_T34 x9_4 (ji24)).f2) := ⟨_, rfl⟩
                   replace H : (if bq30 = true then (if (ji24) ≤ (x9_4.length : Int) then (palinoderef15_Fold.l1 k4 l0 l1 true (x9_4.take ((ji24) : Int).toNat) x10_1 true) else (none)) else (palinoderef15_Fold.l0 k4 l0 l1 true x9_4 (wrap64 (x10_1 + 1)))) = some (r1, r2) := by rw [← hbq30] at H; exact H
                   have Nbq30 := Aside0.mk hbq30
                   clear hbq30
                   by_cases c31 : bq30 = true
                   ·
                    subst c31
                    have H1 : (if (ji24) ≤ (x9_4.length : Int) then (palinoderef15_Fold.l1 k4 l0 l1 true (x9_4.take ((ji24) : Int).toNat) x10_1 true) else (none)) = some (r1, r2) := by rw [if_pos rfl] at H; exact H
                    clear H
                    have H := H1
                    clear H1
                    by_cases c32 : (ji24) ≤ (x9_4.length : Int)
                    ·
                     rw [if_pos c32] at H
                     have c32b0 := eq_true c32
                     have c32b1 : decide ((ji24) ≤ (x9_4.length : Int)) = true := decide_eq_true c32
                     clear c32
                     obtain ⟨y276, hy276⟩ : ∃ y_ : List (S34), y_ = (x9_4.take ((ji24) : Int).toNat) := ⟨_, rfl⟩
                     replace H : (palinoderef15_Fold.l1 k4 l0 l1 true y276 x10_1 true) = some (r1, r2) := by first | (rw [hy276]; with_reducible exact H) | (have H2_ := (Option.bind_some _ _).symm.trans H; rw [hy276]; with_reducible exact H2_) | (have H2_ := (Option.bind_some _ _).symm.trans H; with_reducible exact H2_) | with_reducible exact H | (rw [hy276]; exact H) | exact H
                     have Ny276 := Aside0.mk hy276
                     clear hy276
                     have H' := Aside0.mk H
                     clear H
                     obtain ⟨Ao33, co33, eo33⟩ := Kd.R_slice HO_9.out
                     subst eo33
                     have p273 : 0 ≤ ((ji24) : Int) := of_decide_eq_true (by first | (with_reducible assumption) | assumption)
                     have q273 : (ji24) < (x9_4.length : Int) := of_decide_eq_true (by first | (with_reducible assumption) | assumption)
                     obtain ⟨ad273, e273, hx273_0, hx273_1, hx273_2, hx273_3⟩ := at_T34 (Kd.R_reads' HO_9.out).2.2 (ji24) p273 q273
                     (try rw [← Nbq30.out] at hx273_2)
                     cases e273
                     replace p273 := eq_true p273
                     replace q273 := eq_true q273
                     have p274 : 0 ≤ (x10_1 : Int) := of_decide_eq_true (by first | (with_reducible assumption) | assumption)
                     have q274 : x10_1 < (l0.length : Int) := of_decide_eq_true (by first | (with_reducible assumption) | assumption)
                     obtain ⟨ad274, e274, hx274_0, hx274_1, hx274_2, hx274_3⟩ := at_T34 HR0.out x10_1 p274 q274
                     (try rw [← Nbq30.out] at hx274_2)
                     cases e274
                     replace hx274_0 := (HB.out.cell (World.block_lt_of_cell? w _ hx274_0)).trans hx274_0
                     replace hx274_1 := (HB.out.cell (World.block_lt_of_cell? w _ hx274_1)).trans hx274_1
                     replace hx274_2 := (HB.out.cell (World.block_lt_of_cell? w _ hx274_2)).trans hx274_2
                     replace hx274_3 := (HB.out.cell (World.block_lt_of_cell? w _ hx274_3)).trans hx274_3
                     replace p274 := eq_true p274
                     replace q274 := eq_true q274
                     have p275 : 0 ≤ ((ji24) : Int) := of_decide_eq_true (by first | (with_reducible assumption) | assumption)
                     have q275 : (ji24) < (x9_4.length : Int) := of_decide_eq_true (by first | (with_reducible assumption) | assumption)
                     obtain ⟨ad275, e275, hx275_0, hx275_1, hx275_2, hx275_3⟩ := at_T34 (Kd.R_reads' HO_9.out).2.2 (ji24) p275 q275
                     (try rw [← Nbq30.out] at hx275_2)
                     obtain rfl : ad273 = ad275 := (by injection e275)
                     replace p275 := eq_true p275
                     replace q275 := eq_true q275
                     have q34 : ((ji24) : Int) ≤ ((x9_4.length : Int) : Int) := of_decide_eq_true (by first | (with_reducible assumption) | assumption)
                     obtain ⟨i034, hi034, _, hsz34, _⟩ := info_parts info34
                     have hcut34 := cut_to (P := Try.prog) 24 34 .i64 Try.underlying24 hi034 (some ad273) x9_4.length co33 (ji24) (of_decide_eq_true (by first | (with_reducible assumption) | assumption)) q34 (Kd.R_reads' HO_9.out).2.1
                     have hr34 := Kd.R_take (m := ((ji24) : Int).toNat) HO_9.out (by omega)
                     have hy34 : y276.length = ((ji24) : Int).toNat := (by rw [Ny276.out, List.length_take]; omega)
                     rw [← Ny276.out] at hr34
                     rw [← hy34] at hr34 hcut34
                     clear hy34 hi034 hsz34 HO_9
                     have HO278 := Aside0.mk hr34
                     clear hr34
                     replace q34 := eq_true q34
                     go_wp2
                     repeat (go_quiet (fail); try go_wp2)
                     go_roundg k4
                     case measure => have := HK1.out; have := HJ8.out; have := HJ13.out; have := HK4.out; omega
                     case rel => exact ⟨(y276), H', ⟨by have := HK1.out; have := HJ8.out; have := HJ13.out; have := HK4.out; omega⟩, ⟨by (with_reducible repeat (first | apply Kd.R_alloc | apply Kd.R_drewN | apply Kd.R_drew)); exact HO278.out⟩, ⟨Yr HB⟩⟩
                    ·
                     rw [if_neg c32] at H
                     exact absurd H (by simp)
                   ·
                    replace c31 := Bool.eq_false_iff.mpr c31
                    subst c31
                    have H1 : (palinoderef15_Fold.l0 k4 l0 l1 true x9_4 (wrap64 (x10_1 + 1))) = some (r1, r2) := by rw [if_neg (show ¬ (false = true) by decide)] at H; exact H
                    clear H
                    have H := H1
                    clear H1
                    have H' := Aside0.mk H
                    clear H
                    obtain ⟨Ao35, co35, eo35⟩ := Kd.R_slice HO_9.out
                    subst eo35
                    have p273 : 0 ≤ ((ji24) : Int) := of_decide_eq_true (by first | (with_reducible assumption) | assumption)
                    have q273 : (ji24) < (x9_4.length : Int) := of_decide_eq_true (by first | (with_reducible assumption) | assumption)
                    obtain ⟨ad273, e273, hx273_0, hx273_1, hx273_2, hx273_3⟩ := at_T34 (Kd.R_reads' HO_9.out).2.2 (ji24) p273 q273
                    (try rw [← Nbq30.out] at hx273_2)
                    cases e273
                    replace p273 := eq_true p273
                    replace q273 := eq_true q273
                    have p274 : 0 ≤ (x10_1 : Int) := of_decide_eq_true (by first | (with_reducible assumption) | assumption)
                    have q274 : x10_1 < (l0.length : Int) := of_decide_eq_true (by first | (with_reducible assumption) | assumption)
                    obtain ⟨ad274, e274, hx274_0, hx274_1, hx274_2, hx274_3⟩ := at_T34 HR0.out x10_1 p274 q274
                    (try rw [← Nbq30.out] at hx274_2)
                    cases e274
                    replace hx274_0 := (HB.out.cell (World.block_lt_of_cell? w _ hx274_0)).trans hx274_0
                    replace hx274_1 := (HB.out.cell (World.block_lt_of_cell? w _ hx274_1)).trans hx274_1
                    replace hx274_2 := (HB.out.cell (World.block_lt_of_cell? w _ hx274_2)).trans hx274_2
                    replace hx274_3 := (HB.out.cell (World.block_lt_of_cell? w _ hx274_3)).trans hx274_3
                    replace p274 := eq_true p274
                    replace q274 := eq_true q274
                    have p275 : 0 ≤ ((ji24) : Int) := of_decide_eq_true (by first | (with_reducible assumption) | assumption)
                    have q275 : (ji24) < (x9_4.length : Int) := of_decide_eq_true (by first | (with_reducible assumption) | assumption)
                    obtain ⟨ad275, e275, hx275_0, hx275_1, hx275_2, hx275_3⟩ := at_T34 (Kd.R_reads' HO_9.out).2.2 (ji24) p275 q275
                    (try rw [← Nbq30.out] at hx275_2)
                    obtain rfl : ad273 = ad275 := (by injection e275)
                    replace p275 := eq_true p275
                    replace q275 := eq_true q275
                    go_wp2
                    repeat (go_quiet (fail); try go_wp2)
                    go_roundg k4
                    case measure => have := HK1.out; have := HJ8.out; have := HJ13.out; have := HK4.out; omega
                    case rel => exact ⟨(x9_4), (wrap64 (x10_1 + 1)), (by first | rfl | (simp; done) | (simp [*]; done)), H', ⟨by have := HK1.out; have := HJ8.out; have := HJ13.out; have := HK4.out; omega⟩, ⟨by (with_reducible repeat (first | apply Kd.R_alloc | apply Kd.R_drewN | apply Kd.R_drew)); exact HO_9.out⟩, ⟨Yr HB⟩⟩
                  ·
                   rw [if_neg c29] at H
                   have c29b0 : (((rd_T34 x9_4 (ji24)).f0).toList == ((rd_T34 l0 x10_1).f0).toList) = false := beq_eq_false_iff_ne.mpr c29
                   have c29b1 : (((rd_T34 x9_4 (ji24)).f0).toList != ((rd_T34 l0 x10_1).f0).toList) = true := bne_iff_ne.mpr c29
                   have H' := Aside0.mk H
                   clear H
                   obtain ⟨Ao36, co36, eo36⟩ := Kd.R_slice HO_9.out
                   subst eo36
                   have p273 : 0 ≤ ((ji24) : Int) := of_decide_eq_true (by first | (with_reducible assumption) | assumption)
                   have q273 : (ji24) < (x9_4.length : Int) := of_decide_eq_true (by first | (with_reducible assumption) | assumption)
                   obtain ⟨ad273, e273, hx273_0, hx273_1, hx273_2, hx273_3⟩ := at_T34 (Kd.R_reads' HO_9.out).2.2 (ji24) p273 q273
                   cases e273
                   replace p273 := eq_true p273
                   replace q273 := eq_true q273
                   have p274 : 0 ≤ (x10_1 : Int) := of_decide_eq_true (by first | (with_reducible assumption) | assumption)
                   have q274 : x10_1 < (l0.length : Int) := of_decide_eq_true (by first | (with_reducible assumption) | assumption)
                   obtain ⟨ad274, e274, hx274_0, hx274_1, hx274_2, hx274_3⟩ := at_T34 HR0.out x10_1 p274 q274
                   cases e274
                   replace hx274_0 := (HB.out.cell (World.block_lt_of_cell? w _ hx274_0)).trans hx274_0
                   replace hx274_1 := (HB.out.cell (World.block_lt_of_cell? w _ hx274_1)).trans hx274_1
                   replace hx274_2 := (HB.out.cell (World.block_lt_of_cell? w _ hx274_2)).trans hx274_2
                   replace hx274_3 := (HB.out.cell (World.block_lt_of_cell? w _ hx274_3)).trans hx274_3
                   replace p274 := eq_true p274
                   replace q274 := eq_true q274
                   go_wp2
                   repeat (go_quiet (fail); try go_wp2)
                   go_roundg k4
                   case measure => have := HK1.out; have := HJ8.out; have := HJ13.out; have := HK4.out; omega
                   case rel => exact ⟨(x9_4), (wrap64 (x10_1 + 1)), (by first | rfl | (simp; done) | (simp [*]; done)), H', ⟨by have := HK1.out; have := HJ8.out; have := HJ13.out; have := HK4.out; omega⟩, ⟨by (with_reducible repeat (first | apply Kd.R_alloc | apply Kd.R_drewN | apply Kd.R_drew)); exact HO_9.out⟩, ⟨Yr HB⟩⟩
                 ·
                  rw [if_neg c28] at H
                  exact absurd H (by simp)
                ·
                 rw [if_neg c27] at H
                 exact absurd H (by simp)
               ·
                rw [if_neg c26] at H
                exact absurd H (by simp)
              ·
               rw [if_neg c25] at H
               exact absurd H (by simp)
             ·
              rw [if_neg c23] at H
              have c23b0 : decide (0 < (x9_4.length : Int)) = false := decide_eq_false c23
              have c23b1 : decide (0 < x9_4.length) = false := decide_eq_false (by omega)
              clear c23
              have H' := Aside0.mk H
              clear H
              obtain ⟨Ao37, co37, eo37⟩ := Kd.R_slice HO_9.out
              subst eo37
              go_wp2
              repeat (go_quiet (fail); try go_wp2)
              go_roundg k4
              case measure => have := HK1.out; have := HJ8.out; have := HJ13.out; have := HK4.out; omega
              case rel => exact ⟨(x9_4), (wrap64 (x10_1 + 1)), (by first | rfl | (simp; done) | (simp [*]; done)), H', ⟨by have := HK1.out; have := HJ8.out; have := HJ13.out; have := HK4.out; omega⟩, ⟨by (with_reducible repeat (first | apply Kd.R_alloc | apply Kd.R_drewN | apply Kd.R_drew)); exact HO_9.out⟩, ⟨Yr HB⟩⟩
            ·
             replace c22 := Bool.eq_false_iff.mpr c22
             subst c22
             have H1 : (palinoderef15_Fold.l0 k4 l0 l1 true x9_4 (wrap64 (x10_1 + 1))) = some (r1, r2) := by rw [if_neg (show ¬ (false = true) by decide)] at H; exact H
             clear H
             have H := H1
             clear H1
             have H' := Aside0.mk H
             clear H
             go_wp2
             repeat (go_quiet (fail); try go_wp2)
             go_roundg k4
             case measure => have := HK1.out; have := HJ8.out; have := HJ13.out; have := HK4.out; omega
             case rel => exact ⟨(x9_4), (wrap64 (x10_1 + 1)), (by first | rfl | (simp; done) | (simp [*]; done)), H', ⟨by have := HK1.out; have := HJ8.out; have := HJ13.out; have := HK4.out; omega⟩, ⟨by (with_reducible repeat (first | apply Kd.R_alloc | apply Kd.R_drewN | apply Kd.R_drew)); exact HO_9.out⟩, ⟨Yr HB⟩⟩
           ·
            replace c21 := Bool.eq_false_iff.mpr c21
            subst c21
            have H1 : (palinoderef15_Fold.l0 k4 l0 l1 false x9_4 (wrap64 (x10_1 + 1))) = some (r1, r2) := by rw [if_neg (show ¬ (false = true) by decide)] at H; exact H
            clear H
            have H := H1
            clear H1
            have H' := Aside0.mk H
            clear H
            go_wp2
            repeat (go_quiet (fail); try go_wp2)
            go_roundg k4
            case measure => have := HK1.out; have := HJ8.out; have := HJ13.out; have := HK4.out; omega
            case rel => exact ⟨(x9_4), (wrap64 (x10_1 + 1)), (by first | rfl | (simp; done) | (simp [*]; done)), H', ⟨by have := HK1.out; have := HJ8.out; have := HJ13.out; have := HK4.out; omega⟩, ⟨by (with_reducible repeat (first | apply Kd.R_alloc | apply Kd.R_drewN | apply Kd.R_drew)); exact HO_9.out⟩, ⟨Yr HB⟩⟩
    ·
     rw [if_neg c7] at H
     have c7b0 : decide (x10_1 < (l0.length : Int)) = false := decide_eq_false c7
     clear c7
     simp only [Option.some.injEq, Prod.mk.injEq] at H
     obtain ⟨rfl, rfl⟩ := H
     go_wp2
     repeat (go_quiet (fail); try go_wp2)
     go_ret2
     exact ⟨_, by first | rfl | (simp [errW_none, errW_some] <;> rfl) | (simp [*, errW_none, errW_some] <;> rfl), by (with_reducible repeat (first | apply Kd.R_alloc | apply Kd.R_drewN | apply Kd.R_drew)); exact HO_9.out, Yr HB⟩
 ·
  replace c5 := Bool.eq_false_iff.mpr c5
  subst c5
  have H1 : (some (([] : List (S34)), false)) = some (r1, r2) := by rw [if_neg (show ¬ (false = true) by decide)] at H; exact H
  clear H
  have H := H1
  clear H1
  simp only [Option.some.injEq, Prod.mk.injEq] at H
  obtain ⟨rfl, rfl⟩ := H
  go_enter Try.func16, Try.ntmps16
  go_wp2_with (first | (go_at_call 21; (with_reducible refine (palinoderef12_Sorted.calls k _ _ l0 false _ ?side1 ?side2 A4.out).mono ?_); (case side1 => repeat (first | exact HR0.out | (with_reducible refine Kd.C_alloc ?_ _) | (with_reducible refine Kd.C_drewN ?_ _) | (with_reducible refine Kd.C_drew ?_))); (case side2 => exact HC0.out); rintro e w38 ⟨rfl, hb⟩; have n0_ := Aside0.mk (Yv HB hb); clear HB; have HB := n0_; clear n0_; (try clear hb); (try clear hb2); (try clear hk); (try clear hi)))
  repeat (go_quiet (first | (go_at_call 21; (with_reducible refine (palinoderef12_Sorted.calls k _ _ l0 false _ ?side1 ?side2 A4.out).mono ?_); (case side1 => repeat (first | exact HR0.out | (with_reducible refine Kd.C_alloc ?_ _) | (with_reducible refine Kd.C_drewN ?_ _) | (with_reducible refine Kd.C_drew ?_))); (case side2 => exact HC0.out); rintro e w38 ⟨rfl, hb⟩; have n0_ := Aside0.mk (Yv HB hb); clear HB; have HB := n0_; clear n0_; (try clear hb); (try clear hb2); (try clear hk); (try clear hi))); try go_wp2_with (first | (go_at_call 21; (with_reducible refine (palinoderef12_Sorted.calls k _ _ l0 false _ ?side1 ?side2 A4.out).mono ?_); (case side1 => repeat (first | exact HR0.out | (with_reducible refine Kd.C_alloc ?_ _) | (with_reducible refine Kd.C_drewN ?_ _) | (with_reducible refine Kd.C_drew ?_))); (case side2 => exact HC0.out); rintro e w38 ⟨rfl, hb⟩; have n0_ := Aside0.mk (Yv HB hb); clear HB; have HB := n0_; clear n0_; (try clear hb); (try clear hb2); (try clear hk); (try clear hi))))
  go_ret2
  exact ⟨_, by first | rfl | (simp [errW_none, errW_some] <;> rfl) | (simp [*, errW_none, errW_some] <;> rfl), by first | exact Kd.R_nil _ _ _ _ _ | exact Kd.N_nil _ _ _ _ _ | exact Kd.V_nil _ _ _ _ _ | exact Kd.Q_nil _ _ _ _ _ | exact Kd.S_nil _ _ _ _ _, Yr HB⟩

end Go.Proofs.Yteljlfodjbgejaa.Print
