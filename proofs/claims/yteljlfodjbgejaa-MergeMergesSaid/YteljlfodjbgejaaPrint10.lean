-- Printed out of the translation by a program of this session's own. Not trusted: Lean checks it.
import Derived.Test.YteljlfodjbgejaaPrint0
import Derived.Test.YteljlfodjbgejaaPrint6
import Derived.Test.YteljlfodjbgejaaPrint9
import Derived.Test.YteljlfodjbgejaaHMergeMerge
namespace Go.Proofs.Yteljlfodjbgejaa.Print
open Go.RowKit Go.Proofs.YteljlfodjbgejaaW.PrintWords Go.Proofs.YteljlfodjbgejaaW.PrintLast Go.Proofs.YteljlfodjbgejaaW.PrintMore Go.Proofs.YteljlfodjbgejaaX
attribute [local go_sem] max2_int min2_int max_two min_two max_three min_three max_four min_four   -- for this text's walks alone
set_option linter.unusedVariables false
set_option linter.unusedSimpArgs false

/-! ### palinodelaw15_MergeMerges: function 3 -/
mutual
def palinodelaw15_MergeMerges.j1 : Nat → Bool → List (List (S34)) → Option (Bool)
 | 0, _, _ => none
 | k + 1, x3, x4 => (palinoderef15_Merge.f k x4).bind fun bt246 => (palinodelaw15_MergeMerges.l1 k x3 x4 bt246.1 bt246.2 0)
def palinodelaw15_MergeMerges.l1 : Nat → Bool → List (List (S34)) → List (S34) → Bool → Int → Option (Bool)
 | 0, _, _, _, _, _ => none
 | k + 1, x3, x4, x6, x7, x8 => if x8 < 2 then ((merge_Merge.f x4).bind fun bt250 => ((palinodelaw15_entries.f k bt250.1 x6).bind fun t254 => (if t254 = true then (if bt250.2.isNone = true then (if (x7 != true) = true then (palinodelaw15_MergeMerges.j3 k x3 x4 x6 x7 x8 bt250.1 true) else (if x7 = true then (palinodelaw15_MergeMerges.j3 k x3 x4 x6 x7 x8 bt250.1 false) else ((palinodelaw15_is.f none 1).bind fun t256 => (palinodelaw15_MergeMerges.j3 k x3 x4 x6 x7 x8 bt250.1 (!t256))))) else (if (x7 != false) = true then (palinodelaw15_MergeMerges.j3 k x3 x4 x6 x7 x8 bt250.1 true) else (if x7 = true then (palinodelaw15_MergeMerges.j3 k x3 x4 x6 x7 x8 bt250.1 false) else ((palinodelaw15_is.f (some (bt250.2.getD 0)) 1).bind fun t257 => (palinodelaw15_MergeMerges.j3 k x3 x4 x6 x7 x8 bt250.1 (!t257)))))) else (palinodelaw15_MergeMerges.j3 k x3 x4 x6 x7 x8 bt250.1 true)))) else (some x3)
def palinodelaw15_MergeMerges.j3 : Nat → Bool → List (List (S34)) → List (S34) → Bool → Int → List (S34) → Bool → Option (Bool)
 | 0, _, _, _, _, _, _, _ => none
 | k + 1, x3, x4, x6, x7, x8, x9, x72 => if x72 = true then (some false) else (palinodelaw15_MergeMerges.l2 k x3 x4 x6 x7 x8 x9 0)
def palinodelaw15_MergeMerges.l2 : Nat → Bool → List (List (S34)) → List (S34) → Bool → Int → List (S34) → Int → Option (Bool)
 | 0, _, _, _, _, _, _, _ => none
 | k + 1, x3, x4, x6, x7, x8, x9, x12 => if x12 < (x9.length : Int) then (if 0 ≤ x12 then (palinodelaw15_MergeMerges.l2 k x3 x4 x6 x7 x8 (x9.set (x12 : Int).toNat (⟨(⟨#[]⟩ : ByteArray), 0, false, (⟨#[]⟩ : ByteArray)⟩ : S34)) (wrap64 (x12 + 1))) else (none)) else (palinodelaw15_MergeMerges.l1 k x3 x4 x6 x7 (wrap64 (x8 + 1)))
def palinodelaw15_MergeMerges.l0 : Nat → List (List (S34)) → Bool → List (List (S34)) → Int → Option (Bool)
 | 0, _, _, _, _ => none
 | k + 1, x0, x3, x4, x5 => if x5 < (x0.length : Int) then (if x5 < 12 then (if 0 ≤ x5 then (if 0 ≤ (mn ((rd_L4 x0 x5).length : Int) 60) then (if (mn ((rd_L4 x0 x5).length : Int) 60) ≤ ((rd_L4 x0 x5).length : Int) then ((some ((rd_L4 x0 x5).take ((mn ((rd_L4 x0 x5).length : Int) 60) : Int).toNat : List (S34))).bind fun y236 => (if ([] : List (S34)).length + y236.length < 2932031007402 then (if x4.length < 5864062014805 then (palinodelaw15_MergeMerges.l0 k x0 x3 (x4 ++ [(([] : List (S34)) ++ y236)]) (wrap64 (x5 + 1))) else (none)) else (none))) else (none)) else (none)) else (none)) else (palinodelaw15_MergeMerges.j1 k x3 x4)) else (palinodelaw15_MergeMerges.j1 k x3 x4)
end
def palinodelaw15_MergeMerges.f (k : Nat) (l0 : List (List (S34))) : Option (Bool) := (palinodelaw15_examples.f).bind fun t233 => (palinodelaw15_MergeMerges.l0 k l0 t233 ([] : List (List (S34))) 0)
theorem palinodelaw15_MergeMerges.mono_l : ∀ k, (∀ y0 y1, LeO (palinodelaw15_MergeMerges.j1 k y0 y1) (palinodelaw15_MergeMerges.j1 (k + 1) y0 y1)) ∧ (∀ y0 y1 y2 y3 y4, LeO (palinodelaw15_MergeMerges.l1 k y0 y1 y2 y3 y4) (palinodelaw15_MergeMerges.l1 (k + 1) y0 y1 y2 y3 y4)) ∧ (∀ y0 y1 y2 y3 y4 y5 y6, LeO (palinodelaw15_MergeMerges.j3 k y0 y1 y2 y3 y4 y5 y6) (palinodelaw15_MergeMerges.j3 (k + 1) y0 y1 y2 y3 y4 y5 y6)) ∧ (∀ y0 y1 y2 y3 y4 y5 y6, LeO (palinodelaw15_MergeMerges.l2 k y0 y1 y2 y3 y4 y5 y6) (palinodelaw15_MergeMerges.l2 (k + 1) y0 y1 y2 y3 y4 y5 y6)) ∧ (∀ y0 y1 y2 y3, LeO (palinodelaw15_MergeMerges.l0 k y0 y1 y2 y3) (palinodelaw15_MergeMerges.l0 (k + 1) y0 y1 y2 y3))
 | 0 => ⟨fun _ _ r h => by simp [palinodelaw15_MergeMerges.j1] at h, fun _ _ _ _ _ r h => by simp [palinodelaw15_MergeMerges.l1] at h, fun _ _ _ _ _ _ _ r h => by simp [palinodelaw15_MergeMerges.j3] at h, fun _ _ _ _ _ _ _ r h => by simp [palinodelaw15_MergeMerges.l2] at h, fun _ _ _ _ r h => by simp [palinodelaw15_MergeMerges.l0] at h⟩
 | k + 1 => by
  obtain ⟨ih0, ih1, ih2, ih3, ih4⟩ := palinodelaw15_MergeMerges.mono_l k
  refine ⟨?_, ?_, ?_, ?_, ?_⟩
  ·
   intro y0 y1
   unfold palinodelaw15_MergeMerges.j1
   repeat' first
   | (with_reducible exact ih0 _ _)
   | (with_reducible exact ih1 _ _ _ _ _)
   | (with_reducible exact ih2 _ _ _ _ _ _ _)
   | (with_reducible exact ih3 _ _ _ _ _ _ _)
   | (with_reducible exact ih4 _ _ _ _)
   | (with_reducible exact palinodelaw15_entries.mono _ _ _)
   | (with_reducible exact palinoderef15_Merge.mono _ _)
   | (with_reducible exact LeO.refl _)
   | (with_reducible exact LeO.none _)
   | (with_reducible refine LeO.ite ?_ ?_)
   | (with_reducible refine LeO.bind ?_ (fun _ => ?_))
   | exact ih0 _ _
   | exact ih1 _ _ _ _ _
   | exact ih2 _ _ _ _ _ _ _
   | exact ih3 _ _ _ _ _ _ _
   | exact ih4 _ _ _ _
   | exact palinodelaw15_entries.mono _ _ _
   | exact palinoderef15_Merge.mono _ _
   | exact LeO.none _
   | refine LeO.ite ?_ ?_
   | refine LeO.bind ?_ (fun _ => ?_)
  ·
   intro y0 y1 y2 y3 y4
   unfold palinodelaw15_MergeMerges.l1
   repeat' first
   | (with_reducible exact ih0 _ _)
   | (with_reducible exact ih1 _ _ _ _ _)
   | (with_reducible exact ih2 _ _ _ _ _ _ _)
   | (with_reducible exact ih3 _ _ _ _ _ _ _)
   | (with_reducible exact ih4 _ _ _ _)
   | (with_reducible exact palinodelaw15_entries.mono _ _ _)
   | (with_reducible exact palinoderef15_Merge.mono _ _)
   | (with_reducible exact LeO.refl _)
   | (with_reducible exact LeO.none _)
   | (with_reducible refine LeO.ite ?_ ?_)
   | (with_reducible refine LeO.bind ?_ (fun _ => ?_))
   | exact ih0 _ _
   | exact ih1 _ _ _ _ _
   | exact ih2 _ _ _ _ _ _ _
   | exact ih3 _ _ _ _ _ _ _
   | exact ih4 _ _ _ _
   | exact palinodelaw15_entries.mono _ _ _
   | exact palinoderef15_Merge.mono _ _
   | exact LeO.none _
   | refine LeO.ite ?_ ?_
   | refine LeO.bind ?_ (fun _ => ?_)
  ·
   intro y0 y1 y2 y3 y4 y5 y6
   unfold palinodelaw15_MergeMerges.j3
   repeat' first
   | (with_reducible exact ih0 _ _)
   | (with_reducible exact ih1 _ _ _ _ _)
   | (with_reducible exact ih2 _ _ _ _ _ _ _)
   | (with_reducible exact ih3 _ _ _ _ _ _ _)
   | (with_reducible exact ih4 _ _ _ _)
   | (with_reducible exact palinodelaw15_entries.mono _ _ _)
   | (with_reducible exact palinoderef15_Merge.mono _ _)
   | (with_reducible exact LeO.refl _)
   | (with_reducible exact LeO.none _)
   | (with_reducible refine LeO.ite ?_ ?_)
   | (with_reducible refine LeO.bind ?_ (fun _ => ?_))
   | exact ih0 _ _
   | exact ih1 _ _ _ _ _
   | exact ih2 _ _ _ _ _ _ _
   | exact ih3 _ _ _ _ _ _ _
   | exact ih4 _ _ _ _
   | exact palinodelaw15_entries.mono _ _ _
   | exact palinoderef15_Merge.mono _ _
   | exact LeO.none _
   | refine LeO.ite ?_ ?_
   | refine LeO.bind ?_ (fun _ => ?_)
  ·
   intro y0 y1 y2 y3 y4 y5 y6
   unfold palinodelaw15_MergeMerges.l2
   repeat' first
   | (with_reducible exact ih0 _ _)
   | (with_reducible exact ih1 _ _ _ _ _)
   | (with_reducible exact ih2 _ _ _ _ _ _ _)
   | (with_reducible exact ih3 _ _ _ _ _ _ _)
   | (with_reducible exact ih4 _ _ _ _)
   | (with_reducible exact palinodelaw15_entries.mono _ _ _)
   | (with_reducible exact palinoderef15_Merge.mono _ _)
   | (with_reducible exact LeO.refl _)
   | (with_reducible exact LeO.none _)
   | (with_reducible refine LeO.ite ?_ ?_)
   | (with_reducible refine LeO.bind ?_ (fun _ => ?_))
   | exact ih0 _ _
   | exact ih1 _ _ _ _ _
   | exact ih2 _ _ _ _ _ _ _
   | exact ih3 _ _ _ _ _ _ _
   | exact ih4 _ _ _ _
   | exact palinodelaw15_entries.mono _ _ _
   | exact palinoderef15_Merge.mono _ _
   | exact LeO.none _
   | refine LeO.ite ?_ ?_
   | refine LeO.bind ?_ (fun _ => ?_)
  ·
   intro y0 y1 y2 y3
   unfold palinodelaw15_MergeMerges.l0
   repeat' first
   | (with_reducible exact ih0 _ _)
   | (with_reducible exact ih1 _ _ _ _ _)
   | (with_reducible exact ih2 _ _ _ _ _ _ _)
   | (with_reducible exact ih3 _ _ _ _ _ _ _)
   | (with_reducible exact ih4 _ _ _ _)
   | (with_reducible exact palinodelaw15_entries.mono _ _ _)
   | (with_reducible exact palinoderef15_Merge.mono _ _)
   | (with_reducible exact LeO.refl _)
   | (with_reducible exact LeO.none _)
   | (with_reducible refine LeO.ite ?_ ?_)
   | (with_reducible refine LeO.bind ?_ (fun _ => ?_))
   | exact ih0 _ _
   | exact ih1 _ _ _ _ _
   | exact ih2 _ _ _ _ _ _ _
   | exact ih3 _ _ _ _ _ _ _
   | exact ih4 _ _ _ _
   | exact palinodelaw15_entries.mono _ _ _
   | exact palinoderef15_Merge.mono _ _
   | exact LeO.none _
   | refine LeO.ite ?_ ?_
   | refine LeO.bind ?_ (fun _ => ?_)
theorem palinodelaw15_MergeMerges.mono : ∀ a0 k, LeO (palinodelaw15_MergeMerges.f k a0) (palinodelaw15_MergeMerges.f (k + 1) a0) := by
 intro a0 k
 obtain ⟨ih0, ih1, ih2, ih3, ih4⟩ := palinodelaw15_MergeMerges.mono_l k
 unfold palinodelaw15_MergeMerges.f
 repeat' first
   | (with_reducible exact ih0 _ _)
   | (with_reducible exact ih1 _ _ _ _ _)
   | (with_reducible exact ih2 _ _ _ _ _ _ _)
   | (with_reducible exact ih3 _ _ _ _ _ _ _)
   | (with_reducible exact ih4 _ _ _ _)
   | (with_reducible exact palinodelaw15_entries.mono _ _ _)
   | (with_reducible exact palinoderef15_Merge.mono _ _)
   | (with_reducible exact LeO.refl _)
   | (with_reducible exact LeO.none _)
   | (with_reducible refine LeO.ite ?_ ?_)
   | (with_reducible refine LeO.bind ?_ (fun _ => ?_))
   | exact ih0 _ _
   | exact ih1 _ _ _ _ _
   | exact ih2 _ _ _ _ _ _ _
   | exact ih3 _ _ _ _ _ _ _
   | exact ih4 _ _ _ _
   | exact palinodelaw15_entries.mono _ _ _
   | exact palinoderef15_Merge.mono _ _
   | exact LeO.none _
   | refine LeO.ite ?_ ?_
   | refine LeO.bind ?_ (fun _ => ?_)
def palinodelaw15_MergeMerges.T6 : Bool × List (List Nat × List Nat) := (true, [([], []), ([], []), ([], []), ([1, 2], [1, 2]), ([3], [3]), ([], []), ([], []), ([5, 6], [5, 6]), ([7], [7]), ([8], [8]), ([9], [9]), ([4, 10], [4, 10]), ([11], [11]), ([12], [12]), ([0, 13, 12], [0, 13]), ([14, 14, 0, 1, 2, 3, 4, 5, 6, 7, 8, 9, 10, 11, 12, 13, 14], [0, 14])])
def palinodelaw15_MergeMerges.B6 : List Nat := [0, 0, 0, 6, 14, 0, 0, 96, 224, 480, 992, 2046, 4094, 8190, 16383, 32767]
theorem palinodelaw15_MergeMerges.tab6 : rtab .any (opsOf Try.f3 6) = palinodelaw15_MergeMerges.T6 := by kernel_rfl
theorem palinodelaw15_MergeMerges.bits6 : waitsOk palinodelaw15_MergeMerges.T6.2 palinodelaw15_MergeMerges.B6 = true := by kernel_rfl
set_option maxHeartbeats 8000000 in
set_option maxRecDepth 100000 in
theorem palinodelaw15_MergeMerges.calls (k : Nat) (A0 : Option Addr) (c0 : Nat) (l0 : List (List (S34))) (r : Bool) (w : World) (hr0 : Kd.C (Kd.slice 34 k34) w A0 l0.length l0) (hc0 : l0.length ≤ c0) (h : palinodelaw15_MergeMerges.f k l0 = some r) (HEX_ : Aside0 (∀ r_, palinodelaw15_examples.f = some r_ → r_ = true)) (HRT_ : Aside0 (r = true) := by first | exact ⟨rfl⟩ | assumption) :
  Calls Try.prog 3 #[.slice A0 l0.length c0] w fun e w' => e = .returned (.bool r) ∧ Below w.heap.size w w' := by
 have hu34 := Try.underlying34
 have hu28 := Try.underlying28
 have hu50 := Try.underlying50
 have HR0 := Aside0.mk hr0
 have HC0 := Aside0.mk hc0
 clear hr0 hc0
 have HB := Aside0.mk (Below.refl w.heap.size w)
 have H : ((palinodelaw15_examples.f).bind fun t233 => (palinodelaw15_MergeMerges.l0 k l0 t233 ([] : List (List (S34))) 0)) = some r := h
 clear h
 replace H := Option.bind_eq_some_iff.mp H
 obtain ⟨t233, A20, H⟩ := H
 replace H : (palinodelaw15_MergeMerges.l0 k l0 t233 ([] : List (List (S34))) 0) = some r := H
 have A2 := Aside0.mk A20
 have HTA2_ : Aside0 (t233 = true) := ⟨HEX_.out _ A20⟩
 clear A20
 have HC3 := Aside0.mk H
 clear H
 go_enter Try.func3, Try.ntmps3
 go_upto_block 0 with (first | ((with_reducible refine gate_callee (f := 10) rfl ?_); refine goesL_ (some 13) rfl rfl Try.func10 (by kernel_rfl) rfl #[] rfl (by (try simp only [List.map_toArray, List.map_cons, List.map_nil]); first | done | rfl | (simp only [List.length_drop, List.length_take]; rfl)) ?_; (with_reducible refine (palinodelaw15_examples.calls  t233 _ A2.out).mono ?_); rintro e w4 ⟨rfl, hb⟩; refine ⟨_, rfl, ?_⟩; have n0_ := Aside0.mk (Yv HB hb); clear HB; have HB := n0_; clear n0_; (try clear hb); (try clear hb2); (try clear hk); (try clear hi)))
 (try simp only [Act.put, List.setIfInBounds_toArray, List.set_cons_zero, List.set_cons_succ])
 go_cut [4] (fun v4 wc => ∃ (kq : Nat) (x4_2 : List (List (S34))), Aside0 (palinodelaw15_MergeMerges.j1 kq t233 x4_2 = some r) ∧ Aside0 (kq ≤ k) ∧ Aside0 (Kd.S (Kd.slice 34 k34) 24 wc w.heap.size (fun _ => True) v4 x4_2) ∧ Aside0 (Below w.heap.size w wc))
 case first =>
  have H := HC3.out
  clear HC3
  have H' := Aside0.mk H
  clear H
  go_wp2
  go_loopg [4, 5] k (fun kq v4 v5 w' => ∃ (x4_1 : List (List (S34))) (x5_1 : Int), v5 = .int .i64 x5_1 ∧ Aside0 (palinodelaw15_MergeMerges.l0 kq l0 t233 x4_1 x5_1 = some r) ∧ Aside0 (kq ≤ k) ∧ Aside0 (Kd.S (Kd.slice 34 k34) 24 w' w.heap.size (fun _ => True) v4 x4_1) ∧ Aside0 (Below w.heap.size w w'))
  case atStart => exact ⟨(([] : List (List (S34)))), (0), (by first | rfl | (simp; done) | (simp [*]; done)), H', ⟨Nat.le_refl _⟩, ⟨by first | exact Kd.S_nil _ _ _ _ _ | exact Kd.N_nil _ _ _ _ _ | exact Kd.V_nil _ _ _ _ _ | exact Kd.Q_nil _ _ _ _ _ | exact Kd.R_nil _ _ _ _ _⟩, ⟨Yr HB⟩⟩
  case round =>
   clear H'
   try clear c1
   try clear p2
   try clear c3
   obtain ⟨x4_1, x5_1, rfl, HA, HK1, HO_4, HB⟩ := hrel
   cases gk with
   | zero => exact absurd HA.out (by simp [palinodelaw15_MergeMerges.l0])
   | succ k1 =>
    have H := HA.out
    clear HA
    simp only [palinodelaw15_MergeMerges.l0] at H
    by_cases c5 : x5_1 < (l0.length : Int)
    ·
     rw [if_pos c5] at H
     have c5b0 : decide (x5_1 < (l0.length : Int)) = true := decide_eq_true c5
     clear c5
     (first | rw [c5b0] | (simp only [i64_w, i32_w]; rw [c5b0]) | skip)
     by_cases c6 : x5_1 < 12
     ·
      rw [if_pos c6] at H
      have c6b0 : decide (x5_1 < 12) = true := decide_eq_true c6
      clear c6
      by_cases c7 : 0 ≤ x5_1
      ·
       rw [if_pos c7] at H
       have c7b0 : decide (0 ≤ x5_1) = true := decide_eq_true c7
       clear c7
       obtain ⟨ji8, hji8⟩ : ∃ j_ : Int, (mn ((rd_L4 l0 x5_1).length : Int) 60) = j_ := ⟨_, rfl⟩
       replace H : (if 0 ≤ (ji8) then (if (ji8) ≤ ((rd_L4 l0 x5_1).length : Int) then ((some ((rd_L4 l0 x5_1).take ((ji8) : Int).toNat : List (S34))).bind fun y236 => (if ([] : List (S34)).length + y236.length < 2932031007402 then (if x4_1.length < 5864062014805 then (palinodelaw15_MergeMerges.l0 k1 l0 t233 (x4_1 ++ [(([] : List (S34)) ++ y236)]) (wrap64 (x5_1 + 1))) else (none)) else (none))) else (none)) else (none)) = some r := by first | (rw [hji8] at H; exact H) | (simp only [hji8] at H ⊢; exact H)
       have hji8_ : (if 60 < ((rd_L4 l0 x5_1).length : Int) then 60 else ((rd_L4 l0 x5_1).length : Int)) = ji8 := hji8
       by_cases c9 : 0 ≤ (ji8)
       ·
        rw [if_pos c9] at H
        have c9b0 := eq_true c9
        have c9b1 : decide (0 ≤ (ji8)) = true := decide_eq_true c9
        clear c9
        by_cases c10 : (ji8) ≤ ((rd_L4 l0 x5_1).length : Int)
        ·
         rw [if_pos c10] at H
         have c10b0 := eq_true c10
         have c10b1 : decide ((ji8) ≤ ((rd_L4 l0 x5_1).length : Int)) = true := decide_eq_true c10
         clear c10
         obtain ⟨y236, hy236⟩ : ∃ y_ : List (S34), y_ = ((rd_L4 l0 x5_1).take ((ji8) : Int).toNat) := ⟨_, rfl⟩
         replace H : (if ([] : List (S34)).length + y236.length < 2932031007402 then (if x4_1.length < 5864062014805 then (palinodelaw15_MergeMerges.l0 k1 l0 t233 (x4_1 ++ [(([] : List (S34)) ++ y236)]) (wrap64 (x5_1 + 1))) else (none)) else (none)) = some r := by first | (rw [hy236]; with_reducible exact H) | (have H2_ := (Option.bind_some _ _).symm.trans H; rw [hy236]; with_reducible exact H2_) | (have H2_ := (Option.bind_some _ _).symm.trans H; with_reducible exact H2_) | with_reducible exact H | (rw [hy236]; exact H) | exact H
         have Ny236 := Aside0.mk hy236
         clear hy236
         by_cases c11 : ([] : List (S34)).length + y236.length < 2932031007402
         ·
          rw [if_pos c11] at H
          have LMc11 := Aside0.mk c11
          clear c11
          obtain ⟨y240, hy240⟩ : ∃ y_ : List (S34), y_ = (([] : List (S34)) ++ y236) := ⟨_, rfl⟩
          replace H : (if x4_1.length < 5864062014805 then (palinodelaw15_MergeMerges.l0 k1 l0 t233 (x4_1 ++ [y240]) (wrap64 (x5_1 + 1))) else (none)) = some r := by first | (rw [hy240]; with_reducible exact H) | (have H2_ := (Option.bind_some _ _).symm.trans H; rw [hy240]; with_reducible exact H2_) | (have H2_ := (Option.bind_some _ _).symm.trans H; with_reducible exact H2_) | with_reducible exact H | (rw [hy240]; exact H) | exact H
          have Ny240 := Aside0.mk hy240
          clear hy240
          by_cases c12 : x4_1.length < 5864062014805
          ·
           rw [if_pos c12] at H
           have LMc12 := Aside0.mk c12
           clear c12
           obtain ⟨y243, hy243⟩ : ∃ y_ : List (List (S34)), y_ = (x4_1 ++ [y240]) := ⟨_, rfl⟩
           replace H : (palinodelaw15_MergeMerges.l0 k1 l0 t233 y243 (wrap64 (x5_1 + 1))) = some r := by first | (rw [hy243]; with_reducible exact H) | (have H2_ := (Option.bind_some _ _).symm.trans H; rw [hy243]; with_reducible exact H2_) | (have H2_ := (Option.bind_some _ _).symm.trans H; with_reducible exact H2_) | with_reducible exact H | (rw [hy243]; exact H) | exact H
           have Ny243 := Aside0.mk hy243
           clear hy243
           have H' := Aside0.mk H
           clear H
           try go_wp2
           have n0_ := Aside0.mk (Kd.S_drew HO_4.out)
           have n1_ := Aside0.mk (Yd HB.out)
           clear HO_4
           clear HB
           have HO_4 := n0_
           have HB := n1_
           clear n0_ n1_
           have p234 : 0 ≤ (x5_1 : Int) := of_decide_eq_true (by first | (with_reducible assumption) | assumption)
           have q234 : x5_1 < (l0.length : Int) := of_decide_eq_true (by first | (with_reducible assumption) | assumption)
           obtain ⟨ad234, A234_0, c234_0, e234, hx234_0, hl234_0, hi234_0⟩ := at_L4 HR0.out x5_1 p234 q234
           have hw234_0 := hx234_0
           cases e234
           replace hx234_0 := (HB.out.cell (World.block_lt_of_cell? w _ hx234_0)).trans hx234_0
           have HR234_0 := Aside0.mk hi234_0
           have HC234_0 := Aside0.mk hl234_0
           clear hi234_0 hl234_0
           replace p234 := eq_true p234
           replace q234 := eq_true q234
           have p235 : 0 ≤ (x5_1 : Int) := of_decide_eq_true (by first | (with_reducible assumption) | assumption)
           have q235 : x5_1 < (l0.length : Int) := of_decide_eq_true (by first | (with_reducible assumption) | assumption)
           obtain ⟨ad235, A235_0, c235_0, e235, hx235_0, hl235_0, hi235_0⟩ := at_L4 HR0.out x5_1 p235 q235
           have hw235_0 := hx235_0
           obtain rfl : ad234 = ad235 := (by injection e235)
           replace hx235_0 := (HB.out.cell (World.block_lt_of_cell? w _ hx235_0)).trans hx235_0
           have HR235_0 := Aside0.mk hi235_0
           have HC235_0 := Aside0.mk hl235_0
           clear hi235_0 hl235_0
           replace p235 := eq_true p235
           replace q235 := eq_true q235
           have ea_ := Option.some.inj (hx234_0.symm.trans hx235_0)
           injection ea_ with ea_ en_ ec_
           subst ea_
           subst ec_
           clear en_
           have q14 : ((ji8) : Int) ≤ (((rd_L4 l0 x5_1).length : Int) : Int) := of_decide_eq_true (by first | (with_reducible assumption) | assumption)
           obtain ⟨i014, hi014, _, hsz14, _⟩ := info_parts info34
           have hroom14 : (rd_L4 l0 x5_1).length ≤ c234_0 := HC234_0.out
           have hC14 : Kd.C k34 _ A234_0 (rd_L4 l0 x5_1).length (rd_L4 l0 x5_1) := HR234_0.out
           have hcut14 := cut_to (P := Try.prog) 24 34 .i64 Try.underlying24 hi014 A234_0 (rd_L4 l0 x5_1).length c234_0 (ji8) (of_decide_eq_true (by first | (with_reducible assumption) | assumption)) q14 hroom14
           have hr14 := Kd.C_take (m := ((ji8) : Int).toNat) hC14 (by omega)
           have hy14 : y236.length = ((ji8) : Int).toNat := (by rw [Ny236.out, List.length_take]; omega)
           rw [← Ny236.out] at hr14
           rw [← hy14] at hcut14
           have HR239 := Aside0.mk hr14
           have HC239 := Aside0.mk (show y236.length ≤ c234_0 from by omega)
           clear hr14 hC14 hroom14 hi014 hsz14
           have KY14 := Aside0.mk hy14
           clear hy14
           replace q14 := eq_true q14
           refine start_ (n := 16) (S := fun w' => w'.cell? (ad234.add (x5_1).toNat) = some (.slice A234_0 (rd_L4 l0 x5_1).length c234_0) ∧ w'.cell? (ad234.add (x5_1).toNat) = some (.slice A234_0 (rd_L4 l0 x5_1).length c234_0)) (ds := []) #[false, false, false, false, false, false, false, false, false, false, false, false, false, false, false, false] (by kernel_rfl) rfl rfl ⟨((HB.out.cell (World.block_lt_of_cell? w _ hw234_0)).trans hw234_0), ((HB.out.cell (World.block_lt_of_cell? w _ hw235_0)).trans hw235_0)⟩ (fun hHeld => ?_); refine with_tabW palinodelaw15_MergeMerges.tab6 palinodelaw15_MergeMerges.bits6 (fun HT_ HW_ => ?_)
           generalize wr.drew = w13 at HO_4 HB HR234_0 HR235_0 HR239 hx234_0 hx235_0 hHeld ⊢
           refine pure_ (i := 0) (N := some 24) (v := ?_) (a' := ?_) #[true, false, false, false, false, false, false, false, false, false, false, false, false, false, false, false] rfl rfl (any_of HT_.out (by kernel_rfl)) (fun _ _ _ h => h) (Or.inl ⟨by rfl, ?_⟩) ?_ ?_
           rotate_left
           ·
            intro w'
            go_simp
            with_reducible rfl
           rotate_left
           ·
            simp only [Act.put, List.setIfInBounds_toArray, List.set_cons_zero, List.set_cons_succ, i64_w, i32_w]
            rfl
           refine pure_ (i := 1) (N := some 25) (v := ?_) (a' := ?_) #[true, true, false, false, false, false, false, false, false, false, false, false, false, false, false, false] rfl rfl (any_of HT_.out (by kernel_rfl)) (fun _ _ _ h => h) (Or.inl ⟨by rfl, ?_⟩) ?_ ?_
           rotate_left
           ·
            intro w'
            go_simp
            with_reducible rfl
           rotate_left
           ·
            simp only [Act.put, List.setIfInBounds_toArray, List.set_cons_zero, List.set_cons_succ, i64_w, i32_w]
            rfl
           refine pure_ (i := 2) (N := some 26) (v := ?_) (a' := ?_) #[true, true, true, false, false, false, false, false, false, false, false, false, false, false, false, false] rfl rfl (any_of HT_.out (by kernel_rfl)) (fun _ _ _ h => h) (Or.inl ⟨by rfl, ?_⟩) ?_ ?_
           rotate_left
           ·
            intro w'
            go_simp
            with_reducible rfl
           rotate_left
           ·
            simp only [Act.put, List.setIfInBounds_toArray, List.set_cons_zero, List.set_cons_succ, i64_w, i32_w]
            rfl
           refine pure_ (i := 3) (N := some 27) (v := ?_) (a' := ?_) #[true, true, true, true, false, false, false, false, false, false, false, false, false, false, false, false] rfl rfl (any_of HT_.out (by kernel_rfl)) (fun _ _ _ h => h) (Or.inl ⟨by rfl, ?_⟩) ?_ ?_
           rotate_left
           ·
            intro w'
            go_simp
            with_reducible rfl
           rotate_left
           ·
            simp only [Act.put, List.setIfInBounds_toArray, List.set_cons_zero, List.set_cons_succ, i64_w, i32_w]
            rfl
           refine pure_ (i := 5) (N := some 29) (v := ?_) (a' := ?_) #[true, true, true, true, false, true, false, false, false, false, false, false, false, false, false, false] rfl rfl (any_of HT_.out (by kernel_rfl)) (fun _ _ _ h => h) (Or.inl ⟨by rfl, ?_⟩) ?_ ?_
           rotate_left
           ·
            intro w'
            go_simp
            with_reducible rfl
           rotate_left
           ·
            simp only [Act.put, List.setIfInBounds_toArray, List.set_cons_zero, List.set_cons_succ, i64_w, i32_w]
            rfl
           refine pure_ (i := 6) (N := some 30) (v := ?_) (a' := ?_) #[true, true, true, true, false, true, true, false, false, false, false, false, false, false, false, false] rfl rfl (any_of HT_.out (by kernel_rfl)) (fun _ _ _ h => h) (Or.inl ⟨by rfl, ?_⟩) ?_ ?_
           rotate_left
           ·
            intro w'
            go_simp
            with_reducible rfl
           rotate_left
           ·
            simp only [Act.put, List.setIfInBounds_toArray, List.set_cons_zero, List.set_cons_succ, i64_w, i32_w]
            rfl
           refine pure_ (i := 7) (N := some 31) (v := ?_) (a' := ?_) #[true, true, true, true, false, true, true, true, false, false, false, false, false, false, false, false] rfl rfl (any_of HT_.out (by kernel_rfl)) (fun _ _ _ h => h) (Or.inl ⟨by rfl, ?_⟩) ?_ ?_
           rotate_left
           ·
            intro w'
            go_simp
            with_reducible rfl
           rotate_left
           ·
            simp only [Act.put, List.setIfInBounds_toArray, List.set_cons_zero, List.set_cons_succ, i64_w, i32_w]
            rfl
           refine take_ (i := 4) (N := some 28) (v := ?_) (a' := ?_) #[true, true, true, true, true, true, true, true, false, false, false, false, false, false, false, false] rfl rfl (take_ofW HT_.out HW_.out (by kernel_rfl)) (fun _ _ _ h => h) (Or.inl ⟨by rfl, ?_⟩) hHeld ?_ ?_
           rotate_left
           ·
            rintro w' ⟨s0, s1⟩
            go_simp
            with_reducible rfl
           rotate_left
           ·
            simp only [Act.put, List.setIfInBounds_toArray, List.set_cons_zero, List.set_cons_succ, i64_w, i32_w]
            rfl
           refine take_ (i := 8) (N := some 32) (v := ?_) (a' := ?_) #[true, true, true, true, true, true, true, true, true, false, false, false, false, false, false, false] rfl rfl (take_ofW HT_.out HW_.out (by kernel_rfl)) (fun _ _ _ h => h) (Or.inl ⟨by rfl, ?_⟩) hHeld ?_ ?_
           rotate_left
           ·
            rintro w' ⟨s0, s1⟩
            go_simp
            with_reducible rfl
           rotate_left
           ·
            simp only [Act.put, List.setIfInBounds_toArray, List.set_cons_zero, List.set_cons_succ, i64_w, i32_w]
            rfl
           refine pure_ (i := 9) (N := some 33) (v := ?_) (a' := ?_) #[true, true, true, true, true, true, true, true, true, true, false, false, false, false, false, false] rfl rfl (any_of HT_.out (by kernel_rfl)) (fun _ _ _ h => h) (Or.inl ⟨by rfl, ?_⟩) ?_ ?_
           rotate_left
           ·
            intro w'
            go_simp
            with_reducible rfl
           rotate_left
           ·
            simp only [Act.put, List.setIfInBounds_toArray, List.set_cons_zero, List.set_cons_succ, i64_w, i32_w]
            rfl
           refine pure_ (i := 10) (N := some 34) (v := ?_) (a' := ?_) #[true, true, true, true, true, true, true, true, true, true, true, false, false, false, false, false] rfl rfl (any_of HT_.out (by kernel_rfl)) (fun _ _ _ h => h) (Or.inl ⟨by rfl, ?_⟩) ?_ ?_
           rotate_left
           ·
            intro w'
            go_simp
            with_reducible rfl
           rotate_left
           ·
            simp only [Act.put, List.setIfInBounds_toArray, List.set_cons_zero, List.set_cons_succ, i64_w, i32_w]
            rfl
           refine pure_ (i := 11) (N := some 35) (v := ?_) (a' := ?_) #[true, true, true, true, true, true, true, true, true, true, true, true, false, false, false, false] rfl rfl (any_of HT_.out (by kernel_rfl)) (fun _ _ _ h => h) (Or.inl ⟨by rfl, ?_⟩) ?_ ?_
           rotate_left
           ·
            intro w'
            go_simp
            with_reducible rfl
           rotate_left
           ·
            simp only [Act.put, List.setIfInBounds_toArray, List.set_cons_zero, List.set_cons_succ, i64_w, i32_w]
            rfl
           refine one_ (i := 12) (N := some 36) #[true, true, true, true, true, true, true, true, true, true, true, true, true, false, false, false] rfl rfl (one_of HT_.out (by kernel_rfl)) (by decide) (fun K hK => ?_)
           refine Kd.R_append_rows_step k34 (w0 := w) w.heap.size (by rfl) (.const (.slice none 0 0)) (.tmp 35) 24 34 (.agg #[(.string ⟨#[]⟩), (.int .i64 0), (.bool false), (.string ⟨#[]⟩)]) 48 rfl Try.underlying24 info34 rfl (by decide) (by omega) (.slice none 0 0) ([] : List (S34)) y236 _ _ _ (fun _ => True) (fun _ => False) rfl rfl ?aO ?aR (fun _ _ h => h) (fun _ h => h.elim) ?aF ?aB ?aS ?aL ?_
           (case aR => repeat (first | exact (Kd.C_below HR239.out HB.out) | (with_reducible refine Kd.C_alloc ?_ _) | (with_reducible refine Kd.C_drewN ?_ _) | (with_reducible refine Kd.C_drew ?_)))
           (case aB => exact (Yr HB))
           (case aF => exact (fun _ _ => trivial))
           (case aO => exact ((Kd.R_nil _ _ _ _ (fun _ => True))))
           (case aS => exact (below_size (Yr HB)))
           (case aL => have := LMc11.out; omega)
           intro v241 w15 ho hb hg hat
           rw [← Ny240.out] at ho
           have n0_ := Aside0.mk (Kd.S_after (Kd.S_apart_nil (by (with_reducible repeat (first | apply Kd.S_alloc | apply Kd.S_drewN | apply Kd.S_drew)); exact HO_4.out)) hg hat)
           have n1_ := Aside0.mk (hb)
           have n2_ := Aside0.mk (ho)
           clear HO_4
           clear HB
           have HO_4 := n0_
           have HB := n1_
           have HO242 := n2_
           clear n0_ n1_ n2_
           clear ho hb hg hat
           obtain ⟨Ao17, co17, eo17⟩ := Kd.R_slice HO242.out
           (first | subst eo17 | (injection eo17 with f1_ f2_ f3_; have f4_ := f1_.symm; have f5_ := f3_.symm; clear f1_ f2_ f3_; subst f4_; subst f5_))
           refine hK.out _ _ ⟨((HB.out.cell (World.block_lt_of_cell? w _ hw234_0)).trans hw234_0), ((HB.out.cell (World.block_lt_of_cell? w _ hw235_0)).trans hw235_0)⟩ (fun hHeld => ?_)
           clear hK K
           refine norm_ (a' := ?_) ?_ ?_
           rotate_left
           ·
            show Act.put _ (some 36) _ = _
            simp only [Act.put, List.setIfInBounds_toArray, List.set_cons_zero, List.set_cons_succ, i64_w, i32_w]
            rfl
           refine one_ (i := 13) (N := some 37) #[true, true, true, true, true, true, true, true, true, true, true, true, true, true, false, false] rfl rfl (one_of HT_.out (by kernel_rfl)) (by decide) (fun K hK => ?_)
           refine value_ (w1 := ?_) (v := ?_) (by rfl) rfl ?_ ?_
           rotate_left 2
           ·
            go_simp
            constructor
            ·
             rfl
            ·
             rfl
           refine hK.out _ _ ⟨(World.cell?_alloc_lt _ _ _ (World.block_lt_of_cell? _ _ (((HB.out.cell (World.block_lt_of_cell? w _ hw234_0)).trans hw234_0)))).trans (((HB.out.cell (World.block_lt_of_cell? w _ hw234_0)).trans hw234_0)), (World.cell?_alloc_lt _ _ _ (World.block_lt_of_cell? _ _ (((HB.out.cell (World.block_lt_of_cell? w _ hw235_0)).trans hw235_0)))).trans (((HB.out.cell (World.block_lt_of_cell? w _ hw235_0)).trans hw235_0))⟩ (fun hHeld => ?_)
           clear hK K
           refine norm_ (a' := ?_) ?_ ?_
           rotate_left
           ·
            show Act.put _ (some 37) _ = _
            simp only [Act.put, List.setIfInBounds_toArray, List.set_cons_zero, List.set_cons_succ, i64_w, i32_w]
            rfl
           refine one_ (i := 14) (N := some 38) #[true, true, true, true, true, true, true, true, true, true, true, true, true, true, true, false] rfl rfl (one_of HT_.out (by kernel_rfl)) (by decide) (fun K hK => ?_)
           refine Kd.S_append_step (Kd.slice 34 k34) (w0 := w) w.heap.size (by rfl) (.tmp 24) (.tmp 37) 22 24 (.slice none 0 0) 24 rfl Try.underlying22 info24 rfl (by decide) (by omega) u4 x4_1 y240 [.slice Ao17 y240.length co17] (fun _ => True) (fun k_ => some k_ = (.slice Ao17 y240.length co17 : Value).ownBlock) rfl rfl ?aP (fun k_ hk_ => ((Kd.R_mono (ok' := fun k_ => ((fun _ => True)) k_ ∧ some k_ ≠ (u4 : Value).ownBlock) (Kd.R_apart' (HO242.out) (Kd.S_typed HO_4.out) (by decide)) (fun k_ hk => ⟨trivial, hk.2⟩))).1 k_ hk_.symm) ?aF ?aO ?aB ?aS ?aL ?_
           (case aP => exact Kd.M_row (Kd.R_mono (Kd.R_tight rfl (Kd.R_mono (ok' := fun k_ => ((fun _ => True)) k_ ∧ some k_ ≠ (u4 : Value).ownBlock) (Kd.R_apart' (HO242.out) (Kd.S_typed HO_4.out) (by decide)) (fun k_ hk => ⟨trivial, hk.2⟩))) (fun _ h_ => h_)))
           (case aB => exact (Yr HB))
           (case aF => exact (fun _ _ => trivial))
           (case aO => exact (by (with_reducible repeat (first | apply Kd.S_alloc | apply Kd.S_drewN | apply Kd.S_drew)); exact Kd.S_mono HO_4.out (fun k_ hk => ⟨trivial, fun e_ => hk.2 e_⟩)))
           (case aS => exact (below_size (Yr HB)))
           (case aL => have := LMc12.out; omega)
           intro v244 w16 ho hb hg hat
           rw [← Ny243.out] at ho
           have n0_ := Aside0.mk (hb)
           have n1_ := Aside0.mk (ho)
           clear HB
           clear HO_4
           clear HO242
           have HB := n0_
           have HO245 := n1_
           clear n0_ n1_
           clear ho hb hg hat
           refine hK.out _ _ ⟨((HB.out.cell (World.block_lt_of_cell? w _ hw234_0)).trans hw234_0), ((HB.out.cell (World.block_lt_of_cell? w _ hw235_0)).trans hw235_0)⟩ (fun hHeld => ?_)
           clear hK K
           refine norm_ (a' := ?_) ?_ ?_
           rotate_left
           ·
            show Act.put _ (some 38) _ = _
            simp only [Act.put, List.setIfInBounds_toArray, List.set_cons_zero, List.set_cons_succ, i64_w, i32_w]
            rfl
           refine pure_ (i := 15) (N := some 4) (v := ?_) (a' := ?_) #[true, true, true, true, true, true, true, true, true, true, true, true, true, true, true, true] rfl rfl (any_of HT_.out (by kernel_rfl)) (fun _ _ _ h => h) (Or.inl ⟨by rfl, ?_⟩) ?_ ?_
           rotate_left
           ·
            intro w'
            go_simp
            with_reducible rfl
           rotate_left
           ·
            simp only [Act.put, List.setIfInBounds_toArray, List.set_cons_zero, List.set_cons_succ, i64_w, i32_w]
            rfl
           refine done_ (done_of HT_.out (by kernel_rfl)) ?_
           try go_wp2
           go_roundg k1
           case measure => have := HK1.out; omega
           case rel => exact ⟨(y243), (wrap64 (x5_1 + 1)), (by first | rfl | (simp; done) | (simp [*]; done)), H', ⟨by have := HK1.out; omega⟩, ⟨by (with_reducible repeat (first | apply Kd.S_alloc | apply Kd.S_drewN | apply Kd.S_drew)); exact HO245.out⟩, ⟨Yr HB⟩⟩
          ·
           rw [if_neg c12] at H
           exact absurd H (by simp)
         ·
          rw [if_neg c11] at H
          exact absurd H (by simp)
        ·
         rw [if_neg c10] at H
         exact absurd H (by simp)
       ·
        rw [if_neg c9] at H
        exact absurd H (by simp)
      ·
       rw [if_neg c7] at H
       exact absurd H (by simp)
     ·
      rw [if_neg c6] at H
      have c6b0 : decide (x5_1 < 12) = false := decide_eq_false c6
      clear c6
      have H' := Aside0.mk H
      clear H
      go_wp2
      go_meet
      case rel => exact ⟨_, (x4_1), H', ⟨by have := HK1.out; first | omega | exact Nat.le_refl _⟩, ⟨by (with_reducible repeat (first | apply Kd.S_alloc | apply Kd.S_drewN | apply Kd.S_drew)); exact HO_4.out⟩, ⟨Yr HB⟩⟩
    ·
     rw [if_neg c5] at H
     have c5b0 : decide (x5_1 < (l0.length : Int)) = false := decide_eq_false c5
     clear c5
     (first | rw [c5b0] | (simp only [i64_w, i32_w]; rw [c5b0]) | skip)
     have H' := Aside0.mk H
     clear H
     go_wp2
     go_meet
     case rel => exact ⟨_, (x4_1), H', ⟨by have := HK1.out; first | omega | exact Nat.le_refl _⟩, ⟨by (with_reducible repeat (first | apply Kd.S_alloc | apply Kd.S_drewN | apply Kd.S_drew)); exact HO_4.out⟩, ⟨Yr HB⟩⟩
 case rest =>
  clear HC3
  try clear c1
  try clear q1
  try clear c2
  try clear p2
  try clear q2
  try clear hx2
  try clear c3
  try clear c5
  try clear c5b0
  try clear c6
  try clear c6b0
  try clear p6
  try clear c7
  try clear c7b0
  try clear c9
  try clear c9b0
  try clear c9b1
  try clear c10
  try clear c10b0
  try clear c10b1
  try clear c11
  try clear c12
  try clear q14
  try clear hx234_0
  try clear hx235_0
  try clear p2
  try clear p234
  try clear p235
  try clear q14
  try clear q234
  try clear q235
  obtain ⟨kq, x4_2, HA, HJ2, HO_4, HB⟩ := hcut
  cases kq with
  | zero => exact absurd HA.out (by simp [palinodelaw15_MergeMerges.j1])
  | succ kj2 =>
   have H := HA.out
   clear HA
   simp only [palinodelaw15_MergeMerges.j1] at H
   replace H := Option.bind_eq_some_iff.mp H
   obtain ⟨⟨t246, t247⟩, A180, H⟩ := H
   replace H : (palinodelaw15_MergeMerges.l1 kj2 t233 x4_2 t246 t247 0) = some r := H
   have A18 := Aside0.mk A180
   clear A180
   have H' := Aside0.mk H
   clear H
   obtain ⟨Ao19, co19, eo19⟩ := Kd.S_slice HO_4.out
   subst eo19
   go_wp2_with (first | ((with_reducible refine gate_callee (f := 11) rfl ?_); refine goesL_ (some 41) rfl rfl Try.func11 (by kernel_rfl) rfl #[.slice Ao19 x4_2.length co19] rfl (by (try simp only [List.map_toArray, List.map_cons, List.map_nil]); first | done | rfl | (simp only [List.length_drop, List.length_take]; rfl)) ?_; (with_reducible refine (palinoderef15_Merge.calls kj2 _ _ x4_2 t246 t247 _ ?side1 ?side2 A18.out).mono ?_); (case side1 => repeat (first | exact (Kd.S_reads' HO_4.out).2.2 | (with_reducible refine Kd.C_alloc ?_ _) | (with_reducible refine Kd.C_drewN ?_ _) | (with_reducible refine Kd.C_drew ?_))); (case side2 => exact (Kd.S_reads' HO_4.out).2.1); rintro e w20 ⟨v248, rfl, ho0, hb⟩; refine ⟨_, rfl, ?_⟩; have n0_ := Aside0.mk (Kd.S_elder' (by (with_reducible repeat (first | apply Kd.S_alloc | apply Kd.S_drewN | apply Kd.S_drew)); exact HO_4.out) (Kd.R_base ho0) hb); have n1_ := Aside0.mk (Kd.R_lower ho0 (below_size (Yr HB))); have n2_ := Aside0.mk (Yv HB hb); clear HO_4; clear HB; have HO_4 := n0_; have HO249 := n1_; have HB := n2_; clear n0_ n1_ n2_; (try clear hb); (try clear hb2); (try clear hk); (try clear hi); (try clear ho0)))
   go_loopg [8] kj2 (fun kq v8 w' => ∃ (x6_2 : List (S34)) (x8_2 : Int), v8 = .int .i64 x8_2 ∧ Aside0 (palinodelaw15_MergeMerges.l1 kq t233 x4_2 x6_2 t247 x8_2 = some r) ∧ Aside0 (kq ≤ kj2) ∧ Aside0 (Kd.S (Kd.slice 34 k34) 24 w' w.heap.size (fun k_ => some k_ ≠ (v248 : Value).ownBlock) (.slice Ao19 x4_2.length co19) x4_2) ∧ Aside0 (Kd.R k34 34 w' w.heap.size (fun _ => True) v248 x6_2) ∧ Aside0 (Below w.heap.size w w'))
   case atStart => exact ⟨(t246), (0), (by first | rfl | (simp; done) | (simp [*]; done)), H', ⟨Nat.le_refl _⟩, ⟨by (with_reducible repeat (first | apply Kd.S_alloc | apply Kd.S_drewN | apply Kd.S_drew)); exact Kd.S_mono HO_4.out (fun _ hk => hk.2)⟩, ⟨by (with_reducible repeat (first | apply Kd.R_alloc | apply Kd.R_drewN | apply Kd.R_drew)); exact HO249.out⟩, ⟨Yr HB⟩⟩
   case round =>
    clear H'
    try clear c1
    try clear q1
    try clear c2
    try clear p2
    try clear q2
    try clear hx2
    try clear c3
    try clear c5
    try clear c5b0
    try clear c6
    try clear c6b0
    try clear p6
    try clear c7
    try clear c7b0
    try clear c9
    try clear c9b0
    try clear c9b1
    try clear c10
    try clear c10b0
    try clear c10b1
    try clear c11
    try clear c12
    try clear q14
    try clear hx234_0
    try clear hx235_0
    try clear p2
    try clear p234
    try clear p235
    try clear p6
    try clear q1
    try clear q14
    try clear q2
    try clear q234
    try clear q235
    obtain ⟨x6_2, x8_2, rfl, HA, HK2, HO_4, HO_6, HB⟩ := hrel
    cases gk with
    | zero => exact absurd HA.out (by simp [palinodelaw15_MergeMerges.l1])
    | succ k2 =>
     have H := HA.out
     clear HA
     simp only [palinodelaw15_MergeMerges.l1] at H
     by_cases c21 : x8_2 < 2
     ·
      rw [if_pos c21] at H
      have c21b0 : decide (x8_2 < 2) = true := decide_eq_true c21
      clear c21
      replace H := Option.bind_eq_some_iff.mp H
      obtain ⟨⟨t250, t251⟩, A220, H⟩ := H
      replace H : ((palinodelaw15_entries.f k2 t250 x6_2).bind fun t254 => (if t254 = true then (if t251.isNone = true then (if (t247 != true) = true then (palinodelaw15_MergeMerges.j3 k2 t233 x4_2 x6_2 t247 x8_2 t250 true) else (if t247 = true then (palinodelaw15_MergeMerges.j3 k2 t233 x4_2 x6_2 t247 x8_2 t250 false) else ((palinodelaw15_is.f none 1).bind fun t256 => (palinodelaw15_MergeMerges.j3 k2 t233 x4_2 x6_2 t247 x8_2 t250 (!t256))))) else (if (t247 != false) = true then (palinodelaw15_MergeMerges.j3 k2 t233 x4_2 x6_2 t247 x8_2 t250 true) else (if t247 = true then (palinodelaw15_MergeMerges.j3 k2 t233 x4_2 x6_2 t247 x8_2 t250 false) else ((palinodelaw15_is.f (some (t251.getD 0)) 1).bind fun t257 => (palinodelaw15_MergeMerges.j3 k2 t233 x4_2 x6_2 t247 x8_2 t250 (!t257)))))) else (palinodelaw15_MergeMerges.j3 k2 t233 x4_2 x6_2 t247 x8_2 t250 true))) = some r := H
      have A22 := Aside0.mk A220
      clear A220
      replace H := Option.bind_eq_some_iff.mp H
      obtain ⟨t254, A230, H⟩ := H
      replace H : (if t254 = true then (if t251.isNone = true then (if (t247 != true) = true then (palinodelaw15_MergeMerges.j3 k2 t233 x4_2 x6_2 t247 x8_2 t250 true) else (if t247 = true then (palinodelaw15_MergeMerges.j3 k2 t233 x4_2 x6_2 t247 x8_2 t250 false) else ((palinodelaw15_is.f none 1).bind fun t256 => (palinodelaw15_MergeMerges.j3 k2 t233 x4_2 x6_2 t247 x8_2 t250 (!t256))))) else (if (t247 != false) = true then (palinodelaw15_MergeMerges.j3 k2 t233 x4_2 x6_2 t247 x8_2 t250 true) else (if t247 = true then (palinodelaw15_MergeMerges.j3 k2 t233 x4_2 x6_2 t247 x8_2 t250 false) else ((palinodelaw15_is.f (some (t251.getD 0)) 1).bind fun t257 => (palinodelaw15_MergeMerges.j3 k2 t233 x4_2 x6_2 t247 x8_2 t250 (!t257)))))) else (palinodelaw15_MergeMerges.j3 k2 t233 x4_2 x6_2 t247 x8_2 t250 true)) = some r := H
      have A23 := Aside0.mk A230
      clear A230
      have HC24 := Aside0.mk H
      clear H
      go_upto_region 13 with (first | ((with_reducible refine gate_callee (f := 12) rfl ?_); refine goesL_ (some 50) rfl rfl Try.func12 (by kernel_rfl) rfl #[.slice Ao19 x4_2.length co19] rfl (by (try simp only [List.map_toArray, List.map_cons, List.map_nil]); first | done | rfl | (simp only [List.length_drop, List.length_take]; rfl)) ?_; (with_reducible refine (merge_Merge.calls _ _ x4_2 t250 t251 _ ?side1 ?side2 A22.out).mono ?_); (case side1 => repeat (first | exact (Kd.S_reads' HO_4.out).2.2 | (with_reducible refine Kd.C_alloc ?_ _) | (with_reducible refine Kd.C_drewN ?_ _) | (with_reducible refine Kd.C_drew ?_))); (case side2 => exact (Kd.S_reads' HO_4.out).2.1); rintro e w25 ⟨v252, rfl, ho0, hb⟩; refine ⟨_, rfl, ?_⟩; have n0_ := Aside0.mk (Kd.S_elder' (by (with_reducible repeat (first | apply Kd.S_alloc | apply Kd.S_drewN | apply Kd.S_drew)); exact HO_4.out) (Kd.R_base ho0) hb); have n1_ := Aside0.mk (Kd.R_elder' (by (with_reducible repeat (first | apply Kd.R_alloc | apply Kd.R_drewN | apply Kd.R_drew)); exact HO_6.out) (Kd.R_base ho0) hb); have n2_ := Aside0.mk (Kd.R_lower (Kd.R_new' ho0 (Kd.R_lt (by (with_reducible repeat (first | apply Kd.R_alloc | apply Kd.R_drewN | apply Kd.R_drew)); exact HO_6.out))) (below_size (Yr HB))); have n3_ := Aside0.mk (Yv HB hb); clear HO_4; clear HO_6; clear HB; have HO_4 := n0_; have HO_6 := n1_; have HO253 := n2_; have HB := n3_; clear n0_ n1_ n2_ n3_; (try clear hb); (try clear hb2); (try clear hk); (try clear hi); (try clear ho0); (try simp only [errW_none, errW_some]); obtain ⟨Ao26, co26, eo26⟩ := Kd.R_slice HO253.out; subst eo26; obtain ⟨Ao27, co27, eo27⟩ := Kd.R_slice HO_6.out; subst eo27) | ((with_reducible refine gate_callee (f := 13) rfl ?_); refine goesL_ (some 55) rfl rfl Try.func13 (by kernel_rfl) rfl #[.slice Ao26 t250.length co26, .slice Ao27 x6_2.length co27] rfl (by (try simp only [List.map_toArray, List.map_cons, List.map_nil]); first | done | rfl | (simp only [List.length_drop, List.length_take]; rfl)) ?_; (with_reducible refine (palinodelaw15_entries.calls k2 _ _ t250 _ _ x6_2 t254 _ ?side1 ?side2 ?side3 ?side4 A23.out).mono ?_); (case side1 => repeat (first | exact (Kd.R_reads' HO253.out).2.2 | (with_reducible refine Kd.C_alloc ?_ _) | (with_reducible refine Kd.C_drewN ?_ _) | (with_reducible refine Kd.C_drew ?_))); (case side2 => exact (Kd.R_reads' HO253.out).2.1); (case side3 => repeat (first | exact (Kd.R_reads' HO_6.out).2.2 | (with_reducible refine Kd.C_alloc ?_ _) | (with_reducible refine Kd.C_drewN ?_ _) | (with_reducible refine Kd.C_drew ?_))); (case side4 => exact (Kd.R_reads' HO_6.out).2.1); rintro e w' ⟨rfl, ⟨nd, rfl⟩⟩; refine ⟨_, rfl, ?_⟩))
      (try simp only [Act.put, List.setIfInBounds_toArray, List.set_cons_zero, List.set_cons_succ])
      go_cut [72] (fun v72 wc => ∃ (kq : Nat) (x72_23 : Bool), v72 = .bool x72_23 ∧ Aside0 (palinodelaw15_MergeMerges.j3 kq t233 x4_2 x6_2 t247 x8_2 t250 x72_23 = some r) ∧ Aside0 (kq ≤ k2) ∧ Aside0 (Kd.S (Kd.slice 34 k34) 24 wc w.heap.size (fun k_ => some k_ ≠ ((.slice Ao27 x6_2.length co27) : Value).ownBlock ∧ some k_ ≠ ((.slice Ao26 t250.length co26) : Value).ownBlock) (.slice Ao19 x4_2.length co19) x4_2) ∧ Aside0 (Kd.R k34 34 wc w.heap.size (fun k_ => some k_ ≠ ((.slice Ao26 t250.length co26) : Value).ownBlock) (.slice Ao27 x6_2.length co27) x6_2) ∧ Aside0 (Kd.R k34 34 wc w.heap.size (fun k_ => some k_ ≠ ((.slice Ao27 x6_2.length co27) : Value).ownBlock) (.slice Ao26 t250.length co26) t250) ∧ Aside0 (Below w.heap.size w wc))
      case first =>
       have H := HC24.out
       clear HC24
       by_cases c28 : t254 = true
       ·
        subst c28
        have H1 : (if t251.isNone = true then (if (t247 != true) = true then (palinodelaw15_MergeMerges.j3 k2 t233 x4_2 x6_2 t247 x8_2 t250 true) else (if t247 = true then (palinodelaw15_MergeMerges.j3 k2 t233 x4_2 x6_2 t247 x8_2 t250 false) else ((palinodelaw15_is.f none 1).bind fun t256 => (palinodelaw15_MergeMerges.j3 k2 t233 x4_2 x6_2 t247 x8_2 t250 (!t256))))) else (if (t247 != false) = true then (palinodelaw15_MergeMerges.j3 k2 t233 x4_2 x6_2 t247 x8_2 t250 true) else (if t247 = true then (palinodelaw15_MergeMerges.j3 k2 t233 x4_2 x6_2 t247 x8_2 t250 false) else ((palinodelaw15_is.f (some (t251.getD 0)) 1).bind fun t257 => (palinodelaw15_MergeMerges.j3 k2 t233 x4_2 x6_2 t247 x8_2 t250 (!t257)))))) = some r := by rw [if_pos rfl] at H; exact H
        clear H
        have H := H1
        clear H1
        rcases t251 with _ | q255
        ·
         have H1 : (if (t247 != true) = true then (palinodelaw15_MergeMerges.j3 k2 t233 x4_2 x6_2 t247 x8_2 t250 true) else (if t247 = true then (palinodelaw15_MergeMerges.j3 k2 t233 x4_2 x6_2 t247 x8_2 t250 false) else ((palinodelaw15_is.f none 1).bind fun t256 => (palinodelaw15_MergeMerges.j3 k2 t233 x4_2 x6_2 t247 x8_2 t250 (!t256))))) = some r := by rw [if_pos (show (none : Option Int).isNone = true by rfl)] at H; exact H
         clear H
         have H := H1
         clear H1
         try simp only [errW_none, errW_some]
         by_cases c29 : (t247 != true) = true
         ·
          rw [if_pos c29] at H
          have c29b0 : (t247 != true) = true := c29
          (try (have c29b1 : decide (t247 = true) = false := by simpa using c29))
          (try (have c29b2 : (t247 == true) = false := by simpa using c29))
          (try (have c29b3 : ¬ (t247 = true) := by simpa using c29))
          clear c29
          (first | rw [c29b0] | (simp only [i64_w, i32_w]; rw [c29b0]) | skip)
          have H' := Aside0.mk H
          clear H
          go_wp2
          go_meet
          case rel => exact ⟨_, (true), (by first | rfl | (simp; done) | (simp [*]; done)), H', ⟨by have := HJ2.out; have := HK2.out; first | omega | exact Nat.le_refl _⟩, ⟨by (with_reducible repeat (first | apply Kd.S_alloc | apply Kd.S_drewN | apply Kd.S_drew)); exact HO_4.out⟩, ⟨by (with_reducible repeat (first | apply Kd.R_alloc | apply Kd.R_drewN | apply Kd.R_drew)); exact Kd.R_mono HO_6.out (fun _ hk => hk.2)⟩, ⟨by (with_reducible repeat (first | apply Kd.R_alloc | apply Kd.R_drewN | apply Kd.R_drew)); exact Kd.R_mono HO253.out (fun _ hk => hk.2)⟩, ⟨Yr HB⟩⟩
         ·
          rw [if_neg c29] at H
          have c29b0 : (t247 != true) = false := by simpa using c29
          (try (have c29b1 : decide (t247 = true) = true := by simpa using c29))
          (try (have c29b2 : (t247 == true) = true := by simpa using c29))
          clear c29
          (first | rw [c29b0] | (simp only [i64_w, i32_w]; rw [c29b0]) | skip)
          by_cases c30 : t247 = true
          ·
           subst c30
           have H1 : (palinodelaw15_MergeMerges.j3 k2 t233 x4_2 x6_2 true x8_2 t250 false) = some r := by rw [if_pos rfl] at H; exact H
           clear H
           have H := H1
           clear H1
           have H' := Aside0.mk H
           clear H
           go_wp2
           go_meet
           case rel => exact ⟨_, (false), (by first | rfl | (simp; done) | (simp [*]; done)), H', ⟨by have := HJ2.out; have := HK2.out; first | omega | exact Nat.le_refl _⟩, ⟨by (with_reducible repeat (first | apply Kd.S_alloc | apply Kd.S_drewN | apply Kd.S_drew)); exact HO_4.out⟩, ⟨by (with_reducible repeat (first | apply Kd.R_alloc | apply Kd.R_drewN | apply Kd.R_drew)); exact Kd.R_mono HO_6.out (fun _ hk => hk.2)⟩, ⟨by (with_reducible repeat (first | apply Kd.R_alloc | apply Kd.R_drewN | apply Kd.R_drew)); exact Kd.R_mono HO253.out (fun _ hk => hk.2)⟩, ⟨Yr HB⟩⟩
          ·
           replace c30 := Bool.eq_false_iff.mpr c30
           subst c30
           have H1 : ((palinodelaw15_is.f none 1).bind fun t256 => (palinodelaw15_MergeMerges.j3 k2 t233 x4_2 x6_2 false x8_2 t250 (!t256))) = some r := by rw [if_neg (show ¬ (false = true) by decide)] at H; exact H
           clear H
           have H := H1
           clear H1
           replace H := Option.bind_eq_some_iff.mp H
           obtain ⟨t256, A310, H⟩ := H
           replace H : (palinodelaw15_MergeMerges.j3 k2 t233 x4_2 x6_2 false x8_2 t250 (!t256)) = some r := H
           have A31 := Aside0.mk A310
           clear A310
           have H' := Aside0.mk H
           clear H
           have CA31 := fun W => palinodelaw15_is.calls none 1 t256 W A31.out
           try simp only [errW_none, errW_some] at CA31
           go_wp2_with (first | (go_at_call 14; (with_reducible refine (CA31 _).mono ?_); rintro e w' ⟨rfl, ⟨nd, rfl⟩⟩))
           go_meet
           case rel => exact ⟨_, (!t256), (by first | rfl | (simp; done) | (simp [*]; done)), H', ⟨by have := HJ2.out; have := HK2.out; first | omega | exact Nat.le_refl _⟩, ⟨by (with_reducible repeat (first | apply Kd.S_alloc | apply Kd.S_drewN | apply Kd.S_drew)); exact HO_4.out⟩, ⟨by (with_reducible repeat (first | apply Kd.R_alloc | apply Kd.R_drewN | apply Kd.R_drew)); exact Kd.R_mono HO_6.out (fun _ hk => hk.2)⟩, ⟨by (with_reducible repeat (first | apply Kd.R_alloc | apply Kd.R_drewN | apply Kd.R_drew)); exact Kd.R_mono HO253.out (fun _ hk => hk.2)⟩, ⟨Yr HB⟩⟩
        ·
         have H1 : (if (t247 != false) = true then (palinodelaw15_MergeMerges.j3 k2 t233 x4_2 x6_2 t247 x8_2 t250 true) else (if t247 = true then (palinodelaw15_MergeMerges.j3 k2 t233 x4_2 x6_2 t247 x8_2 t250 false) else ((palinodelaw15_is.f (some q255) 1).bind fun t257 => (palinodelaw15_MergeMerges.j3 k2 t233 x4_2 x6_2 t247 x8_2 t250 (!t257))))) = some r := by rw [if_neg (show ¬ (some q255).isNone = true by simp)] at H; exact H
         clear H
         have H := H1
         clear H1
         try simp only [errW_none, errW_some]
         by_cases c32 : (t247 != false) = true
         ·
          rw [if_pos c32] at H
          have c32b0 : (t247 != false) = true := c32
          (try (have c32b1 : decide (t247 = false) = false := by simpa using c32))
          (try (have c32b2 : (t247 == false) = false := by simpa using c32))
          (try (have c32b3 : ¬ (t247 = false) := by simpa using c32))
          clear c32
          have H' := Aside0.mk H
          clear H
          go_wp2
          go_meet
          case rel => exact ⟨_, (true), (by first | rfl | (simp; done) | (simp [*]; done)), H', ⟨by have := HJ2.out; have := HK2.out; first | omega | exact Nat.le_refl _⟩, ⟨by (with_reducible repeat (first | apply Kd.S_alloc | apply Kd.S_drewN | apply Kd.S_drew)); exact HO_4.out⟩, ⟨by (with_reducible repeat (first | apply Kd.R_alloc | apply Kd.R_drewN | apply Kd.R_drew)); exact Kd.R_mono HO_6.out (fun _ hk => hk.2)⟩, ⟨by (with_reducible repeat (first | apply Kd.R_alloc | apply Kd.R_drewN | apply Kd.R_drew)); exact Kd.R_mono HO253.out (fun _ hk => hk.2)⟩, ⟨Yr HB⟩⟩
         ·
          rw [if_neg c32] at H
          have c32b0 : (t247 != false) = false := by simpa using c32
          (try (have c32b1 : decide (t247 = false) = true := by simpa using c32))
          (try (have c32b2 : (t247 == false) = true := by simpa using c32))
          clear c32
          by_cases c33 : t247 = true
          ·
           subst c33
           have H1 : (palinodelaw15_MergeMerges.j3 k2 t233 x4_2 x6_2 true x8_2 t250 false) = some r := by rw [if_pos rfl] at H; exact H
           clear H
           have H := H1
           clear H1
           have H' := Aside0.mk H
           clear H
           go_wp2
           go_meet
           case rel => exact ⟨_, (false), (by first | rfl | (simp; done) | (simp [*]; done)), H', ⟨by have := HJ2.out; have := HK2.out; first | omega | exact Nat.le_refl _⟩, ⟨by (with_reducible repeat (first | apply Kd.S_alloc | apply Kd.S_drewN | apply Kd.S_drew)); exact HO_4.out⟩, ⟨by (with_reducible repeat (first | apply Kd.R_alloc | apply Kd.R_drewN | apply Kd.R_drew)); exact Kd.R_mono HO_6.out (fun _ hk => hk.2)⟩, ⟨by (with_reducible repeat (first | apply Kd.R_alloc | apply Kd.R_drewN | apply Kd.R_drew)); exact Kd.R_mono HO253.out (fun _ hk => hk.2)⟩, ⟨Yr HB⟩⟩
          ·
           replace c33 := Bool.eq_false_iff.mpr c33
           subst c33
           have H1 : ((palinodelaw15_is.f (some q255) 1).bind fun t257 => (palinodelaw15_MergeMerges.j3 k2 t233 x4_2 x6_2 false x8_2 t250 (!t257))) = some r := by rw [if_neg (show ¬ (false = true) by decide)] at H; exact H
           clear H
           have H := H1
           clear H1
           replace H := Option.bind_eq_some_iff.mp H
           obtain ⟨t257, A340, H⟩ := H
           replace H : (palinodelaw15_MergeMerges.j3 k2 t233 x4_2 x6_2 false x8_2 t250 (!t257)) = some r := H
           have A34 := Aside0.mk A340
           clear A340
           have H' := Aside0.mk H
           clear H
           have CA34 := fun W => palinodelaw15_is.calls (some q255) 1 t257 W A34.out
           try simp only [errW_none, errW_some] at CA34
           go_wp2_with (first | (go_at_call 14; (with_reducible refine (CA34 _).mono ?_); rintro e w' ⟨rfl, ⟨nd, rfl⟩⟩))
           go_meet
           case rel => exact ⟨_, (!t257), (by first | rfl | (simp; done) | (simp [*]; done)), H', ⟨by have := HJ2.out; have := HK2.out; first | omega | exact Nat.le_refl _⟩, ⟨by (with_reducible repeat (first | apply Kd.S_alloc | apply Kd.S_drewN | apply Kd.S_drew)); exact HO_4.out⟩, ⟨by (with_reducible repeat (first | apply Kd.R_alloc | apply Kd.R_drewN | apply Kd.R_drew)); exact Kd.R_mono HO_6.out (fun _ hk => hk.2)⟩, ⟨by (with_reducible repeat (first | apply Kd.R_alloc | apply Kd.R_drewN | apply Kd.R_drew)); exact Kd.R_mono HO253.out (fun _ hk => hk.2)⟩, ⟨Yr HB⟩⟩
       ·
        replace c28 := Bool.eq_false_iff.mpr c28
        subst c28
        have H1 : (palinodelaw15_MergeMerges.j3 k2 t233 x4_2 x6_2 t247 x8_2 t250 true) = some r := by rw [if_neg (show ¬ (false = true) by decide)] at H; exact H
        clear H
        have H := H1
        clear H1
        have H' := Aside0.mk H
        clear H
        go_wp2
        go_meet
        case rel => exact ⟨_, (true), (by first | rfl | (simp; done) | (simp [*]; done)), H', ⟨by have := HJ2.out; have := HK2.out; first | omega | exact Nat.le_refl _⟩, ⟨by (with_reducible repeat (first | apply Kd.S_alloc | apply Kd.S_drewN | apply Kd.S_drew)); exact HO_4.out⟩, ⟨by (with_reducible repeat (first | apply Kd.R_alloc | apply Kd.R_drewN | apply Kd.R_drew)); exact Kd.R_mono HO_6.out (fun _ hk => hk.2)⟩, ⟨by (with_reducible repeat (first | apply Kd.R_alloc | apply Kd.R_drewN | apply Kd.R_drew)); exact Kd.R_mono HO253.out (fun _ hk => hk.2)⟩, ⟨Yr HB⟩⟩
      case rest =>
       clear HC24
       try clear c1
       try clear q1
       try clear c2
       try clear p2
       try clear q2
       try clear hx2
       try clear c3
       try clear c5
       try clear c5b0
       try clear c6
       try clear c6b0
       try clear p6
       try clear c7
       try clear c7b0
       try clear c9
       try clear c9b0
       try clear c9b1
       try clear c10
       try clear c10b0
       try clear c10b1
       try clear c11
       try clear c12
       try clear c13
       try clear q14
       try clear c21
       try clear c21b0
       try clear c23
       try clear p23
       try clear q23
       try clear hx23
       try clear q25
       try clear c28
       try clear c29
       try clear c29b0
       try clear c29b1
       try clear c29b2
       try clear c30
       try clear c32
       try clear c32b0
       try clear c32b1
       try clear c32b2
       try clear c33
       try clear hx234_0
       try clear hx235_0
       try clear p2
       try clear p234
       try clear p235
       try clear p6
       try clear q1
       try clear q14
       try clear q2
       try clear q234
       try clear q235
       try clear q255
       obtain ⟨kq, x72_23, rfl, HA, HJ23, HO_4, HO_6, HO_9, HB⟩ := hcut
       cases kq with
       | zero => exact absurd HA.out (by simp [palinodelaw15_MergeMerges.j3])
       | succ kj23 =>
        have H := HA.out
        clear HA
        simp only [palinodelaw15_MergeMerges.j3] at H
        by_cases c35 : x72_23 = true
        ·
         subst c35
         have H1 : (some false) = some r := by rw [if_pos rfl] at H; exact H
         clear H
         have H := H1
         clear H1
         exact absurd ((Option.some.inj H).trans HRT_.out) (by decide)
        ·
         replace c35 := Bool.eq_false_iff.mpr c35
         subst c35
         have H1 : (palinodelaw15_MergeMerges.l2 kj23 t233 x4_2 x6_2 t247 x8_2 t250 0) = some r := by rw [if_neg (show ¬ (false = true) by decide)] at H; exact H
         clear H
         have H := H1
         clear H1
         have H' := Aside0.mk H
         clear H
         go_wp2
         go_loopg [12] kj23 (fun kq v12 w' => ∃ (x9_4 : List (S34)) (x12_4 : Int), v12 = .int .i64 x12_4 ∧ Aside0 (palinodelaw15_MergeMerges.l2 kq t233 x4_2 x6_2 t247 x8_2 x9_4 x12_4 = some r) ∧ Aside0 (kq ≤ kj23) ∧ Aside0 (Kd.S (Kd.slice 34 k34) 24 w' w.heap.size (fun k_ => some k_ ≠ ((.slice Ao27 x6_2.length co27) : Value).ownBlock ∧ some k_ ≠ ((.slice Ao26 t250.length co26) : Value).ownBlock) (.slice Ao19 x4_2.length co19) x4_2) ∧ Aside0 (Kd.R k34 34 w' w.heap.size (fun k_ => some k_ ≠ ((.slice Ao26 t250.length co26) : Value).ownBlock) (.slice Ao27 x6_2.length co27) x6_2) ∧ Aside0 (Kd.R k34 34 w' w.heap.size (fun k_ => some k_ ≠ ((.slice Ao27 x6_2.length co27) : Value).ownBlock) (.slice Ao26 t250.length co26) x9_4) ∧ Aside0 (Below w.heap.size w w'))
         case atStart => exact ⟨(t250), (0), (by first | rfl | (simp; done) | (simp [*]; done)), H', ⟨Nat.le_refl _⟩, ⟨by (with_reducible repeat (first | apply Kd.S_alloc | apply Kd.S_drewN | apply Kd.S_drew)); exact HO_4.out⟩, ⟨by (with_reducible repeat (first | apply Kd.R_alloc | apply Kd.R_drewN | apply Kd.R_drew)); exact HO_6.out⟩, ⟨by (with_reducible repeat (first | apply Kd.R_alloc | apply Kd.R_drewN | apply Kd.R_drew)); exact HO_9.out⟩, ⟨Yr HB⟩⟩
         case round =>
          clear H'
          try clear c1
          try clear q1
          try clear c2
          try clear p2
          try clear q2
          try clear hx2
          try clear c3
          try clear c5
          try clear c5b0
          try clear c6
          try clear c6b0
          try clear p6
          try clear c7
          try clear c7b0
          try clear c9
          try clear c9b0
          try clear c9b1
          try clear c10
          try clear c10b0
          try clear c10b1
          try clear c11
          try clear c12
          try clear c13
          try clear q14
          try clear c21
          try clear c21b0
          try clear c23
          try clear p23
          try clear q23
          try clear hx23
          try clear q25
          try clear c28
          try clear c29
          try clear c29b0
          try clear c29b1
          try clear c29b2
          try clear c30
          try clear c32
          try clear c32b0
          try clear c32b1
          try clear c32b2
          try clear c33
          try clear c35
          try clear hx234_0
          try clear hx235_0
          try clear p2
          try clear p23
          try clear p234
          try clear p235
          try clear p6
          try clear q1
          try clear q14
          try clear q2
          try clear q23
          try clear q234
          try clear q235
          try clear q25
          try clear q255
          obtain ⟨x9_4, x12_4, rfl, HA, HK4, HO_4, HO_6, HO_9, HB⟩ := hrel
          have hl9_4 := (Kd.R_reads' HO_9.out).1
          rw [hl9_4] at HO_9
          (try simp only [hl9_4])
          (try simp only [hl9_4] at HO_4)
          (try simp only [hl9_4] at HO_6)
          cases gk with
          | zero => exact absurd HA.out (by simp [palinodelaw15_MergeMerges.l2])
          | succ k4 =>
           have H := HA.out
           clear HA
           simp only [palinodelaw15_MergeMerges.l2] at H
           by_cases c36 : x12_4 < (x9_4.length : Int)
           ·
            rw [if_pos c36] at H
            have c36b0 : decide (x12_4 < (x9_4.length : Int)) = true := decide_eq_true c36
            clear c36
            by_cases c37 : 0 ≤ x12_4
            ·
             rw [if_pos c37] at H
             have c37b0 : decide (0 ≤ x12_4) = true := decide_eq_true c37
             clear c37
             obtain ⟨y258, hy258⟩ : ∃ y_ : List (S34), y_ = (x9_4.set (x12_4 : Int).toNat (⟨(⟨#[]⟩ : ByteArray), 0, false, (⟨#[]⟩ : ByteArray)⟩ : S34)) := ⟨_, rfl⟩
             replace H : (palinodelaw15_MergeMerges.l2 k4 t233 x4_2 x6_2 t247 x8_2 y258 (wrap64 (x12_4 + 1))) = some r := by first | (rw [hy258]; with_reducible exact H) | (have H2_ := (Option.bind_some _ _).symm.trans H; rw [hy258]; with_reducible exact H2_) | (have H2_ := (Option.bind_some _ _).symm.trans H; with_reducible exact H2_) | with_reducible exact H | (rw [hy258]; exact H) | exact H
             have Ny258 := Aside0.mk hy258
             clear hy258
             have H' := Aside0.mk H
             clear H
             have p38 : 0 ≤ (x12_4 : Int) := of_decide_eq_true (by first | (with_reducible assumption) | assumption)
             have q38 : (x12_4 : Int) < ((x9_4.length : Int) : Int) := of_decide_eq_true (by first | (with_reducible assumption) | assumption)
             obtain ⟨go38, co38, eo38, gb38, gl38, cl38, HG38⟩ := Kd.R_form HO_9.out (by omega)
             (first | cases eo38 | (injection eo38 with ea_ en_ ec_; (first | subst ea_ | (injection ea_ with ea_; subst ea_)); subst ec_; clear en_))
             have GB38 := Aside0.mk gb38
             have GG38 := Aside0.mk HG38
             clear gb38 gl38 HG38
             obtain ⟨ce38, hcl38, hM38, hcc38, hfr38⟩ := Kd.R_elem HO_9.out z34 (x12_4 : Int) p38 q38
             obtain rfl := k34_openM hM38
             have hx38_0 : wr.cell? ⟨go38, (x12_4 : Int).toNat * 4, none⟩ = some (.string ((rd_T34 x9_4 x12_4).f0)) := hcc38 0 _ rfl
             have hx38_1 : wr.cell? ⟨go38, (x12_4 : Int).toNat * 4 + 1, none⟩ = some (.int .i64 ((rd_T34 x9_4 x12_4).f1)) := hcc38 1 _ rfl
             have hx38_2 : wr.cell? ⟨go38, (x12_4 : Int).toNat * 4 + 2, none⟩ = some (.bool ((rd_T34 x9_4 x12_4).f2)) := hcc38 2 _ rfl
             have hx38_3 : wr.cell? ⟨go38, (x12_4 : Int).toNat * 4 + 3, none⟩ = some (.string ((rd_T34 x9_4 x12_4).f3)) := hcc38 3 _ rfl
             have hf38_0 : wr.frozen? ⟨go38, (x12_4 : Int).toNat * 4, none⟩ = false := hfr38 0
             have hf38_1 : wr.frozen? ⟨go38, (x12_4 : Int).toNat * 4 + 1, none⟩ = false := hfr38 1
             have hf38_2 : wr.frozen? ⟨go38, (x12_4 : Int).toNat * 4 + 2, none⟩ = false := hfr38 2
             have hf38_3 : wr.frozen? ⟨go38, (x12_4 : Int).toNat * 4 + 3, none⟩ = false := hfr38 3
             clear hcl38 hcc38 hfr38 hM38
             replace p38 := eq_true p38
             replace q38 := eq_true q38
             have HX39 := Aside0.mk (show Kd.R k34 34 wr w.heap.size (fun k_ => some k_ ≠ (.slice Ao27 x6_2.length co27 : Value).ownBlock) (.slice (some ⟨go38, 0, none⟩) x9_4.length co26) x9_4 from (by (with_reducible repeat (first | apply Kd.R_alloc | apply Kd.R_drewN | apply Kd.R_drew)); exact HO_9.out))
             obtain ⟨ce39, hcl39, hM39, hcc39, hfr39⟩ := Kd.R_elem HX39.out z34 (x12_4 : Int) (of_decide_eq_true (by first | (with_reducible assumption) | assumption)) (by have h_ : (x12_4 : Int) < ((x9_4.length : Int) : Int) := of_decide_eq_true (by first | (with_reducible assumption) | assumption); first | exact h_ | (have e_ := (Kd.R_reads' HO_9.out).1; omega) | simpa using h_)
             obtain rfl := k34_openM hM39
             have HP39 := Kd.R_seg HX39.out (x12_4 : Int) (of_decide_eq_true (by first | (with_reducible assumption) | assumption)) (by have h_ : (x12_4 : Int) < ((x9_4.length : Int) : Int) := of_decide_eq_true (by first | (with_reducible assumption) | assumption); first | exact h_ | (have e_ := (Kd.R_reads' HO_9.out).1; omega) | simpa using h_) (seg := [.string (⟨#[]⟩ : ByteArray), .int .i64 0, .bool false, .string (⟨#[]⟩ : ByteArray)]) (j := 0) hcl39 hcc39 (show 4 ≤ 4 from by decide) (x' := (⟨(⟨#[]⟩ : ByteArray), 0, false, (⟨#[]⟩ : ByteArray)⟩ : S34)) (k34_mkM _ _ _ (⟨(⟨#[]⟩ : ByteArray), 0, false, (⟨#[]⟩ : ByteArray)⟩ : S34) ) (fun _ hk => hk)
             have hx39_0 := hcc39 0 _ rfl
             (try simp only [show (k34).sz = 4 from rfl, Nat.mul_one, Nat.add_zero] at hx39_0)
             have hf39_0 := hfr39 0
             (try simp only [show (k34).sz = 4 from rfl, Nat.mul_one, Nat.add_zero] at hf39_0)
             have hx39_1 := hcc39 1 _ rfl
             (try simp only [show (k34).sz = 4 from rfl, Nat.mul_one, Nat.add_zero] at hx39_1)
             have hf39_1 := hfr39 1
             (try simp only [show (k34).sz = 4 from rfl, Nat.mul_one, Nat.add_zero] at hf39_1)
             have hx39_2 := hcc39 2 _ rfl
             (try simp only [show (k34).sz = 4 from rfl, Nat.mul_one, Nat.add_zero] at hx39_2)
             have hf39_2 := hfr39 2
             (try simp only [show (k34).sz = 4 from rfl, Nat.mul_one, Nat.add_zero] at hf39_2)
             have hx39_3 := hcc39 3 _ rfl
             (try simp only [show (k34).sz = 4 from rfl, Nat.mul_one, Nat.add_zero] at hx39_3)
             have hf39_3 := hfr39 3
             (try simp only [show (k34).sz = 4 from rfl, Nat.mul_one, Nat.add_zero] at hf39_3)
             clear hcl39 hcc39 hfr39 hM39
             go_wp2_with (first | ((with_reducible refine gate_store (t := 34) (p := 82) rfl ?_); refine store_event (t := 34) (p := 82) (v := ?vo_w40) (w1 := ((((wr.setCell ⟨go38, (x12_4 : Int).toNat * 4, none⟩ (.string (⟨#[]⟩ : ByteArray))).setCell ⟨go38, (x12_4 : Int).toNat * 4 + 1, none⟩ (.int .i64 0)).setCell ⟨go38, (x12_4 : Int).toNat * 4 + 2, none⟩ (.bool false)).setCell ⟨go38, (x12_4 : Int).toNat * 4 + 3, none⟩ (.string (⟨#[]⟩ : ByteArray)))) ?hg ?ho ?hn ?hr ?_; (case ho => rfl); (case hg => rfl); (case hn => rfl); (case hr => first | (go_simp; done) | (go_simp; rfl)); intro w40 hw; have hg : wr.grownBy w40 (some go38) := (by rw [hw]; exact HP39.2); have hp_ : Kd.R k34 34 w40 w.heap.size (fun k_ => some k_ ≠ (.slice Ao27 x6_2.length co27 : Value).ownBlock) (.slice (some ⟨go38, 0, none⟩) x9_4.length co26) y258 := (by rw [hw, Ny258.out]; exact HP39.1); clear HP39; have n0_ := Aside0.mk (Kd.S_after (v := (.slice (some ⟨go38, 0, none⟩) x9_4.length co26)) (v1 := (.slice (some ⟨go38, 0, none⟩) x9_4.length co26)) (ok := (fun k_ => some k_ ≠ (.slice Ao27 x6_2.length co27 : Value).ownBlock)) (by (with_reducible repeat (first | apply Kd.S_alloc | apply Kd.S_drewN | apply Kd.S_drew)); exact HO_4.out) hg (.inl rfl)); have n1_ := Aside0.mk (Kd.R_after (v := (.slice (some ⟨go38, 0, none⟩) x9_4.length co26)) (v1 := (.slice (some ⟨go38, 0, none⟩) x9_4.length co26)) (ok := (fun _ => True)) (by (with_reducible repeat (first | apply Kd.R_alloc | apply Kd.R_drewN | apply Kd.R_drew)); exact Kd.R_mono HO_6.out (fun _ hk => ⟨trivial, hk⟩)) hg (.inl rfl)); have n2_ := Aside0.mk (hp_); have n3_ := Aside0.mk ((by rw [hw]; exact Ys (Ys (Ys (Ys (HB.out) GB38.out) GB38.out) GB38.out) GB38.out : Below w.heap.size w w40)); clear HO_4; clear HO_6; clear HO_9; clear HB; have HO_4 := n0_; have HO_6 := n1_; have HO_9 := n2_; have HB := n3_; clear n0_ n1_ n2_ n3_; clear hg hw hp_))
             (try simp only [← hl9_4])
             go_roundg k4
             case measure => have := HJ2.out; have := HK2.out; have := HJ23.out; have := HK4.out; omega
             case rel => exact ⟨(y258), (wrap64 (x12_4 + 1)), (by first | rfl | (simp; done) | (simp [*]; done)), H', ⟨by have := HJ2.out; have := HK2.out; have := HJ23.out; have := HK4.out; omega⟩, ⟨by (try simp only [hl9_4]); (with_reducible repeat (first | apply Kd.S_alloc | apply Kd.S_drewN | apply Kd.S_drew)); exact HO_4.out⟩, ⟨by (try simp only [hl9_4]); (with_reducible repeat (first | apply Kd.R_alloc | apply Kd.R_drewN | apply Kd.R_drew)); exact Kd.R_mono HO_6.out (fun _ hk => hk.2)⟩, ⟨by (try simp only [hl9_4]); (with_reducible repeat (first | apply Kd.R_alloc | apply Kd.R_drewN | apply Kd.R_drew)); exact HO_9.out⟩, ⟨Yr HB⟩⟩
            ·
             rw [if_neg c37] at H
             exact absurd H (by simp)
           ·
            rw [if_neg c36] at H
            have c36b0 : decide (x12_4 < (x9_4.length : Int)) = false := decide_eq_false c36
            clear c36
            have H' := Aside0.mk H
            clear H
            go_wp2
            (try simp only [← hl9_4])
            go_roundg k4
            case measure => have := HJ2.out; have := HK2.out; have := HJ23.out; have := HK4.out; omega
            case rel => exact ⟨(x6_2), (wrap64 (x8_2 + 1)), (by first | rfl | (simp; done) | (simp [*]; done)), H', ⟨by have := HJ2.out; have := HK2.out; have := HJ23.out; have := HK4.out; omega⟩, ⟨by (try simp only [hl9_4]); (with_reducible repeat (first | apply Kd.S_alloc | apply Kd.S_drewN | apply Kd.S_drew)); exact Kd.S_mono HO_4.out (fun _ hk => hk.1)⟩, ⟨by (try simp only [hl9_4]); (with_reducible repeat (first | apply Kd.R_alloc | apply Kd.R_drewN | apply Kd.R_drew)); exact Kd.R_mono HO_6.out (fun _ hk => trivial)⟩, ⟨Yr HB⟩⟩
     ·
      rw [if_neg c21] at H
      have c21b0 : decide (x8_2 < 2) = false := decide_eq_false c21
      clear c21
      obtain rfl := Option.some.inj H
      go_wp2
      go_ret
      exact ⟨by first | rfl | (simp [errW_none, errW_some] <;> rfl) | (simp [*, errW_none, errW_some] <;> rfl), Yr HB⟩

/-- THE ONE PURE STATEMENT of palinodelaw15_MergeMerges. -/
def palinodelaw15_MergeMerges.Pure : Prop := (∀ r_, palinodelaw15_examples.f = some r_ → r_ = true) ∧ ∀ (l0 : List (List (S34))), (l0.length ≤ maxLen ∧ l0.length * 24 ≤ 140737488351232 ∧ ∀ x_ ∈ l0, (x_.length ≤ maxLen ∧ x_.length * 48 ≤ 140737488351232 ∧ ∀ x_y_ ∈ x_, V34 x_y_)) → ∃ k, palinodelaw15_MergeMerges.f k l0 = some true
theorem palinodelaw15_MergeMerges.walk (P : palinodelaw15_MergeMerges.Pure) (A0 : Option Addr) (c0 : Nat) (l0 : List (List (S34))) (w : World) (hr0 : Kd.C (Kd.slice 34 k34) w A0 l0.length l0) (hc0 : l0.length ≤ c0) (v0 : (l0.length ≤ maxLen ∧ l0.length * 24 ≤ 140737488351232 ∧ ∀ x_ ∈ l0, (x_.length ≤ maxLen ∧ x_.length * 48 ≤ 140737488351232 ∧ ∀ x_y_ ∈ x_, V34 x_y_))) :
  Calls Try.prog 3 #[.slice A0 l0.length c0] w fun e w' => e = .returned (.bool true) ∧ Below w.heap.size w w' := by
 obtain ⟨k, h⟩ := P.2 l0 v0
 refine (palinodelaw15_MergeMerges.calls k A0 c0 l0 true w hr0 hc0 h ⟨P.1⟩).mono ?_
 rintro e w' ⟨rfl, hd⟩
 exact ⟨rfl, hd⟩

end Go.Proofs.Yteljlfodjbgejaa.Print
