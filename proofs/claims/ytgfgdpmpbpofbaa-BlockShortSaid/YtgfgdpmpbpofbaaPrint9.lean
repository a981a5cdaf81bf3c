-- Printed out of the translation by a program of this session's own. Not trusted: Lean checks it.
import Derived.Test.YtgfgdpmpbpofbaaPrint0
import Derived.Test.YtgfgdpmpbpofbaaPrint3
import Derived.Test.YtgfgdpmpbpofbaaPrint8
import Derived.Test.YtgfgdpmpbpofbaaHBlockEncode
import Derived.Test.YtgfgdpmpbpofbaaHPackReadNum
namespace Go.Proofs.Ytgfgdpmpbpofbaa.Print
open Go.RowKit Go.Proofs.YtgfgdpmpbpofbaaW.PrintWords Go.Proofs.YtgfgdpmpbpofbaaW.PrintLast Go.Proofs.YtgfgdpmpbpofbaaW.PrintMore Go.Proofs.YtgfgdpmpbpofbaaX
attribute [local go_sem] max2_int min2_int max_two min_two max_three min_three max_four min_four   -- for this text's walks alone
set_option linter.unusedVariables false
set_option linter.unusedSimpArgs false

/-! ### palinodelaw12_BlockParts: function 3 -/
mutual
def palinodelaw12_BlockParts.j0 : Nat → List (S26) → Int → Bool → Option (Bool)
 | 0, _, _, _ => none
 | k + 1, x0, x1, x5 => if (wrap64 ((x0.length : Int) + 1)) = 0 then (none) else (if 0 ≤ (Int.tmod x1 (wrap64 ((x0.length : Int) + 1))) then (if (Int.tmod x1 (wrap64 ((x0.length : Int) + 1))) ≤ (x0.length : Int) then ((block_Sorted.f k (x0.take ((Int.tmod x1 (wrap64 ((x0.length : Int) + 1))) : Int).toNat)).bind fun t236 => ((block_Sorted.f k (x0.drop ((Int.tmod x1 (wrap64 ((x0.length : Int) + 1))) : Int).toNat)).bind fun t241 => ((block_Sorted.f k x0).bind fun t242 => (if t242 = true then (if t236 = true then (palinodelaw12_BlockParts.j1 k x0 (Int.tmod x1 (wrap64 ((x0.length : Int) + 1))) x5 t236 t241 t242 (!t241)) else (palinodelaw12_BlockParts.j1 k x0 (Int.tmod x1 (wrap64 ((x0.length : Int) + 1))) x5 t236 t241 t242 true)) else (palinodelaw12_BlockParts.j1 k x0 (Int.tmod x1 (wrap64 ((x0.length : Int) + 1))) x5 t236 t241 t242 false))))) else (none)) else (none))
def palinodelaw12_BlockParts.j1 : Nat → List (S26) → Int → Bool → Bool → Bool → Bool → Bool → Option (Bool)
 | 0, _, _, _, _, _, _, _ => none
 | k + 1, x0, x1, x5, x6, x7, x8, x40 => if x40 = true then (some false) else (if x6 = true then (if x7 = true then (if x1 = 0 then (if x5 = true then (some (x8 == x7)) else (some false)) else (if x1 = (x0.length : Int) then (if x5 = true then (some (x8 == x7)) else (some false)) else (if 0 ≤ (wrap64 (x1 - 1)) then (if (wrap64 (x1 - 1)) < (x0.length : Int) then (if 0 ≤ x1 then (if x1 < (x0.length : Int) then (if x5 = true then (if (Op.bytesLess (((rd_T26 x0 (wrap64 (x1 - 1))).f0).toList) (((rd_T26 x0 x1).f0).toList)) = true then (some (x8 == true)) else (if ((rd_T26 x0 (wrap64 (x1 - 1))).f0).toList = ((rd_T26 x0 x1).f0).toList then (some (x8 == (decide (((rd_T26 x0 (wrap64 (x1 - 1))).f1) > ((rd_T26 x0 x1).f1))))) else (some (x8 == false)))) else (some false)) else (none)) else (none)) else (none)) else (none)))) else (if x5 = true then (some true) else (some false))) else (if x5 = true then (some true) else (some false)))
end
def palinodelaw12_BlockParts.f (k : Nat) (l0 : List (S26)) (a1 : Int) : Option (Bool) := (palinodelaw12_examples.f k).bind fun t231 => (if a1 < 0 then (palinodelaw12_BlockParts.j0 k l0 (wrap64 (-(wrap64 (a1 + 1)))) t231) else (palinodelaw12_BlockParts.j0 k l0 a1 t231))
theorem palinodelaw12_BlockParts.mono_l : ∀ k, (∀ y0 y1 y2, LeO (palinodelaw12_BlockParts.j0 k y0 y1 y2) (palinodelaw12_BlockParts.j0 (k + 1) y0 y1 y2)) ∧ (∀ y0 y1 y2 y3 y4 y5 y6, LeO (palinodelaw12_BlockParts.j1 k y0 y1 y2 y3 y4 y5 y6) (palinodelaw12_BlockParts.j1 (k + 1) y0 y1 y2 y3 y4 y5 y6))
 | 0 => ⟨fun _ _ _ r h => by simp [palinodelaw12_BlockParts.j0] at h, fun _ _ _ _ _ _ _ r h => by simp [palinodelaw12_BlockParts.j1] at h⟩
 | k + 1 => by
  obtain ⟨ih0, ih1⟩ := palinodelaw12_BlockParts.mono_l k
  refine ⟨?_, ?_⟩
  ·
   intro y0 y1 y2
   unfold palinodelaw12_BlockParts.j0
   repeat' first
   | (with_reducible exact ih0 _ _ _)
   | (with_reducible exact ih1 _ _ _ _ _ _ _)
   | (with_reducible exact block_Sorted.mono _ _)
   | (with_reducible exact palinodelaw12_examples.mono _)
   | (with_reducible exact LeO.refl _)
   | (with_reducible exact LeO.none _)
   | (with_reducible refine LeO.ite ?_ ?_)
   | (with_reducible refine LeO.bind ?_ (fun _ => ?_))
   | exact ih0 _ _ _
   | exact ih1 _ _ _ _ _ _ _
   | exact block_Sorted.mono _ _
   | exact palinodelaw12_examples.mono _
   | exact LeO.none _
   | refine LeO.ite ?_ ?_
   | refine LeO.bind ?_ (fun _ => ?_)
  ·
   intro y0 y1 y2 y3 y4 y5 y6
   unfold palinodelaw12_BlockParts.j1
   repeat' first
   | (with_reducible exact ih0 _ _ _)
   | (with_reducible exact ih1 _ _ _ _ _ _ _)
   | (with_reducible exact block_Sorted.mono _ _)
   | (with_reducible exact palinodelaw12_examples.mono _)
   | (with_reducible exact LeO.refl _)
   | (with_reducible exact LeO.none _)
   | (with_reducible refine LeO.ite ?_ ?_)
   | (with_reducible refine LeO.bind ?_ (fun _ => ?_))
   | exact ih0 _ _ _
   | exact ih1 _ _ _ _ _ _ _
   | exact block_Sorted.mono _ _
   | exact palinodelaw12_examples.mono _
   | exact LeO.none _
   | refine LeO.ite ?_ ?_
   | refine LeO.bind ?_ (fun _ => ?_)
theorem palinodelaw12_BlockParts.mono : ∀ a0 a1 k, LeO (palinodelaw12_BlockParts.f k a0 a1) (palinodelaw12_BlockParts.f (k + 1) a0 a1) := by
 intro a0 a1 k
 obtain ⟨ih0, ih1⟩ := palinodelaw12_BlockParts.mono_l k
 unfold palinodelaw12_BlockParts.f
 repeat' first
   | (with_reducible exact ih0 _ _ _)
   | (with_reducible exact ih1 _ _ _ _ _ _ _)
   | (with_reducible exact block_Sorted.mono _ _)
   | (with_reducible exact palinodelaw12_examples.mono _)
   | (with_reducible exact LeO.refl _)
   | (with_reducible exact LeO.none _)
   | (with_reducible refine LeO.ite ?_ ?_)
   | (with_reducible refine LeO.bind ?_ (fun _ => ?_))
   | exact ih0 _ _ _
   | exact ih1 _ _ _ _ _ _ _
   | exact block_Sorted.mono _ _
   | exact palinodelaw12_examples.mono _
   | exact LeO.none _
   | refine LeO.ite ?_ ?_
   | refine LeO.bind ?_ (fun _ => ?_)
set_option maxHeartbeats 8000000 in
set_option maxRecDepth 100000 in
theorem palinodelaw12_BlockParts.calls (k : Nat) (A0 : Option Addr) (c0 : Nat) (l0 : List (S26)) (a1 : Int) (r : Bool) (w : World) (hr0 : Kd.C k26 w A0 l0.length l0) (hc0 : l0.length ≤ c0) (h : palinodelaw12_BlockParts.f k l0 a1 = some r) (HEX_ : Aside0 (∀ k_ r_, palinodelaw12_examples.f k_ = some r_ → r_ = true)) (HRT_ : Aside0 (r = true) := by first | exact ⟨rfl⟩ | assumption) :
  Calls Try.prog 3 #[.slice A0 l0.length c0, .int .i64 a1] w fun e w' => e = .returned (.bool r) ∧ Below w.heap.size w w' := by
 have hu26 := Try.underlying26
 have HR0 := Aside0.mk hr0
 have HC0 := Aside0.mk hc0
 clear hr0 hc0
 have HB := Aside0.mk (Below.refl w.heap.size w)
 have H : ((palinodelaw12_examples.f k).bind fun t231 => (if a1 < 0 then (palinodelaw12_BlockParts.j0 k l0 (wrap64 (-(wrap64 (a1 + 1)))) t231) else (palinodelaw12_BlockParts.j0 k l0 a1 t231))) = some r := h
 clear h
 replace H := Option.bind_eq_some_iff.mp H
 obtain ⟨t231, A30, H⟩ := H
 replace H : (if a1 < 0 then (palinodelaw12_BlockParts.j0 k l0 (wrap64 (-(wrap64 (a1 + 1)))) t231) else (palinodelaw12_BlockParts.j0 k l0 a1 t231)) = some r := H
 have A3 := Aside0.mk A30
 have HTA3_ : Aside0 (t231 = true) := ⟨HEX_.out _ _ A30⟩
 clear A30
 have HC4 := Aside0.mk H
 clear H
 go_enter Try.func3, Try.ntmps3
 go_upto_if 13 with (first | ((with_reducible refine gate_callee (f := 9) rfl ?_); refine goesL_ (some 11) rfl rfl Try.func9 (by kernel_rfl) rfl #[] rfl (by (try simp only [List.map_toArray, List.map_cons, List.map_nil]); first | done | rfl | (simp only [List.length_drop, List.length_take]; rfl)) ?_; (with_reducible refine (palinodelaw12_examples.calls k  t231 _ A3.out).mono ?_); rintro e w5 ⟨rfl, hb⟩; refine ⟨_, rfl, ?_⟩; have n0_ := Aside0.mk (Yv HB hb); clear HB; have HB := n0_; clear n0_; (try clear hb); (try clear hb2); (try clear hk); (try clear hi)))
 (try simp only [Act.put, List.setIfInBounds_toArray, List.set_cons_zero, List.set_cons_succ])
 go_cut [1] (fun v1 wc => ∃ (kq : Nat) (x1_3 : Int), v1 = .int .i64 x1_3 ∧ Aside0 (palinodelaw12_BlockParts.j0 kq l0 x1_3 t231 = some r) ∧ Aside0 (kq ≤ k) ∧ Aside0 (Below w.heap.size w wc))
 case first =>
  have H := HC4.out
  clear HC4
  by_cases c6 : a1 < 0
  ·
   rw [if_pos c6] at H
   have c6b0 : decide (a1 < 0) = true := decide_eq_true c6
   clear c6
   (first | rw [c6b0] | (simp only [i64_w, i32_w]; rw [c6b0]) | skip)
   have H' := Aside0.mk H
   clear H
   go_wp2
   go_meet
   case rel => exact ⟨_, (wrap64 (-(wrap64 (a1 + 1)))), (by first | rfl | (simp; done) | (simp [*]; done)), H', ⟨by first | omega | exact Nat.le_refl _⟩, ⟨Yr HB⟩⟩
  ·
   rw [if_neg c6] at H
   have c6b0 : decide (a1 < 0) = false := decide_eq_false c6
   clear c6
   (first | rw [c6b0] | (simp only [i64_w, i32_w]; rw [c6b0]) | skip)
   have H' := Aside0.mk H
   clear H
   go_wp2
   go_meet
   case rel => exact ⟨_, (a1), (by first | rfl | (simp; done) | (simp [*]; done)), H', ⟨by first | omega | exact Nat.le_refl _⟩, ⟨Yr HB⟩⟩
 case rest =>
  clear HC4
  try clear p2
  try clear c3
  try clear c6
  try clear c6b0
  try clear p6
  obtain ⟨kq, x1_3, rfl, HA, HJ3, HB⟩ := hcut
  cases kq with
  | zero => exact absurd HA.out (by simp [palinodelaw12_BlockParts.j0])
  | succ kj3 =>
   have H := HA.out
   clear HA
   simp only [palinodelaw12_BlockParts.j0] at H
   by_cases c7 : (wrap64 ((l0.length : Int) + 1)) = 0
   ·
    rw [if_pos c7] at H
    exact absurd H (by simp)
   ·
    rw [if_neg c7] at H
    have c7b0 : ((wrap64 ((l0.length : Int) + 1)) == 0) = false := beq_eq_false_iff_ne.mpr c7
    have c7b1 : ((wrap64 ((l0.length : Int) + 1)) != 0) = true := bne_iff_ne.mpr c7
    obtain ⟨ji8, hji8⟩ : ∃ j_ : Int, (Int.tmod x1_3 (wrap64 ((l0.length : Int) + 1))) = j_ := ⟨_, rfl⟩
    replace H : (if 0 ≤ (ji8) then (if (ji8) ≤ (l0.length : Int) then ((block_Sorted.f kj3 (l0.take ((ji8) : Int).toNat)).bind fun t236 => ((block_Sorted.f kj3 (l0.drop ((ji8) : Int).toNat)).bind fun t241 => ((block_Sorted.f kj3 l0).bind fun t242 => (if t242 = true then (if t236 = true then (palinodelaw12_BlockParts.j1 kj3 l0 ji8 t231 t236 t241 t242 (!t241)) else (palinodelaw12_BlockParts.j1 kj3 l0 ji8 t231 t236 t241 t242 true)) else (palinodelaw12_BlockParts.j1 kj3 l0 ji8 t231 t236 t241 t242 false))))) else (none)) else (none)) = some r := by first | (rw [hji8] at H; exact H) | (simp only [hji8] at H ⊢; exact H)
    by_cases c9 : 0 ≤ (ji8)
    ·
     rw [if_pos c9] at H
     have c9b0 := eq_true c9
     have c9b1 : decide (0 ≤ (ji8)) = true := decide_eq_true c9
     clear c9
     by_cases c10 : (ji8) ≤ (l0.length : Int)
     ·
      rw [if_pos c10] at H
      have c10b0 := eq_true c10
      have c10b1 : decide ((ji8) ≤ (l0.length : Int)) = true := decide_eq_true c10
      clear c10
      obtain ⟨y232, hy232⟩ : ∃ y_ : List (S26), y_ = (l0.take ((ji8) : Int).toNat) := ⟨_, rfl⟩
      replace H : ((block_Sorted.f kj3 y232).bind fun t236 => ((block_Sorted.f kj3 (l0.drop ((ji8) : Int).toNat)).bind fun t241 => ((block_Sorted.f kj3 l0).bind fun t242 => (if t242 = true then (if t236 = true then (palinodelaw12_BlockParts.j1 kj3 l0 ji8 t231 t236 t241 t242 (!t241)) else (palinodelaw12_BlockParts.j1 kj3 l0 ji8 t231 t236 t241 t242 true)) else (palinodelaw12_BlockParts.j1 kj3 l0 ji8 t231 t236 t241 t242 false))))) = some r := by first | (rw [hy232]; with_reducible exact H) | (have H2_ := (Option.bind_some _ _).symm.trans H; rw [hy232]; with_reducible exact H2_) | (have H2_ := (Option.bind_some _ _).symm.trans H; with_reducible exact H2_) | with_reducible exact H | (rw [hy232]; exact H) | exact H
      have Ny232 := Aside0.mk hy232
      clear hy232
      replace H := Option.bind_eq_some_iff.mp H
      obtain ⟨t236, A110, H⟩ := H
      replace H : ((block_Sorted.f kj3 (l0.drop ((ji8) : Int).toNat)).bind fun t241 => ((block_Sorted.f kj3 l0).bind fun t242 => (if t242 = true then (if t236 = true then (palinodelaw12_BlockParts.j1 kj3 l0 ji8 t231 t236 t241 t242 (!t241)) else (palinodelaw12_BlockParts.j1 kj3 l0 ji8 t231 t236 t241 t242 true)) else (palinodelaw12_BlockParts.j1 kj3 l0 ji8 t231 t236 t241 t242 false)))) = some r := H
      have A11 := Aside0.mk A110
      clear A110
      have c12b0 := eq_true (of_decide_eq_true (by first | (with_reducible assumption) | assumption) : 0 ≤ (ji8))
      have c13b0 := eq_true (of_decide_eq_true (by first | (with_reducible assumption) | assumption) : (ji8) ≤ (l0.length : Int))
      obtain ⟨y237, hy237⟩ : ∃ y_ : List (S26), y_ = (l0.drop ((ji8) : Int).toNat) := ⟨_, rfl⟩
      replace H : ((block_Sorted.f kj3 y237).bind fun t241 => ((block_Sorted.f kj3 l0).bind fun t242 => (if t242 = true then (if t236 = true then (palinodelaw12_BlockParts.j1 kj3 l0 ji8 t231 t236 t241 t242 (!t241)) else (palinodelaw12_BlockParts.j1 kj3 l0 ji8 t231 t236 t241 t242 true)) else (palinodelaw12_BlockParts.j1 kj3 l0 ji8 t231 t236 t241 t242 false)))) = some r := by first | (rw [hy237]; with_reducible exact H) | (have H2_ := (Option.bind_some _ _).symm.trans H; rw [hy237]; with_reducible exact H2_) | (have H2_ := (Option.bind_some _ _).symm.trans H; with_reducible exact H2_) | with_reducible exact H | (rw [hy237]; exact H) | exact H
      have Ny237 := Aside0.mk hy237
      clear hy237
      replace H := Option.bind_eq_some_iff.mp H
      obtain ⟨t241, A140, H⟩ := H
      replace H : ((block_Sorted.f kj3 l0).bind fun t242 => (if t242 = true then (if t236 = true then (palinodelaw12_BlockParts.j1 kj3 l0 ji8 t231 t236 t241 t242 (!t241)) else (palinodelaw12_BlockParts.j1 kj3 l0 ji8 t231 t236 t241 t242 true)) else (palinodelaw12_BlockParts.j1 kj3 l0 ji8 t231 t236 t241 t242 false))) = some r := H
      have A14 := Aside0.mk A140
      clear A140
      replace H := Option.bind_eq_some_iff.mp H
      obtain ⟨t242, A150, H⟩ := H
      replace H : (if t242 = true then (if t236 = true then (palinodelaw12_BlockParts.j1 kj3 l0 ji8 t231 t236 t241 t242 (!t241)) else (palinodelaw12_BlockParts.j1 kj3 l0 ji8 t231 t236 t241 t242 true)) else (palinodelaw12_BlockParts.j1 kj3 l0 ji8 t231 t236 t241 t242 false)) = some r := H
      have A15 := Aside0.mk A150
      clear A150
      have HC16 := Aside0.mk H
      clear H
      have q17 : ((ji8) : Int) ≤ ((l0.length : Int) : Int) := of_decide_eq_true (by first | (with_reducible assumption) | assumption)
      obtain ⟨i017, hi017, _, hsz17, _⟩ := info_parts info26
      have hroom17 : l0.length ≤ c0 := HC0.out
      have hC17 : Kd.C k26 _ A0 l0.length l0 := HR0.out
      have hcut17 := cut_to (P := Try.prog) 22 26 .i64 Try.underlying22 hi017 A0 l0.length c0 (ji8) (of_decide_eq_true (by first | (with_reducible assumption) | assumption)) q17 hroom17
      have hr17 := Kd.C_take (m := ((ji8) : Int).toNat) hC17 (by omega)
      have hy17 : y232.length = ((ji8) : Int).toNat := (by rw [Ny232.out, List.length_take]; omega)
      rw [← Ny232.out] at hr17
      rw [← hy17] at hcut17
      have HR235 := Aside0.mk hr17
      have HC235 := Aside0.mk (show y232.length ≤ c0 from by omega)
      clear hr17 hC17 hroom17 hi017 hsz17
      have KY17 := Aside0.mk hy17
      clear hy17
      replace q17 := eq_true q17
      go_upto_region 8 with (first | ((with_reducible refine gate_callee (f := 10) rfl ?_); refine goesL_ (some 25) rfl rfl Try.func10 (by kernel_rfl) rfl #[.slice A0 y232.length c0] rfl (by (try simp only [List.map_toArray, List.map_cons, List.map_nil]); first | done | rfl | (simp only [List.length_drop, List.length_take]; rfl)) ?_; (with_reducible refine (block_Sorted.calls kj3 _ _ y232 t236 _ ?side1 ?side2 A11.out).mono ?_); (case side1 => repeat (first | exact (Kd.C_below HR235.out HB.out) | (with_reducible refine Kd.C_alloc ?_ _) | (with_reducible refine Kd.C_drewN ?_ _) | (with_reducible refine Kd.C_drew ?_))); (case side2 => exact HC235.out); rintro e w18 ⟨rfl, hb⟩; refine ⟨_, rfl, ?_⟩; have n0_ := Aside0.mk (Yv HB hb); clear HB; have HB := n0_; clear n0_; (try clear hb); (try clear hb2); (try clear hk); (try clear hi); have q19 : ((ji8) : Int) ≤ ((l0.length : Int) : Int) := of_decide_eq_true (by first | (with_reducible assumption) | assumption); obtain ⟨i019, hi019, _, hsz19, _⟩ := info_parts info26; have hroom19 : l0.length ≤ c0 := HC0.out; have hC19 : Kd.C k26 _ A0 l0.length l0 := HR0.out; have q019 : (0 : Int) ≤ ((ji8) : Int) := of_decide_eq_true (by first | (with_reducible assumption) | assumption); have hcut19 := cut_from (P := Try.prog) 22 26 .i64 Try.underlying22 hi019 4 hsz19 A0 l0.length c0 (ji8) q019 q19; have hr19 := Kd.C_drop (m := ((ji8) : Int).toNat) (c := c0) hC19 (by omega) hroom19; obtain ⟨A19, hA19⟩ : ∃ A1, A1 = (if c0 = ((ji8) : Int).toNat then A0 else (A0 : Option Addr).map (·.add (((ji8) : Int).toNat * 4))) := ⟨_, rfl⟩; obtain ⟨c19, hc19⟩ : ∃ c1, c1 = c0 - ((ji8) : Int).toNat := ⟨_, rfl⟩; have hy19 : y237.length = l0.length - ((ji8) : Int).toNat := (by rw [Ny237.out, List.length_drop] <;> omega); rw [show (l0).drop ((ji8) : Int).toNat = y237 from Ny237.out.symm] at hr19; replace hr19 : Kd.C k26 _ A19 y237.length y237 := (by rw [hA19]; exact hr19); rw [← hy19, ← hA19, ← hc19] at hcut19; have HR240 := Aside0.mk hr19; have HC240 := Aside0.mk (show y237.length ≤ c19 from by rw [hy19, hc19]; exact Nat.sub_le_sub_right hroom19 _); clear hr19 hC19 hroom19 hi019 hsz19 hc19; have KY19 := Aside0.mk hy19; have KA19 := Aside0.mk hA19; clear hy19 hA19; replace q19 := eq_true q19) | ((with_reducible refine gate_callee (f := 10) rfl ?_); refine goesL_ (some 29) rfl rfl Try.func10 (by kernel_rfl) rfl #[.slice A19 y237.length c19] rfl (by (try simp only [List.map_toArray, List.map_cons, List.map_nil]); first | done | rfl | (simp only [List.length_drop, List.length_take]; rfl)) ?_; (with_reducible refine (block_Sorted.calls kj3 _ _ y237 t241 _ ?side1 ?side2 A14.out).mono ?_); (case side1 => repeat (first | exact (Kd.C_below HR240.out HB.out) | (with_reducible refine Kd.C_alloc ?_ _) | (with_reducible refine Kd.C_drewN ?_ _) | (with_reducible refine Kd.C_drew ?_))); (case side2 => exact HC240.out); rintro e w20 ⟨rfl, hb⟩; refine ⟨_, rfl, ?_⟩; have n0_ := Aside0.mk (Yv HB hb); clear HB; have HB := n0_; clear n0_; (try clear hb); (try clear hb2); (try clear hk); (try clear hi)) | ((with_reducible refine gate_callee (f := 10) rfl ?_); refine goesL_ (some 31) rfl rfl Try.func10 (by kernel_rfl) rfl #[.slice A0 l0.length c0] rfl (by (try simp only [List.map_toArray, List.map_cons, List.map_nil]); first | done | rfl | (simp only [List.length_drop, List.length_take]; rfl)) ?_; (with_reducible refine (block_Sorted.calls kj3 _ _ l0 t242 _ ?side1 ?side2 A15.out).mono ?_); (case side1 => repeat (first | exact (Kd.C_below HR0.out HB.out) | (with_reducible refine Kd.C_alloc ?_ _) | (with_reducible refine Kd.C_drewN ?_ _) | (with_reducible refine Kd.C_drew ?_))); (case side2 => exact HC0.out); rintro e w21 ⟨rfl, hb⟩; refine ⟨_, rfl, ?_⟩; have n0_ := Aside0.mk (Yv HB hb); clear HB; have HB := n0_; clear n0_; (try clear hb); (try clear hb2); (try clear hk); (try clear hi)))
      (try simp only [Act.put, List.setIfInBounds_toArray, List.set_cons_zero, List.set_cons_succ])
      go_cut [40] (fun v40 wc => ∃ (kq : Nat) (x40_15 : Bool), v40 = .bool x40_15 ∧ Aside0 (palinodelaw12_BlockParts.j1 kq l0 ji8 t231 t236 t241 t242 x40_15 = some r) ∧ Aside0 (kq ≤ kj3) ∧ Aside0 (Below w.heap.size w wc))
      case first =>
       have H := HC16.out
       clear HC16
       by_cases c22 : t242 = true
       ·
        subst c22
        have H1 : (if t236 = true then (palinodelaw12_BlockParts.j1 kj3 l0 ji8 t231 t236 t241 true (!t241)) else (palinodelaw12_BlockParts.j1 kj3 l0 ji8 t231 t236 t241 true true)) = some r := by rw [if_pos rfl] at H; exact H
        clear H
        have H := H1
        clear H1
        by_cases c23 : t236 = true
        ·
         subst c23
         have H1 : (palinodelaw12_BlockParts.j1 kj3 l0 ji8 t231 true t241 true (!t241)) = some r := by rw [if_pos rfl] at H; exact H
         clear H
         have H := H1
         clear H1
         have H' := Aside0.mk H
         clear H
         go_wp2
         go_meet
         case rel => exact ⟨_, (!t241), (by first | rfl | (simp; done) | (simp [*]; done)), H', ⟨by have := HJ3.out; first | omega | exact Nat.le_refl _⟩, ⟨Yr HB⟩⟩
        ·
         replace c23 := Bool.eq_false_iff.mpr c23
         subst c23
         have H1 : (palinodelaw12_BlockParts.j1 kj3 l0 ji8 t231 false t241 true true) = some r := by rw [if_neg (show ¬ (false = true) by decide)] at H; exact H
         clear H
         have H := H1
         clear H1
         have H' := Aside0.mk H
         clear H
         go_wp2
         go_meet
         case rel => exact ⟨_, (true), (by first | rfl | (simp; done) | (simp [*]; done)), H', ⟨by have := HJ3.out; first | omega | exact Nat.le_refl _⟩, ⟨Yr HB⟩⟩
       ·
        replace c22 := Bool.eq_false_iff.mpr c22
        subst c22
        have H1 : (palinodelaw12_BlockParts.j1 kj3 l0 ji8 t231 t236 t241 false false) = some r := by rw [if_neg (show ¬ (false = true) by decide)] at H; exact H
        clear H
        have H := H1
        clear H1
        have H' := Aside0.mk H
        clear H
        go_wp2
        go_meet
        case rel => exact ⟨_, (false), (by first | rfl | (simp; done) | (simp [*]; done)), H', ⟨by have := HJ3.out; first | omega | exact Nat.le_refl _⟩, ⟨Yr HB⟩⟩
      case rest =>
       clear HC16
       try clear c1
       try clear q1
       try clear c2
       try clear p2
       try clear c3
       try clear c6
       try clear c6b0
       try clear p6
       try clear c7
       try clear c7b0
       try clear c7b1
       try clear c9
       try clear c9b0
       try clear c9b1
       try clear c10
       try clear c10b0
       try clear c10b1
       try clear c12
       try clear c12b0
       try clear c13
       try clear c13b0
       try clear q17
       try clear c19
       try clear q19
       try clear c22
       try clear c23
       try clear p2
       try clear p6
       try clear q019
       try clear q17
       try clear q19
       obtain ⟨kq, x40_15, rfl, HA, HJ15, HB⟩ := hcut
       cases kq with
       | zero => exact absurd HA.out (by simp [palinodelaw12_BlockParts.j1])
       | succ kj15 =>
        have H := HA.out
        clear HA
        simp only [palinodelaw12_BlockParts.j1] at H
        by_cases c24 : x40_15 = true
        ·
         subst c24
         have H1 : (some false) = some r := by rw [if_pos rfl] at H; exact H
         clear H
         have H := H1
         clear H1
         exact absurd ((Option.some.inj H).trans HRT_.out) (by decide)
        ·
         replace c24 := Bool.eq_false_iff.mpr c24
         subst c24
         have H1 : (if t236 = true then (if t241 = true then (if ji8 = 0 then (if t231 = true then (some (t242 == t241)) else (some false)) else (if ji8 = (l0.length : Int) then (if t231 = true then (some (t242 == t241)) else (some false)) else (if 0 ≤ (wrap64 (ji8 - 1)) then (if (wrap64 (ji8 - 1)) < (l0.length : Int) then (if 0 ≤ ji8 then (if ji8 < (l0.length : Int) then (if t231 = true then (if (Op.bytesLess (((rd_T26 l0 (wrap64 (ji8 - 1))).f0).toList) (((rd_T26 l0 ji8).f0).toList)) = true then (some (t242 == true)) else (if ((rd_T26 l0 (wrap64 (ji8 - 1))).f0).toList = ((rd_T26 l0 ji8).f0).toList then (some (t242 == (decide (((rd_T26 l0 (wrap64 (ji8 - 1))).f1) > ((rd_T26 l0 ji8).f1))))) else (some (t242 == false)))) else (some false)) else (none)) else (none)) else (none)) else (none)))) else (if t231 = true then (some true) else (some false))) else (if t231 = true then (some true) else (some false))) = some r := by rw [if_neg (show ¬ (false = true) by decide)] at H; exact H
         clear H
         have H := H1
         clear H1
         by_cases c25 : t236 = true
         ·
          subst c25
          have H1 : (if t241 = true then (if ji8 = 0 then (if t231 = true then (some (t242 == t241)) else (some false)) else (if ji8 = (l0.length : Int) then (if t231 = true then (some (t242 == t241)) else (some false)) else (if 0 ≤ (wrap64 (ji8 - 1)) then (if (wrap64 (ji8 - 1)) < (l0.length : Int) then (if 0 ≤ ji8 then (if ji8 < (l0.length : Int) then (if t231 = true then (if (Op.bytesLess (((rd_T26 l0 (wrap64 (ji8 - 1))).f0).toList) (((rd_T26 l0 ji8).f0).toList)) = true then (some (t242 == true)) else (if ((rd_T26 l0 (wrap64 (ji8 - 1))).f0).toList = ((rd_T26 l0 ji8).f0).toList then (some (t242 == (decide (((rd_T26 l0 (wrap64 (ji8 - 1))).f1) > ((rd_T26 l0 ji8).f1))))) else (some (t242 == false)))) else (some false)) else (none)) else (none)) else (none)) else (none)))) else (if t231 = true then (some true) else (some false))) = some r := by rw [if_pos rfl] at H; exact H
          clear H
          have H := H1
          clear H1
          by_cases c26 : t241 = true
          ·
           subst c26
           have H1 : (if ji8 = 0 then (if t231 = true then (some (t242 == true)) else (some false)) else (if ji8 = (l0.length : Int) then (if t231 = true then (some (t242 == true)) else (some false)) else (if 0 ≤ (wrap64 (ji8 - 1)) then (if (wrap64 (ji8 - 1)) < (l0.length : Int) then (if 0 ≤ ji8 then (if ji8 < (l0.length : Int) then (if t231 = true then (if (Op.bytesLess (((rd_T26 l0 (wrap64 (ji8 - 1))).f0).toList) (((rd_T26 l0 ji8).f0).toList)) = true then (some (t242 == true)) else (if ((rd_T26 l0 (wrap64 (ji8 - 1))).f0).toList = ((rd_T26 l0 ji8).f0).toList then (some (t242 == (decide (((rd_T26 l0 (wrap64 (ji8 - 1))).f1) > ((rd_T26 l0 ji8).f1))))) else (some (t242 == false)))) else (some false)) else (none)) else (none)) else (none)) else (none)))) = some r := by rw [if_pos rfl] at H; exact H
           clear H
           have H := H1
           clear H1
           by_cases c27 : ji8 = 0
           ·
            rw [if_pos c27] at H
            have c27b0 : (ji8 == 0) = true := beq_iff_eq.mpr c27
            have c27b1 : (ji8 != 0) = false := bne_eq_false_iff_eq.mpr c27
            clear c27
            by_cases c28 : t231 = true
            ·
             subst c28
             have H1 : (some (t242 == true)) = some r := by rw [if_pos rfl] at H; exact H
             clear H
             have H := H1
             clear H1
             obtain rfl := Option.some.inj H
             go_wp2
             go_ret
             exact ⟨by first | rfl | (simp [errW_none, errW_some] <;> rfl) | (simp only [← hji8]; first | rfl | (simp [errW_none, errW_some] <;> rfl)) | (simp [*, errW_none, errW_some] <;> rfl), Yr HB⟩
            ·
             replace c28 := Bool.eq_false_iff.mpr c28
             subst c28
             have H1 : (some false) = some r := by rw [if_neg (show ¬ (false = true) by decide)] at H; exact H
             clear H
             have H := H1
             clear H1
             exact absurd ((Option.some.inj H).trans HRT_.out) (by decide)
           ·
            rw [if_neg c27] at H
            have c27b0 : (ji8 == 0) = false := beq_eq_false_iff_ne.mpr c27
            have c27b1 : (ji8 != 0) = true := bne_iff_ne.mpr c27
            by_cases c29 : ji8 = (l0.length : Int)
            ·
             rw [if_pos c29] at H
             have c29b0 : (ji8 == (l0.length : Int)) = true := beq_iff_eq.mpr c29
             have c29b1 : (ji8 != (l0.length : Int)) = false := bne_eq_false_iff_eq.mpr c29
             clear c29
             by_cases c30 : t231 = true
             ·
              subst c30
              have H1 : (some (t242 == true)) = some r := by rw [if_pos rfl] at H; exact H
              clear H
              have H := H1
              clear H1
              obtain rfl := Option.some.inj H
              go_wp2
              go_ret
              first | (refine absurd c29b0 ?_; simp [*]; done) | exact ⟨by first | rfl | (simp [errW_none, errW_some] <;> rfl) | (simp only [← hji8]; first | rfl | (simp [errW_none, errW_some] <;> rfl)) | (simp [*, errW_none, errW_some] <;> rfl), Yr HB⟩
             ·
              replace c30 := Bool.eq_false_iff.mpr c30
              subst c30
              have H1 : (some false) = some r := by rw [if_neg (show ¬ (false = true) by decide)] at H; exact H
              clear H
              have H := H1
              clear H1
              exact absurd ((Option.some.inj H).trans HRT_.out) (by decide)
            ·
             rw [if_neg c29] at H
             have c29b0 : (ji8 == (l0.length : Int)) = false := beq_eq_false_iff_ne.mpr c29
             have c29b1 : (ji8 != (l0.length : Int)) = true := bne_iff_ne.mpr c29
             obtain ⟨ji31, hji31⟩ : ∃ j_ : Int, (wrap64 (ji8 - 1)) = j_ := ⟨_, rfl⟩
             replace H : (if 0 ≤ (ji31) then (if (ji31) < (l0.length : Int) then (if 0 ≤ ji8 then (if ji8 < (l0.length : Int) then (if t231 = true then (if (Op.bytesLess (((rd_T26 l0 (ji31)).f0).toList) (((rd_T26 l0 ji8).f0).toList)) = true then (some (t242 == true)) else (if ((rd_T26 l0 (ji31)).f0).toList = ((rd_T26 l0 ji8).f0).toList then (some (t242 == (decide (((rd_T26 l0 (ji31)).f1) > ((rd_T26 l0 ji8).f1))))) else (some (t242 == false)))) else (some false)) else (none)) else (none)) else (none)) else (none)) = some r := by first | (rw [hji31] at H; exact H) | (simp only [hji31] at H ⊢; exact H)
             have hji31w : (IntKind.i64.wrap (ji8 - 1)) = ji31 := (i64_w _).trans hji31
             by_cases c32 : 0 ≤ (ji31)
             ·
              rw [if_pos c32] at H
              have c32b0 : decide (0 ≤ (ji31)) = true := decide_eq_true c32
              clear c32
              by_cases c33 : (ji31) < (l0.length : Int)
              ·
               rw [if_pos c33] at H
               have c33b0 : decide ((ji31) < (l0.length : Int)) = true := decide_eq_true c33
               clear c33
               by_cases c34 : 0 ≤ ji8
               ·
                rw [if_pos c34] at H
                have c34b0 : decide (0 ≤ ji8) = true := decide_eq_true c34
                clear c34
                by_cases c35 : ji8 < (l0.length : Int)
                ·
                 rw [if_pos c35] at H
                 have c35b0 : decide (ji8 < (l0.length : Int)) = true := decide_eq_true c35
                 clear c35
                 by_cases c36 : t231 = true
                 ·
                  subst c36
                  have H1 : (if (Op.bytesLess (((rd_T26 l0 (ji31)).f0).toList) (((rd_T26 l0 ji8).f0).toList)) = true then (some (t242 == true)) else (if ((rd_T26 l0 (ji31)).f0).toList = ((rd_T26 l0 ji8).f0).toList then (some (t242 == (decide (((rd_T26 l0 (ji31)).f1) > ((rd_T26 l0 ji8).f1))))) else (some (t242 == false)))) = some r := by rw [if_pos rfl] at H; exact H
                  clear H
                  have H := H1
                  clear H1
                  by_cases c37 : (Op.bytesLess (((rd_T26 l0 (ji31)).f0).toList) (((rd_T26 l0 ji8).f0).toList)) = true
                  ·
                   rw [if_pos c37] at H
                   have c37b0 : (Op.bytesLess (((rd_T26 l0 (ji31)).f0).toList) (((rd_T26 l0 ji8).f0).toList)) = true := c37
                   clear c37
                   obtain rfl := Option.some.inj H
                   have p243 : 0 ≤ ((ji31) : Int) := of_decide_eq_true (by first | (with_reducible assumption) | assumption)
                   have q243 : (ji31) < (l0.length : Int) := of_decide_eq_true (by first | (with_reducible assumption) | assumption)
                   obtain ⟨ad243, e243, hx243_0, hx243_1, hx243_2, hx243_3⟩ := at_T26 HR0.out (ji31) p243 q243
                   cases e243
                   replace hx243_0 := (HB.out.cell (World.block_lt_of_cell? w _ hx243_0)).trans hx243_0
                   replace hx243_1 := (HB.out.cell (World.block_lt_of_cell? w _ hx243_1)).trans hx243_1
                   replace hx243_2 := (HB.out.cell (World.block_lt_of_cell? w _ hx243_2)).trans hx243_2
                   replace hx243_3 := (HB.out.cell (World.block_lt_of_cell? w _ hx243_3)).trans hx243_3
                   replace p243 := eq_true p243
                   replace q243 := eq_true q243
                   go_wp2_with (first | ((with_reducible refine gate_dst (N := 9) rfl ?_); (try (refine gate_guard (by rfl) ?_; dsimp only)); refine box_event ?hg (N := 9) ?hd (cs := #[.string (⟨#[]⟩ : ByteArray), .int .i64 0, .bool false, .string (⟨#[]⟩ : ByteArray)]) (t := 26) ?hr ?_; (case hd => rfl); (case hg => rfl); (case hr => first | (go_simp; done) | (go_simp; rfl)); intro gb244 hg w38 hbox hb; have n0_ := Aside0.mk (Yv HB hb); have n1_ := Aside0.mk (hbox); have n2_ := Aside0.mk (Yg HB hg); have n3_ := Aside0.mk (Yg HB hg); clear HB; have HB := n0_; have BK244 := n1_; have GW244 := n2_; have GE244 := n3_; clear n0_ n1_ n2_ n3_; clear hb hbox hg; obtain ⟨⟨hcz39_0, hcz39_1, hcz39_2, hcz39_3⟩, hfz39_0, hfz39_1, hfz39_2, hfz39_3⟩ := Zk4 BK244; have p245 : 0 ≤ (ji8 : Int) := of_decide_eq_true (by first | (with_reducible assumption) | assumption); have q245 : ji8 < (l0.length : Int) := of_decide_eq_true (by first | (with_reducible assumption) | assumption); obtain ⟨ad245, e245, hx245_0, hx245_1, hx245_2, hx245_3⟩ := at_T26 HR0.out ji8 p245 q245; obtain rfl : ad243 = ad245 := (by injection e245); have hn245_0 : ad243.block ≠ gb244 := Nat.ne_of_lt (Nat.lt_of_lt_of_le (by have := World.block_lt_of_cell? _ _ hx245_0; first | rwa [add_block] at this | exact this) GW244.out); have hn245_1 : ad243.block ≠ gb244 := Nat.ne_of_lt (Nat.lt_of_lt_of_le (by have := World.block_lt_of_cell? _ _ hx245_0; first | rwa [add_block] at this | exact this) GW244.out); have hn245_2 : ad243.block ≠ gb244 := Nat.ne_of_lt (Nat.lt_of_lt_of_le (by have := World.block_lt_of_cell? _ _ hx245_0; first | rwa [add_block] at this | exact this) GW244.out); have hn245_3 : ad243.block ≠ gb244 := Nat.ne_of_lt (Nat.lt_of_lt_of_le (by have := World.block_lt_of_cell? _ _ hx245_0; first | rwa [add_block] at this | exact this) GW244.out); replace hx245_0 := (HB.out.cell (World.block_lt_of_cell? w _ hx245_0)).trans hx245_0; replace hx245_1 := (HB.out.cell (World.block_lt_of_cell? w _ hx245_1)).trans hx245_1; replace hx245_2 := (HB.out.cell (World.block_lt_of_cell? w _ hx245_2)).trans hx245_2; replace hx245_3 := (HB.out.cell (World.block_lt_of_cell? w _ hx245_3)).trans hx245_3; replace hx245_0 := (cell_far (p := ⟨gb244, 0, none⟩) (by first | (rw [add_block]; exact hn245_0) | (show (Addr.add _ _).block ≠ _; rw [add_block]; exact hn245_0) | exact hn245_0) (.string ((rd_T26 l0 (ji31)).f0))).trans hx245_0; replace hx245_1 := (cell_far (p := ⟨gb244, 0, none⟩) (by first | (rw [add_block]; exact hn245_0) | (show (Addr.add _ _).block ≠ _; rw [add_block]; exact hn245_0) | exact hn245_0) (.string ((rd_T26 l0 (ji31)).f0))).trans hx245_1; replace hx245_2 := (cell_far (p := ⟨gb244, 0, none⟩) (by first | (rw [add_block]; exact hn245_0) | (show (Addr.add _ _).block ≠ _; rw [add_block]; exact hn245_0) | exact hn245_0) (.string ((rd_T26 l0 (ji31)).f0))).trans hx245_2; replace hx245_3 := (cell_far (p := ⟨gb244, 0, none⟩) (by first | (rw [add_block]; exact hn245_0) | (show (Addr.add _ _).block ≠ _; rw [add_block]; exact hn245_0) | exact hn245_0) (.string ((rd_T26 l0 (ji31)).f0))).trans hx245_3; replace hx245_0 := (cell_far (p := ⟨gb244, 1, none⟩) (by first | (rw [add_block]; exact hn245_1) | (show (Addr.add _ _).block ≠ _; rw [add_block]; exact hn245_1) | exact hn245_1) (.int .i64 ((rd_T26 l0 (ji31)).f1))).trans hx245_0; replace hx245_1 := (cell_far (p := ⟨gb244, 1, none⟩) (by first | (rw [add_block]; exact hn245_1) | (show (Addr.add _ _).block ≠ _; rw [add_block]; exact hn245_1) | exact hn245_1) (.int .i64 ((rd_T26 l0 (ji31)).f1))).trans hx245_1; replace hx245_2 := (cell_far (p := ⟨gb244, 1, none⟩) (by first | (rw [add_block]; exact hn245_1) | (show (Addr.add _ _).block ≠ _; rw [add_block]; exact hn245_1) | exact hn245_1) (.int .i64 ((rd_T26 l0 (ji31)).f1))).trans hx245_2; replace hx245_3 := (cell_far (p := ⟨gb244, 1, none⟩) (by first | (rw [add_block]; exact hn245_1) | (show (Addr.add _ _).block ≠ _; rw [add_block]; exact hn245_1) | exact hn245_1) (.int .i64 ((rd_T26 l0 (ji31)).f1))).trans hx245_3; replace hx245_0 := (cell_far (p := ⟨gb244, 2, none⟩) (by first | (rw [add_block]; exact hn245_2) | (show (Addr.add _ _).block ≠ _; rw [add_block]; exact hn245_2) | exact hn245_2) (.bool ((rd_T26 l0 (ji31)).f2))).trans hx245_0; replace hx245_1 := (cell_far (p := ⟨gb244, 2, none⟩) (by first | (rw [add_block]; exact hn245_2) | (show (Addr.add _ _).block ≠ _; rw [add_block]; exact hn245_2) | exact hn245_2) (.bool ((rd_T26 l0 (ji31)).f2))).trans hx245_1; replace hx245_2 := (cell_far (p := ⟨gb244, 2, none⟩) (by first | (rw [add_block]; exact hn245_2) | (show (Addr.add _ _).block ≠ _; rw [add_block]; exact hn245_2) | exact hn245_2) (.bool ((rd_T26 l0 (ji31)).f2))).trans hx245_2; replace hx245_3 := (cell_far (p := ⟨gb244, 2, none⟩) (by first | (rw [add_block]; exact hn245_2) | (show (Addr.add _ _).block ≠ _; rw [add_block]; exact hn245_2) | exact hn245_2) (.bool ((rd_T26 l0 (ji31)).f2))).trans hx245_3; replace hx245_0 := (cell_far (p := ⟨gb244, 3, none⟩) (by first | (rw [add_block]; exact hn245_3) | (show (Addr.add _ _).block ≠ _; rw [add_block]; exact hn245_3) | exact hn245_3) (.string ((rd_T26 l0 (ji31)).f3))).trans hx245_0; replace hx245_1 := (cell_far (p := ⟨gb244, 3, none⟩) (by first | (rw [add_block]; exact hn245_3) | (show (Addr.add _ _).block ≠ _; rw [add_block]; exact hn245_3) | exact hn245_3) (.string ((rd_T26 l0 (ji31)).f3))).trans hx245_1; replace hx245_2 := (cell_far (p := ⟨gb244, 3, none⟩) (by first | (rw [add_block]; exact hn245_3) | (show (Addr.add _ _).block ≠ _; rw [add_block]; exact hn245_3) | exact hn245_3) (.string ((rd_T26 l0 (ji31)).f3))).trans hx245_2; replace hx245_3 := (cell_far (p := ⟨gb244, 3, none⟩) (by first | (rw [add_block]; exact hn245_3) | (show (Addr.add _ _).block ≠ _; rw [add_block]; exact hn245_3) | exact hn245_3) (.string ((rd_T26 l0 (ji31)).f3))).trans hx245_3; clear hn245_0; clear hn245_1; clear hn245_2; clear hn245_3; replace p245 := eq_true p245; replace q245 := eq_true q245) | ((with_reducible refine gate_dst (N := 10) rfl ?_); (try (refine gate_guard (by rfl) ?_; dsimp only)); refine box_event ?hg (N := 10) ?hd (cs := #[.string (⟨#[]⟩ : ByteArray), .int .i64 0, .bool false, .string (⟨#[]⟩ : ByteArray)]) (t := 26) ?hr ?_; (case hd => rfl); (case hg => rfl); (case hr => first | (go_simp; done) | (go_simp; rfl)); intro gb246 hg w40 hbox hb; have n0_ := Aside0.mk (Zb (g := gb244) (o := .cells #[.string ((rd_T26 l0 (ji31)).f0), .int .i64 ((rd_T26 l0 (ji31)).f1), .bool ((rd_T26 l0 (ji31)).f2), .string ((rd_T26 l0 (ji31)).f3)] 26 (0, 0)) (by (with_reducible repeat first | apply Zn | apply Zd | apply Za); refine Zp (cs := #[.string ((rd_T26 l0 (ji31)).f0), .int .i64 ((rd_T26 l0 (ji31)).f1), .bool ((rd_T26 l0 (ji31)).f2), .string (⟨#[]⟩ : ByteArray)]) ?_ 3 _ rfl; (with_reducible repeat first | apply Zn | apply Zd | apply Za); refine Zp (cs := #[.string ((rd_T26 l0 (ji31)).f0), .int .i64 ((rd_T26 l0 (ji31)).f1), .bool false, .string (⟨#[]⟩ : ByteArray)]) ?_ 2 _ rfl; (with_reducible repeat first | apply Zn | apply Zd | apply Za); refine Zp (cs := #[.string ((rd_T26 l0 (ji31)).f0), .int .i64 0, .bool false, .string (⟨#[]⟩ : ByteArray)]) ?_ 1 _ rfl; (with_reducible repeat first | apply Zn | apply Zd | apply Za); refine Zp (cs := #[.string (⟨#[]⟩ : ByteArray), .int .i64 0, .bool false, .string (⟨#[]⟩ : ByteArray)]) ?_ 0 _ rfl; (with_reducible repeat first | apply Zn | apply Zd | apply Za); exact BK244.out) hb); have n1_ := Aside0.mk (Yv HB hb); have n2_ := Aside0.mk (hbox); have n3_ := Aside0.mk (Yg HB hg); have n4_ := Aside0.mk (Yg HB hg); have n5_ := Aside0.mk ((by rw [hg]; exact Nat.ne_of_lt (blk_lt (g := gb244) (o := .cells #[.string ((rd_T26 l0 (ji31)).f0), .int .i64 ((rd_T26 l0 (ji31)).f1), .bool ((rd_T26 l0 (ji31)).f2), .string ((rd_T26 l0 (ji31)).f3)] 26 (0, 0)) (by (with_reducible repeat first | apply Zn | apply Zd | apply Za); refine Zp (cs := #[.string ((rd_T26 l0 (ji31)).f0), .int .i64 ((rd_T26 l0 (ji31)).f1), .bool ((rd_T26 l0 (ji31)).f2), .string (⟨#[]⟩ : ByteArray)]) ?_ 3 _ rfl; (with_reducible repeat first | apply Zn | apply Zd | apply Za); refine Zp (cs := #[.string ((rd_T26 l0 (ji31)).f0), .int .i64 ((rd_T26 l0 (ji31)).f1), .bool false, .string (⟨#[]⟩ : ByteArray)]) ?_ 2 _ rfl; (with_reducible repeat first | apply Zn | apply Zd | apply Za); refine Zp (cs := #[.string ((rd_T26 l0 (ji31)).f0), .int .i64 0, .bool false, .string (⟨#[]⟩ : ByteArray)]) ?_ 1 _ rfl; (with_reducible repeat first | apply Zn | apply Zd | apply Za); refine Zp (cs := #[.string (⟨#[]⟩ : ByteArray), .int .i64 0, .bool false, .string (⟨#[]⟩ : ByteArray)]) ?_ 0 _ rfl; (with_reducible repeat first | apply Zn | apply Zd | apply Za); exact BK244.out)) : gb244 ≠ gb246)); have n6_ := Aside0.mk ((by rw [hg]; exact Nat.ne_of_gt (blk_lt (g := gb244) (o := .cells #[.string ((rd_T26 l0 (ji31)).f0), .int .i64 ((rd_T26 l0 (ji31)).f1), .bool ((rd_T26 l0 (ji31)).f2), .string ((rd_T26 l0 (ji31)).f3)] 26 (0, 0)) (by (with_reducible repeat first | apply Zn | apply Zd | apply Za); refine Zp (cs := #[.string ((rd_T26 l0 (ji31)).f0), .int .i64 ((rd_T26 l0 (ji31)).f1), .bool ((rd_T26 l0 (ji31)).f2), .string (⟨#[]⟩ : ByteArray)]) ?_ 3 _ rfl; (with_reducible repeat first | apply Zn | apply Zd | apply Za); refine Zp (cs := #[.string ((rd_T26 l0 (ji31)).f0), .int .i64 ((rd_T26 l0 (ji31)).f1), .bool false, .string (⟨#[]⟩ : ByteArray)]) ?_ 2 _ rfl; (with_reducible repeat first | apply Zn | apply Zd | apply Za); refine Zp (cs := #[.string ((rd_T26 l0 (ji31)).f0), .int .i64 0, .bool false, .string (⟨#[]⟩ : ByteArray)]) ?_ 1 _ rfl; (with_reducible repeat first | apply Zn | apply Zd | apply Za); refine Zp (cs := #[.string (⟨#[]⟩ : ByteArray), .int .i64 0, .bool false, .string (⟨#[]⟩ : ByteArray)]) ?_ 0 _ rfl; (with_reducible repeat first | apply Zn | apply Zd | apply Za); exact BK244.out)) : gb246 ≠ gb244)); clear BK244; clear HB; have BK244 := n0_; have HB := n1_; have BK246 := n2_; have GW246 := n3_; have GE246 := n4_; have NB244_246 := n5_; have NB246_244 := n6_; clear n0_ n1_ n2_ n3_ n4_ n5_ n6_; clear hb hbox hg; obtain ⟨hnb41, hnc41⟩ := Zo NB246_244; obtain ⟨⟨hcz42_0, hcz42_1, hcz42_2, hcz42_3⟩, hfz42_0, hfz42_1, hfz42_2, hfz42_3⟩ := Zk4 BK246; obtain ⟨⟨hcz43_0, hcz43_1, hcz43_2, hcz43_3⟩, hfz43_0, hfz43_1, hfz43_2, hfz43_3⟩ := Zk4 BK244))
                   go_ret
                   first | (refine absurd c29b0 ?_; simp [*]; done) | exact ⟨by first | rfl | (simp [errW_none, errW_some] <;> rfl) | (simp only [← hji8, ← hji31]; first | rfl | (simp [errW_none, errW_some] <;> rfl)) | (simp [*, errW_none, errW_some] <;> rfl), Yr HB⟩
                  ·
                   rw [if_neg c37] at H
                   have c37b0 : (Op.bytesLess (((rd_T26 l0 (ji31)).f0).toList) (((rd_T26 l0 ji8).f0).toList)) = false := by simpa using c37
                   clear c37
                   by_cases c44 : ((rd_T26 l0 (ji31)).f0).toList = ((rd_T26 l0 ji8).f0).toList
                   ·
                    rw [if_pos c44] at H
                    have c44b0 : (((rd_T26 l0 (ji31)).f0).toList == ((rd_T26 l0 ji8).f0).toList) = true := beq_iff_eq.mpr c44
                    have c44b1 : (((rd_T26 l0 (ji31)).f0).toList != ((rd_T26 l0 ji8).f0).toList) = false := bne_eq_false_iff_eq.mpr c44
                    clear c44
                    obtain rfl := Option.some.inj H
                    have p243 : 0 ≤ ((ji31) : Int) := of_decide_eq_true (by first | (with_reducible assumption) | assumption)
                    have q243 : (ji31) < (l0.length : Int) := of_decide_eq_true (by first | (with_reducible assumption) | assumption)
                    obtain ⟨ad243, e243, hx243_0, hx243_1, hx243_2, hx243_3⟩ := at_T26 HR0.out (ji31) p243 q243
                    cases e243
                    replace hx243_0 := (HB.out.cell (World.block_lt_of_cell? w _ hx243_0)).trans hx243_0
                    replace hx243_1 := (HB.out.cell (World.block_lt_of_cell? w _ hx243_1)).trans hx243_1
                    replace hx243_2 := (HB.out.cell (World.block_lt_of_cell? w _ hx243_2)).trans hx243_2
                    replace hx243_3 := (HB.out.cell (World.block_lt_of_cell? w _ hx243_3)).trans hx243_3
                    replace p243 := eq_true p243
                    replace q243 := eq_true q243
                    go_wp2_with (first | ((with_reducible refine gate_dst (N := 9) rfl ?_); (try (refine gate_guard (by rfl) ?_; dsimp only)); refine box_event ?hg (N := 9) ?hd (cs := #[.string (⟨#[]⟩ : ByteArray), .int .i64 0, .bool false, .string (⟨#[]⟩ : ByteArray)]) (t := 26) ?hr ?_; (case hd => rfl); (case hg => rfl); (case hr => first | (go_simp; done) | (go_simp; rfl)); intro gb244 hg w45 hbox hb; have n0_ := Aside0.mk (Yv HB hb); have n1_ := Aside0.mk (hbox); have n2_ := Aside0.mk (Yg HB hg); have n3_ := Aside0.mk (Yg HB hg); clear HB; have HB := n0_; have BK244 := n1_; have GW244 := n2_; have GE244 := n3_; clear n0_ n1_ n2_ n3_; clear hb hbox hg; obtain ⟨⟨hcz46_0, hcz46_1, hcz46_2, hcz46_3⟩, hfz46_0, hfz46_1, hfz46_2, hfz46_3⟩ := Zk4 BK244; have p245 : 0 ≤ (ji8 : Int) := of_decide_eq_true (by first | (with_reducible assumption) | assumption); have q245 : ji8 < (l0.length : Int) := of_decide_eq_true (by first | (with_reducible assumption) | assumption); obtain ⟨ad245, e245, hx245_0, hx245_1, hx245_2, hx245_3⟩ := at_T26 HR0.out ji8 p245 q245; obtain rfl : ad243 = ad245 := (by injection e245); have hn245_0 : ad243.block ≠ gb244 := Nat.ne_of_lt (Nat.lt_of_lt_of_le (by have := World.block_lt_of_cell? _ _ hx245_0; first | rwa [add_block] at this | exact this) GW244.out); have hn245_1 : ad243.block ≠ gb244 := Nat.ne_of_lt (Nat.lt_of_lt_of_le (by have := World.block_lt_of_cell? _ _ hx245_0; first | rwa [add_block] at this | exact this) GW244.out); have hn245_2 : ad243.block ≠ gb244 := Nat.ne_of_lt (Nat.lt_of_lt_of_le (by have := World.block_lt_of_cell? _ _ hx245_0; first | rwa [add_block] at this | exact this) GW244.out); have hn245_3 : ad243.block ≠ gb244 := Nat.ne_of_lt (Nat.lt_of_lt_of_le (by have := World.block_lt_of_cell? _ _ hx245_0; first | rwa [add_block] at this | exact this) GW244.out); replace hx245_0 := (HB.out.cell (World.block_lt_of_cell? w _ hx245_0)).trans hx245_0; replace hx245_1 := (HB.out.cell (World.block_lt_of_cell? w _ hx245_1)).trans hx245_1; replace hx245_2 := (HB.out.cell (World.block_lt_of_cell? w _ hx245_2)).trans hx245_2; replace hx245_3 := (HB.out.cell (World.block_lt_of_cell? w _ hx245_3)).trans hx245_3; replace hx245_0 := (cell_far (p := ⟨gb244, 0, none⟩) (by first | (rw [add_block]; exact hn245_0) | (show (Addr.add _ _).block ≠ _; rw [add_block]; exact hn245_0) | exact hn245_0) (.string ((rd_T26 l0 (ji31)).f0))).trans hx245_0; replace hx245_1 := (cell_far (p := ⟨gb244, 0, none⟩) (by first | (rw [add_block]; exact hn245_0) | (show (Addr.add _ _).block ≠ _; rw [add_block]; exact hn245_0) | exact hn245_0) (.string ((rd_T26 l0 (ji31)).f0))).trans hx245_1; replace hx245_2 := (cell_far (p := ⟨gb244, 0, none⟩) (by first | (rw [add_block]; exact hn245_0) | (show (Addr.add _ _).block ≠ _; rw [add_block]; exact hn245_0) | exact hn245_0) (.string ((rd_T26 l0 (ji31)).f0))).trans hx245_2; replace hx245_3 := (cell_far (p := ⟨gb244, 0, none⟩) (by first | (rw [add_block]; exact hn245_0) | (show (Addr.add _ _).block ≠ _; rw [add_block]; exact hn245_0) | exact hn245_0) (.string ((rd_T26 l0 (ji31)).f0))).trans hx245_3; replace hx245_0 := (cell_far (p := ⟨gb244, 1, none⟩) (by first | (rw [add_block]; exact hn245_1) | (show (Addr.add _ _).block ≠ _; rw [add_block]; exact hn245_1) | exact hn245_1) (.int .i64 ((rd_T26 l0 (ji31)).f1))).trans hx245_0; replace hx245_1 := (cell_far (p := ⟨gb244, 1, none⟩) (by first | (rw [add_block]; exact hn245_1) | (show (Addr.add _ _).block ≠ _; rw [add_block]; exact hn245_1) | exact hn245_1) (.int .i64 ((rd_T26 l0 (ji31)).f1))).trans hx245_1; replace hx245_2 := (cell_far (p := ⟨gb244, 1, none⟩) (by first | (rw [add_block]; exact hn245_1) | (show (Addr.add _ _).block ≠ _; rw [add_block]; exact hn245_1) | exact hn245_1) (.int .i64 ((rd_T26 l0 (ji31)).f1))).trans hx245_2; replace hx245_3 := (cell_far (p := ⟨gb244, 1, none⟩) (by first | (rw [add_block]; exact hn245_1) | (show (Addr.add _ _).block ≠ _; rw [add_block]; exact hn245_1) | exact hn245_1) (.int .i64 ((rd_T26 l0 (ji31)).f1))).trans hx245_3; replace hx245_0 := (cell_far (p := ⟨gb244, 2, none⟩) (by first | (rw [add_block]; exact hn245_2) | (show (Addr.add _ _).block ≠ _; rw [add_block]; exact hn245_2) | exact hn245_2) (.bool ((rd_T26 l0 (ji31)).f2))).trans hx245_0; replace hx245_1 := (cell_far (p := ⟨gb244, 2, none⟩) (by first | (rw [add_block]; exact hn245_2) | (show (Addr.add _ _).block ≠ _; rw [add_block]; exact hn245_2) | exact hn245_2) (.bool ((rd_T26 l0 (ji31)).f2))).trans hx245_1; replace hx245_2 := (cell_far (p := ⟨gb244, 2, none⟩) (by first | (rw [add_block]; exact hn245_2) | (show (Addr.add _ _).block ≠ _; rw [add_block]; exact hn245_2) | exact hn245_2) (.bool ((rd_T26 l0 (ji31)).f2))).trans hx245_2; replace hx245_3 := (cell_far (p := ⟨gb244, 2, none⟩) (by first | (rw [add_block]; exact hn245_2) | (show (Addr.add _ _).block ≠ _; rw [add_block]; exact hn245_2) | exact hn245_2) (.bool ((rd_T26 l0 (ji31)).f2))).trans hx245_3; replace hx245_0 := (cell_far (p := ⟨gb244, 3, none⟩) (by first | (rw [add_block]; exact hn245_3) | (show (Addr.add _ _).block ≠ _; rw [add_block]; exact hn245_3) | exact hn245_3) (.string ((rd_T26 l0 (ji31)).f3))).trans hx245_0; replace hx245_1 := (cell_far (p := ⟨gb244, 3, none⟩) (by first | (rw [add_block]; exact hn245_3) | (show (Addr.add _ _).block ≠ _; rw [add_block]; exact hn245_3) | exact hn245_3) (.string ((rd_T26 l0 (ji31)).f3))).trans hx245_1; replace hx245_2 := (cell_far (p := ⟨gb244, 3, none⟩) (by first | (rw [add_block]; exact hn245_3) | (show (Addr.add _ _).block ≠ _; rw [add_block]; exact hn245_3) | exact hn245_3) (.string ((rd_T26 l0 (ji31)).f3))).trans hx245_2; replace hx245_3 := (cell_far (p := ⟨gb244, 3, none⟩) (by first | (rw [add_block]; exact hn245_3) | (show (Addr.add _ _).block ≠ _; rw [add_block]; exact hn245_3) | exact hn245_3) (.string ((rd_T26 l0 (ji31)).f3))).trans hx245_3; clear hn245_0; clear hn245_1; clear hn245_2; clear hn245_3; replace p245 := eq_true p245; replace q245 := eq_true q245) | ((with_reducible refine gate_dst (N := 10) rfl ?_); (try (refine gate_guard (by rfl) ?_; dsimp only)); refine box_event ?hg (N := 10) ?hd (cs := #[.string (⟨#[]⟩ : ByteArray), .int .i64 0, .bool false, .string (⟨#[]⟩ : ByteArray)]) (t := 26) ?hr ?_; (case hd => rfl); (case hg => rfl); (case hr => first | (go_simp; done) | (go_simp; rfl)); intro gb246 hg w47 hbox hb; have n0_ := Aside0.mk (Zb (g := gb244) (o := .cells #[.string ((rd_T26 l0 (ji31)).f0), .int .i64 ((rd_T26 l0 (ji31)).f1), .bool ((rd_T26 l0 (ji31)).f2), .string ((rd_T26 l0 (ji31)).f3)] 26 (0, 0)) (by (with_reducible repeat first | apply Zn | apply Zd | apply Za); refine Zp (cs := #[.string ((rd_T26 l0 (ji31)).f0), .int .i64 ((rd_T26 l0 (ji31)).f1), .bool ((rd_T26 l0 (ji31)).f2), .string (⟨#[]⟩ : ByteArray)]) ?_ 3 _ rfl; (with_reducible repeat first | apply Zn | apply Zd | apply Za); refine Zp (cs := #[.string ((rd_T26 l0 (ji31)).f0), .int .i64 ((rd_T26 l0 (ji31)).f1), .bool false, .string (⟨#[]⟩ : ByteArray)]) ?_ 2 _ rfl; (with_reducible repeat first | apply Zn | apply Zd | apply Za); refine Zp (cs := #[.string ((rd_T26 l0 (ji31)).f0), .int .i64 0, .bool false, .string (⟨#[]⟩ : ByteArray)]) ?_ 1 _ rfl; (with_reducible repeat first | apply Zn | apply Zd | apply Za); refine Zp (cs := #[.string (⟨#[]⟩ : ByteArray), .int .i64 0, .bool false, .string (⟨#[]⟩ : ByteArray)]) ?_ 0 _ rfl; (with_reducible repeat first | apply Zn | apply Zd | apply Za); exact BK244.out) hb); have n1_ := Aside0.mk (Yv HB hb); have n2_ := Aside0.mk (hbox); have n3_ := Aside0.mk (Yg HB hg); have n4_ := Aside0.mk (Yg HB hg); have n5_ := Aside0.mk ((by rw [hg]; exact Nat.ne_of_lt (blk_lt (g := gb244) (o := .cells #[.string ((rd_T26 l0 (ji31)).f0), .int .i64 ((rd_T26 l0 (ji31)).f1), .bool ((rd_T26 l0 (ji31)).f2), .string ((rd_T26 l0 (ji31)).f3)] 26 (0, 0)) (by (with_reducible repeat first | apply Zn | apply Zd | apply Za); refine Zp (cs := #[.string ((rd_T26 l0 (ji31)).f0), .int .i64 ((rd_T26 l0 (ji31)).f1), .bool ((rd_T26 l0 (ji31)).f2), .string (⟨#[]⟩ : ByteArray)]) ?_ 3 _ rfl; (with_reducible repeat first | apply Zn | apply Zd | apply Za); refine Zp (cs := #[.string ((rd_T26 l0 (ji31)).f0), .int .i64 ((rd_T26 l0 (ji31)).f1), .bool false, .string (⟨#[]⟩ : ByteArray)]) ?_ 2 _ rfl; (with_reducible repeat first | apply Zn | apply Zd | apply Za); refine Zp (cs := #[.string ((rd_T26 l0 (ji31)).f0), .int .i64 0, .bool false, .string (⟨#[]⟩ : ByteArray)]) ?_ 1 _ rfl; (with_reducible repeat first | apply Zn | apply Zd | apply Za); refine Zp (cs := #[.string (⟨#[]⟩ : ByteArray), .int .i64 0, .bool false, .string (⟨#[]⟩ : ByteArray)]) ?_ 0 _ rfl; (with_reducible repeat first | apply Zn | apply Zd | apply Za); exact BK244.out)) : gb244 ≠ gb246)); have n6_ := Aside0.mk ((by rw [hg]; exact Nat.ne_of_gt (blk_lt (g := gb244) (o := .cells #[.string ((rd_T26 l0 (ji31)).f0), .int .i64 ((rd_T26 l0 (ji31)).f1), .bool ((rd_T26 l0 (ji31)).f2), .string ((rd_T26 l0 (ji31)).f3)] 26 (0, 0)) (by (with_reducible repeat first | apply Zn | apply Zd | apply Za); refine Zp (cs := #[.string ((rd_T26 l0 (ji31)).f0), .int .i64 ((rd_T26 l0 (ji31)).f1), .bool ((rd_T26 l0 (ji31)).f2), .string (⟨#[]⟩ : ByteArray)]) ?_ 3 _ rfl; (with_reducible repeat first | apply Zn | apply Zd | apply Za); refine Zp (cs := #[.string ((rd_T26 l0 (ji31)).f0), .int .i64 ((rd_T26 l0 (ji31)).f1), .bool false, .string (⟨#[]⟩ : ByteArray)]) ?_ 2 _ rfl; (with_reducible repeat first | apply Zn | apply Zd | apply Za); refine Zp (cs := #[.string ((rd_T26 l0 (ji31)).f0), .int .i64 0, .bool false, .string (⟨#[]⟩ : ByteArray)]) ?_ 1 _ rfl; (with_reducible repeat first | apply Zn | apply Zd | apply Za); refine Zp (cs := #[.string (⟨#[]⟩ : ByteArray), .int .i64 0, .bool false, .string (⟨#[]⟩ : ByteArray)]) ?_ 0 _ rfl; (with_reducible repeat first | apply Zn | apply Zd | apply Za); exact BK244.out)) : gb246 ≠ gb244)); clear BK244; clear HB; have BK244 := n0_; have HB := n1_; have BK246 := n2_; have GW246 := n3_; have GE246 := n4_; have NB244_246 := n5_; have NB246_244 := n6_; clear n0_ n1_ n2_ n3_ n4_ n5_ n6_; clear hb hbox hg; obtain ⟨hnb48, hnc48⟩ := Zo NB246_244; obtain ⟨⟨hcz49_0, hcz49_1, hcz49_2, hcz49_3⟩, hfz49_0, hfz49_1, hfz49_2, hfz49_3⟩ := Zk4 BK246; obtain ⟨⟨hcz50_0, hcz50_1, hcz50_2, hcz50_3⟩, hfz50_0, hfz50_1, hfz50_2, hfz50_3⟩ := Zk4 BK244))
                    go_ret
                    first | (refine absurd c29b0 ?_; simp [*]; done) | (refine absurd c44b0 ?_; simp [*]; done) | exact ⟨by first | rfl | (simp [errW_none, errW_some] <;> rfl) | (simp only [← hji8, ← hji31]; first | rfl | (simp [errW_none, errW_some] <;> rfl)) | (simp [*, errW_none, errW_some] <;> rfl), Yr HB⟩
                   ·
                    rw [if_neg c44] at H
                    have c44b0 : (((rd_T26 l0 (ji31)).f0).toList == ((rd_T26 l0 ji8).f0).toList) = false := beq_eq_false_iff_ne.mpr c44
                    have c44b1 : (((rd_T26 l0 (ji31)).f0).toList != ((rd_T26 l0 ji8).f0).toList) = true := bne_iff_ne.mpr c44
                    obtain rfl := Option.some.inj H
                    have p243 : 0 ≤ ((ji31) : Int) := of_decide_eq_true (by first | (with_reducible assumption) | assumption)
                    have q243 : (ji31) < (l0.length : Int) := of_decide_eq_true (by first | (with_reducible assumption) | assumption)
                    obtain ⟨ad243, e243, hx243_0, hx243_1, hx243_2, hx243_3⟩ := at_T26 HR0.out (ji31) p243 q243
                    cases e243
                    replace hx243_0 := (HB.out.cell (World.block_lt_of_cell? w _ hx243_0)).trans hx243_0
                    replace hx243_1 := (HB.out.cell (World.block_lt_of_cell? w _ hx243_1)).trans hx243_1
                    replace hx243_2 := (HB.out.cell (World.block_lt_of_cell? w _ hx243_2)).trans hx243_2
                    replace hx243_3 := (HB.out.cell (World.block_lt_of_cell? w _ hx243_3)).trans hx243_3
                    replace p243 := eq_true p243
                    replace q243 := eq_true q243
                    go_wp2_with (first | ((with_reducible refine gate_dst (N := 9) rfl ?_); (try (refine gate_guard (by rfl) ?_; dsimp only)); refine box_event ?hg (N := 9) ?hd (cs := #[.string (⟨#[]⟩ : ByteArray), .int .i64 0, .bool false, .string (⟨#[]⟩ : ByteArray)]) (t := 26) ?hr ?_; (case hd => rfl); (case hg => rfl); (case hr => first | (go_simp; done) | (go_simp; rfl)); intro gb244 hg w51 hbox hb; have n0_ := Aside0.mk (Yv HB hb); have n1_ := Aside0.mk (hbox); have n2_ := Aside0.mk (Yg HB hg); have n3_ := Aside0.mk (Yg HB hg); clear HB; have HB := n0_; have BK244 := n1_; have GW244 := n2_; have GE244 := n3_; clear n0_ n1_ n2_ n3_; clear hb hbox hg; obtain ⟨⟨hcz52_0, hcz52_1, hcz52_2, hcz52_3⟩, hfz52_0, hfz52_1, hfz52_2, hfz52_3⟩ := Zk4 BK244; have p245 : 0 ≤ (ji8 : Int) := of_decide_eq_true (by first | (with_reducible assumption) | assumption); have q245 : ji8 < (l0.length : Int) := of_decide_eq_true (by first | (with_reducible assumption) | assumption); obtain ⟨ad245, e245, hx245_0, hx245_1, hx245_2, hx245_3⟩ := at_T26 HR0.out ji8 p245 q245; obtain rfl : ad243 = ad245 := (by injection e245); have hn245_0 : ad243.block ≠ gb244 := Nat.ne_of_lt (Nat.lt_of_lt_of_le (by have := World.block_lt_of_cell? _ _ hx245_0; first | rwa [add_block] at this | exact this) GW244.out); have hn245_1 : ad243.block ≠ gb244 := Nat.ne_of_lt (Nat.lt_of_lt_of_le (by have := World.block_lt_of_cell? _ _ hx245_0; first | rwa [add_block] at this | exact this) GW244.out); have hn245_2 : ad243.block ≠ gb244 := Nat.ne_of_lt (Nat.lt_of_lt_of_le (by have := World.block_lt_of_cell? _ _ hx245_0; first | rwa [add_block] at this | exact this) GW244.out); have hn245_3 : ad243.block ≠ gb244 := Nat.ne_of_lt (Nat.lt_of_lt_of_le (by have := World.block_lt_of_cell? _ _ hx245_0; first | rwa [add_block] at this | exact this) GW244.out); replace hx245_0 := (HB.out.cell (World.block_lt_of_cell? w _ hx245_0)).trans hx245_0; replace hx245_1 := (HB.out.cell (World.block_lt_of_cell? w _ hx245_1)).trans hx245_1; replace hx245_2 := (HB.out.cell (World.block_lt_of_cell? w _ hx245_2)).trans hx245_2; replace hx245_3 := (HB.out.cell (World.block_lt_of_cell? w _ hx245_3)).trans hx245_3; replace hx245_0 := (cell_far (p := ⟨gb244, 0, none⟩) (by first | (rw [add_block]; exact hn245_0) | (show (Addr.add _ _).block ≠ _; rw [add_block]; exact hn245_0) | exact hn245_0) (.string ((rd_T26 l0 (ji31)).f0))).trans hx245_0; replace hx245_1 := (cell_far (p := ⟨gb244, 0, none⟩) (by first | (rw [add_block]; exact hn245_0) | (show (Addr.add _ _).block ≠ _; rw [add_block]; exact hn245_0) | exact hn245_0) (.string ((rd_T26 l0 (ji31)).f0))).trans hx245_1; replace hx245_2 := (cell_far (p := ⟨gb244, 0, none⟩) (by first | (rw [add_block]; exact hn245_0) | (show (Addr.add _ _).block ≠ _; rw [add_block]; exact hn245_0) | exact hn245_0) (.string ((rd_T26 l0 (ji31)).f0))).trans hx245_2; replace hx245_3 := (cell_far (p := ⟨gb244, 0, none⟩) (by first | (rw [add_block]; exact hn245_0) | (show (Addr.add _ _).block ≠ _; rw [add_block]; exact hn245_0) | exact hn245_0) (.string ((rd_T26 l0 (ji31)).f0))).trans hx245_3; replace hx245_0 := (cell_far (p := ⟨gb244, 1, none⟩) (by first | (rw [add_block]; exact hn245_1) | (show (Addr.add _ _).block ≠ _; rw [add_block]; exact hn245_1) | exact hn245_1) (.int .i64 ((rd_T26 l0 (ji31)).f1))).trans hx245_0; replace hx245_1 := (cell_far (p := ⟨gb244, 1, none⟩) (by first | (rw [add_block]; exact hn245_1) | (show (Addr.add _ _).block ≠ _; rw [add_block]; exact hn245_1) | exact hn245_1) (.int .i64 ((rd_T26 l0 (ji31)).f1))).trans hx245_1; replace hx245_2 := (cell_far (p := ⟨gb244, 1, none⟩) (by first | (rw [add_block]; exact hn245_1) | (show (Addr.add _ _).block ≠ _; rw [add_block]; exact hn245_1) | exact hn245_1) (.int .i64 ((rd_T26 l0 (ji31)).f1))).trans hx245_2; replace hx245_3 := (cell_far (p := ⟨gb244, 1, none⟩) (by first | (rw [add_block]; exact hn245_1) | (show (Addr.add _ _).block ≠ _; rw [add_block]; exact hn245_1) | exact hn245_1) (.int .i64 ((rd_T26 l0 (ji31)).f1))).trans hx245_3; replace hx245_0 := (cell_far (p := ⟨gb244, 2, none⟩) (by first | (rw [add_block]; exact hn245_2) | (show (Addr.add _ _).block ≠ _; rw [add_block]; exact hn245_2) | exact hn245_2) (.bool ((rd_T26 l0 (ji31)).f2))).trans hx245_0; replace hx245_1 := (cell_far (p := ⟨gb244, 2, none⟩) (by first | (rw [add_block]; exact hn245_2) | (show (Addr.add _ _).block ≠ _; rw [add_block]; exact hn245_2) | exact hn245_2) (.bool ((rd_T26 l0 (ji31)).f2))).trans hx245_1; replace hx245_2 := (cell_far (p := ⟨gb244, 2, none⟩) (by first | (rw [add_block]; exact hn245_2) | (show (Addr.add _ _).block ≠ _; rw [add_block]; exact hn245_2) | exact hn245_2) (.bool ((rd_T26 l0 (ji31)).f2))).trans hx245_2; replace hx245_3 := (cell_far (p := ⟨gb244, 2, none⟩) (by first | (rw [add_block]; exact hn245_2) | (show (Addr.add _ _).block ≠ _; rw [add_block]; exact hn245_2) | exact hn245_2) (.bool ((rd_T26 l0 (ji31)).f2))).trans hx245_3; replace hx245_0 := (cell_far (p := ⟨gb244, 3, none⟩) (by first | (rw [add_block]; exact hn245_3) | (show (Addr.add _ _).block ≠ _; rw [add_block]; exact hn245_3) | exact hn245_3) (.string ((rd_T26 l0 (ji31)).f3))).trans hx245_0; replace hx245_1 := (cell_far (p := ⟨gb244, 3, none⟩) (by first | (rw [add_block]; exact hn245_3) | (show (Addr.add _ _).block ≠ _; rw [add_block]; exact hn245_3) | exact hn245_3) (.string ((rd_T26 l0 (ji31)).f3))).trans hx245_1; replace hx245_2 := (cell_far (p := ⟨gb244, 3, none⟩) (by first | (rw [add_block]; exact hn245_3) | (show (Addr.add _ _).block ≠ _; rw [add_block]; exact hn245_3) | exact hn245_3) (.string ((rd_T26 l0 (ji31)).f3))).trans hx245_2; replace hx245_3 := (cell_far (p := ⟨gb244, 3, none⟩) (by first | (rw [add_block]; exact hn245_3) | (show (Addr.add _ _).block ≠ _; rw [add_block]; exact hn245_3) | exact hn245_3) (.string ((rd_T26 l0 (ji31)).f3))).trans hx245_3; clear hn245_0; clear hn245_1; clear hn245_2; clear hn245_3; replace p245 := eq_true p245; replace q245 := eq_true q245) | ((with_reducible refine gate_dst (N := 10) rfl ?_); (try (refine gate_guard (by rfl) ?_; dsimp only)); refine box_event ?hg (N := 10) ?hd (cs := #[.string (⟨#[]⟩ : ByteArray), .int .i64 0, .bool false, .string (⟨#[]⟩ : ByteArray)]) (t := 26) ?hr ?_; (case hd => rfl); (case hg => rfl); (case hr => first | (go_simp; done) | (go_simp; rfl)); intro gb246 hg w53 hbox hb; have n0_ := Aside0.mk (Zb (g := gb244) (o := .cells #[.string ((rd_T26 l0 (ji31)).f0), .int .i64 ((rd_T26 l0 (ji31)).f1), .bool ((rd_T26 l0 (ji31)).f2), .string ((rd_T26 l0 (ji31)).f3)] 26 (0, 0)) (by (with_reducible repeat first | apply Zn | apply Zd | apply Za); refine Zp (cs := #[.string ((rd_T26 l0 (ji31)).f0), .int .i64 ((rd_T26 l0 (ji31)).f1), .bool ((rd_T26 l0 (ji31)).f2), .string (⟨#[]⟩ : ByteArray)]) ?_ 3 _ rfl; (with_reducible repeat first | apply Zn | apply Zd | apply Za); refine Zp (cs := #[.string ((rd_T26 l0 (ji31)).f0), .int .i64 ((rd_T26 l0 (ji31)).f1), .bool false, .string (⟨#[]⟩ : ByteArray)]) ?_ 2 _ rfl; (with_reducible repeat first | apply Zn | apply Zd | apply Za); refine Zp (cs := #[.string ((rd_T26 l0 (ji31)).f0), .int .i64 0, .bool false, .string (⟨#[]⟩ : ByteArray)]) ?_ 1 _ rfl; (with_reducible repeat first | apply Zn | apply Zd | apply Za); refine Zp (cs := #[.string (⟨#[]⟩ : ByteArray), .int .i64 0, .bool false, .string (⟨#[]⟩ : ByteArray)]) ?_ 0 _ rfl; (with_reducible repeat first | apply Zn | apply Zd | apply Za); exact BK244.out) hb); have n1_ := Aside0.mk (Yv HB hb); have n2_ := Aside0.mk (hbox); have n3_ := Aside0.mk (Yg HB hg); have n4_ := Aside0.mk (Yg HB hg); have n5_ := Aside0.mk ((by rw [hg]; exact Nat.ne_of_lt (blk_lt (g := gb244) (o := .cells #[.string ((rd_T26 l0 (ji31)).f0), .int .i64 ((rd_T26 l0 (ji31)).f1), .bool ((rd_T26 l0 (ji31)).f2), .string ((rd_T26 l0 (ji31)).f3)] 26 (0, 0)) (by (with_reducible repeat first | apply Zn | apply Zd | apply Za); refine Zp (cs := #[.string ((rd_T26 l0 (ji31)).f0), .int .i64 ((rd_T26 l0 (ji31)).f1), .bool ((rd_T26 l0 (ji31)).f2), .string (⟨#[]⟩ : ByteArray)]) ?_ 3 _ rfl; (with_reducible repeat first | apply Zn | apply Zd | apply Za); refine Zp (cs := #[.string ((rd_T26 l0 (ji31)).f0), .int .i64 ((rd_T26 l0 (ji31)).f1), .bool false, .string (⟨#[]⟩ : ByteArray)]) ?_ 2 _ rfl; (with_reducible repeat first | apply Zn | apply Zd | apply Za); refine Zp (cs := #[.string ((rd_T26 l0 (ji31)).f0), .int .i64 0, .bool false, .string (⟨#[]⟩ : ByteArray)]) ?_ 1 _ rfl; (with_reducible repeat first | apply Zn | apply Zd | apply Za); refine Zp (cs := #[.string (⟨#[]⟩ : ByteArray), .int .i64 0, .bool false, .string (⟨#[]⟩ : ByteArray)]) ?_ 0 _ rfl; (with_reducible repeat first | apply Zn | apply Zd | apply Za); exact BK244.out)) : gb244 ≠ gb246)); have n6_ := Aside0.mk ((by rw [hg]; exact Nat.ne_of_gt (blk_lt (g := gb244) (o := .cells #[.string ((rd_T26 l0 (ji31)).f0), .int .i64 ((rd_T26 l0 (ji31)).f1), .bool ((rd_T26 l0 (ji31)).f2), .string ((rd_T26 l0 (ji31)).f3)] 26 (0, 0)) (by (with_reducible repeat first | apply Zn | apply Zd | apply Za); refine Zp (cs := #[.string ((rd_T26 l0 (ji31)).f0), .int .i64 ((rd_T26 l0 (ji31)).f1), .bool ((rd_T26 l0 (ji31)).f2), .string (⟨#[]⟩ : ByteArray)]) ?_ 3 _ rfl; (with_reducible repeat first | apply Zn | apply Zd | apply Za); refine Zp (cs := #[.string ((rd_T26 l0 (ji31)).f0), .int .i64 ((rd_T26 l0 (ji31)).f1), .bool false, .string (⟨#[]⟩ : ByteArray)]) ?_ 2 _ rfl; (with_reducible repeat first | apply Zn | apply Zd | apply Za); refine Zp (cs := #[.string ((rd_T26 l0 (ji31)).f0), .int .i64 0, .bool false, .string (⟨#[]⟩ : ByteArray)]) ?_ 1 _ rfl; (with_reducible repeat first | apply Zn | apply Zd | apply Za); refine Zp (cs := #[.string (⟨#[]⟩ : ByteArray), .int .i64 0, .bool false, .string (⟨#[]⟩ : ByteArray)]) ?_ 0 _ rfl; (with_reducible repeat first | apply Zn | apply Zd | apply Za); exact BK244.out)) : gb246 ≠ gb244)); clear BK244; clear HB; have BK244 := n0_; have HB := n1_; have BK246 := n2_; have GW246 := n3_; have GE246 := n4_; have NB244_246 := n5_; have NB246_244 := n6_; clear n0_ n1_ n2_ n3_ n4_ n5_ n6_; clear hb hbox hg; obtain ⟨hnb54, hnc54⟩ := Zo NB246_244; obtain ⟨⟨hcz55_0, hcz55_1, hcz55_2, hcz55_3⟩, hfz55_0, hfz55_1, hfz55_2, hfz55_3⟩ := Zk4 BK246; obtain ⟨⟨hcz56_0, hcz56_1, hcz56_2, hcz56_3⟩, hfz56_0, hfz56_1, hfz56_2, hfz56_3⟩ := Zk4 BK244))
                    go_ret
                    first | (refine absurd c29b0 ?_; simp [*]; done) | (refine absurd c44b0 ?_; simp [*]; done) | exact ⟨by first | rfl | (simp [errW_none, errW_some] <;> rfl) | (simp only [← hji8, ← hji31]; first | rfl | (simp [errW_none, errW_some] <;> rfl)) | (simp [*, errW_none, errW_some] <;> rfl), Yr HB⟩
                 ·
                  replace c36 := Bool.eq_false_iff.mpr c36
                  subst c36
                  have H1 : (some false) = some r := by rw [if_neg (show ¬ (false = true) by decide)] at H; exact H
                  clear H
                  have H := H1
                  clear H1
                  exact absurd ((Option.some.inj H).trans HRT_.out) (by decide)
                ·
                 rw [if_neg c35] at H
                 exact absurd H (by simp)
               ·
                rw [if_neg c34] at H
                exact absurd H (by simp)
              ·
               rw [if_neg c33] at H
               exact absurd H (by simp)
             ·
              rw [if_neg c32] at H
              exact absurd H (by simp)
          ·
           replace c26 := Bool.eq_false_iff.mpr c26
           subst c26
           have H1 : (if t231 = true then (some true) else (some false)) = some r := by rw [if_neg (show ¬ (false = true) by decide)] at H; exact H
           clear H
           have H := H1
           clear H1
           by_cases c57 : t231 = true
           ·
            subst c57
            have H1 : (some true) = some r := by rw [if_pos rfl] at H; exact H
            clear H
            have H := H1
            clear H1
            obtain rfl := Option.some.inj H
            go_wp2
            go_ret
            exact ⟨by first | rfl | (simp [errW_none, errW_some] <;> rfl) | (simp only [← hji8]; first | rfl | (simp [errW_none, errW_some] <;> rfl)) | (simp [*, errW_none, errW_some] <;> rfl), Yr HB⟩
           ·
            replace c57 := Bool.eq_false_iff.mpr c57
            subst c57
            have H1 : (some false) = some r := by rw [if_neg (show ¬ (false = true) by decide)] at H; exact H
            clear H
            have H := H1
            clear H1
            exact absurd ((Option.some.inj H).trans HRT_.out) (by decide)
         ·
          replace c25 := Bool.eq_false_iff.mpr c25
          subst c25
          have H1 : (if t231 = true then (some true) else (some false)) = some r := by rw [if_neg (show ¬ (false = true) by decide)] at H; exact H
          clear H
          have H := H1
          clear H1
          by_cases c58 : t231 = true
          ·
           subst c58
           have H1 : (some true) = some r := by rw [if_pos rfl] at H; exact H
           clear H
           have H := H1
           clear H1
           obtain rfl := Option.some.inj H
           go_wp2
           go_ret
           exact ⟨by first | rfl | (simp [errW_none, errW_some] <;> rfl) | (simp only [← hji8]; first | rfl | (simp [errW_none, errW_some] <;> rfl)) | (simp [*, errW_none, errW_some] <;> rfl), Yr HB⟩
          ·
           replace c58 := Bool.eq_false_iff.mpr c58
           subst c58
           have H1 : (some false) = some r := by rw [if_neg (show ¬ (false = true) by decide)] at H; exact H
           clear H
           have H := H1
           clear H1
           exact absurd ((Option.some.inj H).trans HRT_.out) (by decide)
     ·
      rw [if_neg c10] at H
      exact absurd H (by simp)
    ·
     rw [if_neg c9] at H
     exact absurd H (by simp)

/-- THE ONE PURE STATEMENT of palinodelaw12_BlockParts. -/
def palinodelaw12_BlockParts.Pure : Prop := (∀ k_ r_, palinodelaw12_examples.f k_ = some r_ → r_ = true) ∧ ∀ (l0 : List (S26)) (a1 : Int), (l0.length ≤ maxLen ∧ l0.length * 48 ≤ 140737488351232 ∧ ∀ x_ ∈ l0, V26 x_) → (Lit.int .i64 a1).wf = true → ∃ k, palinodelaw12_BlockParts.f k l0 a1 = some true
theorem palinodelaw12_BlockParts.walk (P : palinodelaw12_BlockParts.Pure) (A0 : Option Addr) (c0 : Nat) (l0 : List (S26)) (a1 : Int) (w : World) (hr0 : Kd.C k26 w A0 l0.length l0) (hc0 : l0.length ≤ c0) (v0 : (l0.length ≤ maxLen ∧ l0.length * 48 ≤ 140737488351232 ∧ ∀ x_ ∈ l0, V26 x_)) (v1 : (Lit.int .i64 a1).wf = true) :
  Calls Try.prog 3 #[.slice A0 l0.length c0, .int .i64 a1] w fun e w' => e = .returned (.bool true) ∧ Below w.heap.size w w' := by
 obtain ⟨k, h⟩ := P.2 l0 a1 v0 v1
 refine (palinodelaw12_BlockParts.calls k A0 c0 l0 a1 true w hr0 hc0 h ⟨P.1⟩).mono ?_
 rintro e w' ⟨rfl, hd⟩
 exact ⟨rfl, hd⟩

/-! ### palinodelaw12_BlockShort: function 4 -/
def palinodelaw12_BlockShort.l0 : Nat → List (S26) → Bool → ByteArray → Int → Int → Option (Bool)
 | 0, _, _, _, _, _ => none
 | k + 1, x0, x3, x4, x6, x7 => if x7 < (x0.length : Int) then (if 0 ≤ x7 then (if x7 ≤ (wrap64 (x7 + 1)) then (if (wrap64 (x7 + 1)) ≤ (x0.length : Int) then ((block_Encode.f ((x0.take ((wrap64 (x7 + 1)) : Int).toNat).drop (x7 : Int).toNat)).bind fun bt259 => (if bt259.2.isNone = true then (palinodelaw12_BlockShort.l0 k x0 x3 x4 (wrap64 ((wrap64 (x6 + (bt259.1.size : Int))) + 2)) (wrap64 (x7 + 1))) else (some false))) else (none)) else (none)) else (none)) else (if x3 = true then (some (decide ((x4.size : Int) ≤ x6))) else (some false))
def palinodelaw12_BlockShort.f (k : Nat) (l0 : List (S26)) : Option (Bool) := (palinodelaw12_examples.f k).bind fun t247 => (if 0 ≤ (mn (l0.length : Int) 60) then (if (mn (l0.length : Int) 60) ≤ (l0.length : Int) then ((some (l0.take ((mn (l0.length : Int) 60) : Int).toNat : List (S26))).bind fun y248 => ((block_Encode.f y248).bind fun bt252 => (if bt252.2.isNone = true then (palinodelaw12_BlockShort.l0 k y248 t247 bt252.1 3 0) else (if t247 = true then (some (bt252.1.toList == ([] : List UInt8))) else (some false))))) else (none)) else (none))
theorem palinodelaw12_BlockShort.mono_l : ∀ k, (∀ y0 y1 y2 y3 y4, LeO (palinodelaw12_BlockShort.l0 k y0 y1 y2 y3 y4) (palinodelaw12_BlockShort.l0 (k + 1) y0 y1 y2 y3 y4))
 | 0 => fun _ _ _ _ _ r h => by simp [palinodelaw12_BlockShort.l0] at h
 | k + 1 => by
  have ih0 := palinodelaw12_BlockShort.mono_l k
  ·
   intro y0 y1 y2 y3 y4
   unfold palinodelaw12_BlockShort.l0
   repeat' first
   | (with_reducible exact ih0 _ _ _ _ _)
   | (with_reducible exact palinodelaw12_examples.mono _)
   | (with_reducible exact LeO.refl _)
   | (with_reducible exact LeO.none _)
   | (with_reducible refine LeO.ite ?_ ?_)
   | (with_reducible refine LeO.bind ?_ (fun _ => ?_))
   | exact ih0 _ _ _ _ _
   | exact palinodelaw12_examples.mono _
   | exact LeO.none _
   | refine LeO.ite ?_ ?_
   | refine LeO.bind ?_ (fun _ => ?_)
theorem palinodelaw12_BlockShort.mono : ∀ a0 k, LeO (palinodelaw12_BlockShort.f k a0) (palinodelaw12_BlockShort.f (k + 1) a0) := by
 intro a0 k
 have ih0 := palinodelaw12_BlockShort.mono_l k
 unfold palinodelaw12_BlockShort.f
 repeat' first
   | (with_reducible exact ih0 _ _ _ _ _)
   | (with_reducible exact palinodelaw12_examples.mono _)
   | (with_reducible exact LeO.refl _)
   | (with_reducible exact LeO.none _)
   | (with_reducible refine LeO.ite ?_ ?_)
   | (with_reducible refine LeO.bind ?_ (fun _ => ?_))
   | exact ih0 _ _ _ _ _
   | exact palinodelaw12_examples.mono _
   | exact LeO.none _
   | refine LeO.ite ?_ ?_
   | refine LeO.bind ?_ (fun _ => ?_)
set_option maxHeartbeats 8000000 in
set_option maxRecDepth 100000 in
theorem palinodelaw12_BlockShort.calls (k : Nat) (A0 : Option Addr) (c0 : Nat) (l0 : List (S26)) (r : Bool) (w : World) (hr0 : Kd.C k26 w A0 l0.length l0) (hc0 : l0.length ≤ c0) (h : palinodelaw12_BlockShort.f k l0 = some r) (HEX_ : Aside0 (∀ k_ r_, palinodelaw12_examples.f k_ = some r_ → r_ = true)) (HRT_ : Aside0 (r = true) := by first | exact ⟨rfl⟩ | assumption) :
  Calls Try.prog 4 #[.slice A0 l0.length c0] w fun e w' => e = .returned (.bool r) ∧ Below w.heap.size w w' := by
 have hu29 := Try.underlying29
 have hu47 := Try.underlying47
 have HR0 := Aside0.mk hr0
 have HC0 := Aside0.mk hc0
 clear hr0 hc0
 have HB := Aside0.mk (Below.refl w.heap.size w)
 have H : ((palinodelaw12_examples.f k).bind fun t247 => (if 0 ≤ (mn (l0.length : Int) 60) then (if (mn (l0.length : Int) 60) ≤ (l0.length : Int) then ((some (l0.take ((mn (l0.length : Int) 60) : Int).toNat : List (S26))).bind fun y248 => ((block_Encode.f y248).bind fun bt252 => (if bt252.2.isNone = true then (palinodelaw12_BlockShort.l0 k y248 t247 bt252.1 3 0) else (if t247 = true then (some (bt252.1.toList == ([] : List UInt8))) else (some false))))) else (none)) else (none))) = some r := h
 clear h
 replace H := Option.bind_eq_some_iff.mp H
 obtain ⟨t247, A20, H⟩ := H
 replace H : (if 0 ≤ (mn (l0.length : Int) 60) then (if (mn (l0.length : Int) 60) ≤ (l0.length : Int) then ((some (l0.take ((mn (l0.length : Int) 60) : Int).toNat : List (S26))).bind fun y248 => ((block_Encode.f y248).bind fun bt252 => (if bt252.2.isNone = true then (palinodelaw12_BlockShort.l0 k y248 t247 bt252.1 3 0) else (if t247 = true then (some (bt252.1.toList == ([] : List UInt8))) else (some false))))) else (none)) else (none)) = some r := H
 have A2 := Aside0.mk A20
 have HTA2_ : Aside0 (t247 = true) := ⟨HEX_.out _ _ A20⟩
 clear A20
 obtain ⟨ji3, hji3⟩ : ∃ j_ : Int, (mn (l0.length : Int) 60) = j_ := ⟨_, rfl⟩
 replace H : (if 0 ≤ (ji3) then (if (ji3) ≤ (l0.length : Int) then ((some (l0.take ((ji3) : Int).toNat : List (S26))).bind fun y248 => ((block_Encode.f y248).bind fun bt252 => (if bt252.2.isNone = true then (palinodelaw12_BlockShort.l0 k y248 t247 bt252.1 3 0) else (if t247 = true then (some (bt252.1.toList == ([] : List UInt8))) else (some false))))) else (none)) else (none)) = some r := by first | (rw [hji3] at H; exact H) | (simp only [hji3] at H ⊢; exact H)
 (try rw [hji3] at A2)
 (try (have hji3h : ji3 ≤ 60 := by (rw [← hji3]; unfold mn; (repeat' split) <;> omega)))
 (try (have hji3g : ji3 ≤ 64 := by omega))
 (try (have hji3l : 0 ≤ ji3 := by (rw [← hji3]; unfold mn; (repeat' split) <;> omega)))
 (try (have hji3m : 0 ≤ ji3 := by omega))
 have hji3_ : (if 60 < (l0.length : Int) then 60 else (l0.length : Int)) = ji3 := hji3
 by_cases c4 : 0 ≤ (ji3)
 ·
  rw [if_pos c4] at H
  have c4b0 := eq_true c4
  have c4b1 : decide (0 ≤ (ji3)) = true := decide_eq_true c4
  clear c4
  by_cases c5 : (ji3) ≤ (l0.length : Int)
  ·
   rw [if_pos c5] at H
   have c5b0 := eq_true c5
   have c5b1 : decide ((ji3) ≤ (l0.length : Int)) = true := decide_eq_true c5
   clear c5
   obtain ⟨y248, hy248⟩ : ∃ y_ : List (S26), y_ = (l0.take ((ji3) : Int).toNat) := ⟨_, rfl⟩
   replace H : ((block_Encode.f y248).bind fun bt252 => (if bt252.2.isNone = true then (palinodelaw12_BlockShort.l0 k y248 t247 bt252.1 3 0) else (if t247 = true then (some (bt252.1.toList == ([] : List UInt8))) else (some false)))) = some r := by first | (rw [hy248]; with_reducible exact H) | (have H2_ := (Option.bind_some _ _).symm.trans H; rw [hy248]; with_reducible exact H2_) | (have H2_ := (Option.bind_some _ _).symm.trans H; with_reducible exact H2_) | with_reducible exact H | (rw [hy248]; exact H) | exact H
   have Ny248 := Aside0.mk hy248
   clear hy248
   replace H := Option.bind_eq_some_iff.mp H
   obtain ⟨⟨t252, t253⟩, A60, H⟩ := H
   replace H : (if t253.isNone = true then (palinodelaw12_BlockShort.l0 k y248 t247 t252 3 0) else (if t247 = true then (some (t252.toList == ([] : List UInt8))) else (some false))) = some r := H
   have A6 := Aside0.mk A60
   clear A60
   rcases t253 with _ | q254
   ·
    have H1 : (palinodelaw12_BlockShort.l0 k y248 t247 t252 3 0) = some r := by rw [if_pos (show (none : Option Int).isNone = true by rfl)] at H; exact H
    clear H
    have H := H1
    clear H1
    try simp only [errW_none, errW_some]
    have H' := Aside0.mk H
    clear H
    go_enter Try.func4, Try.ntmps4
    go_wp2_with (first | ((with_reducible refine gate_callee (f := 9) rfl ?_); refine goesL_ (some 10) rfl rfl Try.func9 (by kernel_rfl) rfl #[] rfl (by (try simp only [List.map_toArray, List.map_cons, List.map_nil]); first | done | rfl | (simp only [List.length_drop, List.length_take]; rfl)) ?_; (with_reducible refine (palinodelaw12_examples.calls k  t247 _ A2.out).mono ?_); rintro e w7 ⟨rfl, hb⟩; refine ⟨_, rfl, ?_⟩; have n0_ := Aside0.mk (Yv HB hb); clear HB; have HB := n0_; clear n0_; (try clear hb); (try clear hb2); (try clear hk); (try clear hi); have q8 : ((ji3) : Int) ≤ ((l0.length : Int) : Int) := of_decide_eq_true (by first | (with_reducible assumption) | assumption); obtain ⟨i08, hi08, _, hsz8, _⟩ := info_parts info26; have hroom8 : l0.length ≤ c0 := HC0.out; have hC8 : Kd.C k26 _ A0 l0.length l0 := HR0.out; have hcut8 := cut_to (P := Try.prog) 22 26 .i64 Try.underlying22 hi08 A0 l0.length c0 (ji3) (of_decide_eq_true (by first | (with_reducible assumption) | assumption)) q8 hroom8; have hr8 := Kd.C_take (m := ((ji3) : Int).toNat) hC8 (by omega); have hy8 : y248.length = ((ji3) : Int).toNat := (by rw [Ny248.out, List.length_take]; omega); rw [← Ny248.out] at hr8; rw [← hy8] at hcut8; have HR251 := Aside0.mk hr8; have HC251 := Aside0.mk (show y248.length ≤ c0 from by omega); clear hr8 hC8 hroom8 hi08 hsz8; have KY8 := Aside0.mk hy8; clear hy8; replace q8 := eq_true q8) | ((with_reducible refine gate_callee (f := 11) rfl ?_); refine goesL_ (some 18) rfl rfl Try.func11 (by kernel_rfl) rfl #[.slice A0 y248.length c0] rfl (by (try simp only [List.map_toArray, List.map_cons, List.map_nil]); first | done | rfl | (simp only [List.length_drop, List.length_take]; rfl)) ?_; (with_reducible refine (block_Encode.calls _ _ y248 t252 none _ ?side1 ?side2 A6.out).mono ?_); (case side1 => repeat (first | exact (Kd.C_below HR251.out HB.out) | (with_reducible refine Kd.C_alloc ?_ _) | (with_reducible refine Kd.C_drewN ?_ _) | (with_reducible refine Kd.C_drew ?_))); (case side2 => exact HC251.out); rintro e w9 ⟨rfl, hb⟩; refine ⟨_, rfl, ?_⟩; have n0_ := Aside0.mk (Yv HB hb); clear HB; have HB := n0_; clear n0_; (try clear hb); (try clear hb2); (try clear hk); (try clear hi); (try simp only [errW_none, errW_some])))
    go_loopg [6, 7] k (fun kq v6 v7 w' => ∃ (x6_1 : Int) (x7_1 : Int), v6 = .int .i64 x6_1 ∧ v7 = .int .i64 x7_1 ∧ Aside0 (palinodelaw12_BlockShort.l0 kq y248 t247 t252 x6_1 x7_1 = some r) ∧ Aside0 (kq ≤ k) ∧ Aside0 (Below w.heap.size w w'))
    case atStart => exact ⟨(3), (0), (by first | rfl | (simp; done) | (simp [*]; done)), (by first | rfl | (simp; done) | (simp [*]; done)), H', ⟨Nat.le_refl _⟩, ⟨Yr HB⟩⟩
    case round =>
     clear H'
     try clear c1
     try clear p2
     try clear q2
     try clear c4
     try clear c4b0
     try clear c4b1
     try clear c5
     try clear c5b0
     try clear c5b1
     try clear q8
     try clear c9
     try clear q254
     try clear q8
     obtain ⟨x6_1, x7_1, rfl, rfl, HA, HK1, HB⟩ := hrel
     cases gk with
     | zero => exact absurd HA.out (by simp [palinodelaw12_BlockShort.l0])
     | succ k1 =>
      have H := HA.out
      clear HA
      simp only [palinodelaw12_BlockShort.l0] at H
      by_cases c10 : x7_1 < (y248.length : Int)
      ·
       rw [if_pos c10] at H
       have c10b0 : decide (x7_1 < (y248.length : Int)) = true := decide_eq_true c10
       clear c10
       by_cases c11 : 0 ≤ x7_1
       ·
        rw [if_pos c11] at H
        have c11b0 := eq_true c11
        have c11b1 : decide (0 ≤ x7_1) = true := decide_eq_true c11
        clear c11
        by_cases c12 : x7_1 ≤ (wrap64 (x7_1 + 1))
        ·
         rw [if_pos c12] at H
         have c12b0 := eq_true c12
         have c12b1 : decide (x7_1 ≤ (wrap64 (x7_1 + 1))) = true := decide_eq_true c12
         by_cases c13 : (wrap64 (x7_1 + 1)) ≤ (y248.length : Int)
         ·
          rw [if_pos c13] at H
          have c13b0 := eq_true c13
          have c13b1 : decide ((wrap64 (x7_1 + 1)) ≤ (y248.length : Int)) = true := decide_eq_true c13
          obtain ⟨y255, hy255⟩ : ∃ y_ : List (S26), y_ = ((y248.take ((wrap64 (x7_1 + 1)) : Int).toNat).drop (x7_1 : Int).toNat) := ⟨_, rfl⟩
          replace H : ((block_Encode.f y255).bind fun bt259 => (if bt259.2.isNone = true then (palinodelaw12_BlockShort.l0 k1 y248 t247 t252 (wrap64 ((wrap64 (x6_1 + (bt259.1.size : Int))) + 2)) (wrap64 (x7_1 + 1))) else (some false))) = some r := by first | (rw [hy255]; with_reducible exact H) | (have H2_ := (Option.bind_some _ _).symm.trans H; rw [hy255]; with_reducible exact H2_) | (have H2_ := (Option.bind_some _ _).symm.trans H; with_reducible exact H2_) | with_reducible exact H | (rw [hy255]; exact H) | exact H
          have Ny255 := Aside0.mk hy255
          clear hy255
          replace H := Option.bind_eq_some_iff.mp H
          obtain ⟨⟨t259, t260⟩, A140, H⟩ := H
          replace H : (if t260.isNone = true then (palinodelaw12_BlockShort.l0 k1 y248 t247 t252 (wrap64 ((wrap64 (x6_1 + (t259.size : Int))) + 2)) (wrap64 (x7_1 + 1))) else (some false)) = some r := H
          have A14 := Aside0.mk A140
          clear A140
          rcases t260 with _ | q261
          ·
           have H1 : (palinodelaw12_BlockShort.l0 k1 y248 t247 t252 (wrap64 ((wrap64 (x6_1 + (t259.size : Int))) + 2)) (wrap64 (x7_1 + 1))) = some r := by rw [if_pos (show (none : Option Int).isNone = true by rfl)] at H; exact H
           clear H
           have H := H1
           clear H1
           try simp only [errW_none, errW_some]
           have H' := Aside0.mk H
           clear H
           have q15 : ((wrap64 (x7_1 + 1)) : Int) ≤ ((y248.length : Int) : Int) := of_decide_eq_true (by first | (with_reducible assumption) | assumption)
           obtain ⟨i015, hi015, _, hsz15, _⟩ := info_parts info26
           have hroom15 : y248.length ≤ c0 := HC251.out
           have hC15 : Kd.C k26 _ A0 y248.length y248 := HR251.out
           have ql15 : (x7_1 : Int) ≤ ((wrap64 (x7_1 + 1)) : Int) := of_decide_eq_true (by first | (with_reducible assumption) | assumption)
           have q015 : (0 : Int) ≤ (x7_1 : Int) := of_decide_eq_true (by first | (with_reducible assumption) | assumption)
           have hcut15 := cut_mid (P := Try.prog) 22 26 .i64 .i64 Try.underlying22 hi015 4 hsz15 A0 y248.length c0 x7_1 (wrap64 (x7_1 + 1)) q015 ql15 q15 hroom15
           have hr15 := Kd.C_mid (lo := (x7_1 : Int).toNat) (hi := ((wrap64 (x7_1 + 1)) : Int).toNat) (c := c0) hC15 (by omega) (by omega) hroom15
           obtain ⟨A15, hA15⟩ : ∃ A1, A1 = (if c0 = (x7_1 : Int).toNat then A0 else (A0 : Option Addr).map (·.add ((x7_1 : Int).toNat * 4))) := ⟨_, rfl⟩
           obtain ⟨c15, hc15⟩ : ∃ c1, c1 = c0 - (x7_1 : Int).toNat := ⟨_, rfl⟩
           have hy15 : y255.length = ((wrap64 (x7_1 + 1)) : Int).toNat - (x7_1 : Int).toNat := (by rw [Ny255.out, List.length_drop, List.length_take] <;> omega)
           rw [show ((y248).take ((wrap64 (x7_1 + 1)) : Int).toNat).drop (x7_1 : Int).toNat = y255 from Ny255.out.symm] at hr15
           replace hr15 : Kd.C k26 _ A15 y255.length y255 := (by rw [hA15]; exact hr15)
           rw [← hy15, ← hA15, ← hc15] at hcut15
           have HR258 := Aside0.mk hr15
           have HC258 := Aside0.mk (show y255.length ≤ c15 from by rw [hy15, hc15]; exact Nat.sub_le_sub_right (Nat.le_trans (by omega) hroom15) _)
           clear hr15 hC15 hroom15 hi015 hsz15 hc15
           have KY15 := Aside0.mk hy15
           have KA15 := Aside0.mk hA15
           clear hy15 hA15
           replace q15 := eq_true q15
           go_wp2_with (first | ((with_reducible refine gate_callee (f := 11) rfl ?_); refine goesL_ (some 40) rfl rfl Try.func11 (by kernel_rfl) rfl #[.slice A15 y255.length c15] rfl (by (try simp only [List.map_toArray, List.map_cons, List.map_nil]); first | done | rfl | (simp only [List.length_drop, List.length_take]; rfl)) ?_; (with_reducible refine (block_Encode.calls _ _ y255 t259 none _ ?side1 ?side2 A14.out).mono ?_); (case side1 => repeat (first | exact (Kd.C_below HR258.out HB.out) | (with_reducible refine Kd.C_alloc ?_ _) | (with_reducible refine Kd.C_drewN ?_ _) | (with_reducible refine Kd.C_drew ?_))); (case side2 => exact HC258.out); rintro e w16 ⟨rfl, hb⟩; refine ⟨_, rfl, ?_⟩; have n0_ := Aside0.mk (Yv HB hb); clear HB; have HB := n0_; clear n0_; (try clear hb); (try clear hb2); (try clear hk); (try clear hi); (try simp only [errW_none, errW_some])))
           go_roundg k1
           case measure => have := HK1.out; omega
           case rel => exact ⟨(wrap64 ((wrap64 (x6_1 + (t259.size : Int))) + 2)), (wrap64 (x7_1 + 1)), (by first | rfl | (simp; done) | (simp [*]; done)), (by first | rfl | (simp; done) | (simp [*]; done)), H', ⟨by have := HK1.out; omega⟩, ⟨Yr HB⟩⟩
          ·
           have H1 : (some false) = some r := by rw [if_neg (show ¬ (some q261).isNone = true by simp)] at H; exact H
           clear H
           have H := H1
           clear H1
           try simp only [errW_none, errW_some]
           exact absurd ((Option.some.inj H).trans HRT_.out) (by decide)
         ·
          rw [if_neg c13] at H
          exact absurd H (by simp)
        ·
         rw [if_neg c12] at H
         exact absurd H (by simp)
       ·
        rw [if_neg c11] at H
        exact absurd H (by simp)
      ·
       rw [if_neg c10] at H
       have c10b0 : decide (x7_1 < (y248.length : Int)) = false := decide_eq_false c10
       clear c10
       by_cases c17 : t247 = true
       ·
        subst c17
        have H1 : (some (decide ((t252.size : Int) ≤ x6_1))) = some r := by rw [if_pos rfl] at H; exact H
        clear H
        have H := H1
        clear H1
        obtain rfl := Option.some.inj H
        go_wp2
        go_ret
        exact ⟨by first | rfl | (simp [errW_none, errW_some] <;> rfl) | (simp only [← hji3]; first | rfl | (simp [errW_none, errW_some] <;> rfl)) | (simp [*, errW_none, errW_some] <;> rfl), Yr HB⟩
       ·
        replace c17 := Bool.eq_false_iff.mpr c17
        subst c17
        have H1 : (some false) = some r := by rw [if_neg (show ¬ (false = true) by decide)] at H; exact H
        clear H
        have H := H1
        clear H1
        exact absurd ((Option.some.inj H).trans HRT_.out) (by decide)
   ·
    have H1 : (if t247 = true then (some (t252.toList == ([] : List UInt8))) else (some false)) = some r := by rw [if_neg (show ¬ (some q254).isNone = true by simp)] at H; exact H
    clear H
    have H := H1
    clear H1
    try simp only [errW_none, errW_some]
    by_cases c18 : t247 = true
    ·
     subst c18
     have H1 : (some (t252.toList == ([] : List UInt8))) = some r := by rw [if_pos rfl] at H; exact H
     clear H
     have H := H1
     clear H1
     obtain rfl := Option.some.inj H
     go_enter Try.func4, Try.ntmps4
     go_wp2_with (first | ((with_reducible refine gate_callee (f := 9) rfl ?_); refine goesL_ (some 10) rfl rfl Try.func9 (by kernel_rfl) rfl #[] rfl (by (try simp only [List.map_toArray, List.map_cons, List.map_nil]); first | done | rfl | (simp only [List.length_drop, List.length_take]; rfl)) ?_; (with_reducible refine (palinodelaw12_examples.calls k  true _ A2.out).mono ?_); rintro e w19 ⟨rfl, hb⟩; refine ⟨_, rfl, ?_⟩; have n0_ := Aside0.mk (Yv HB hb); clear HB; have HB := n0_; clear n0_; (try clear hb); (try clear hb2); (try clear hk); (try clear hi); have q20 : ((ji3) : Int) ≤ ((l0.length : Int) : Int) := of_decide_eq_true (by first | (with_reducible assumption) | assumption); obtain ⟨i020, hi020, _, hsz20, _⟩ := info_parts info26; have hroom20 : l0.length ≤ c0 := HC0.out; have hC20 : Kd.C k26 _ A0 l0.length l0 := HR0.out; have hcut20 := cut_to (P := Try.prog) 22 26 .i64 Try.underlying22 hi020 A0 l0.length c0 (ji3) (of_decide_eq_true (by first | (with_reducible assumption) | assumption)) q20 hroom20; have hr20 := Kd.C_take (m := ((ji3) : Int).toNat) hC20 (by omega); have hy20 : y248.length = ((ji3) : Int).toNat := (by rw [Ny248.out, List.length_take]; omega); rw [← Ny248.out] at hr20; rw [← hy20] at hcut20; have HR251 := Aside0.mk hr20; have HC251 := Aside0.mk (show y248.length ≤ c0 from by omega); clear hr20 hC20 hroom20 hi020 hsz20; have KY20 := Aside0.mk hy20; clear hy20; replace q20 := eq_true q20) | ((with_reducible refine gate_callee (f := 11) rfl ?_); refine goesL_ (some 18) rfl rfl Try.func11 (by kernel_rfl) rfl #[.slice A0 y248.length c0] rfl (by (try simp only [List.map_toArray, List.map_cons, List.map_nil]); first | done | rfl | (simp only [List.length_drop, List.length_take]; rfl)) ?_; (with_reducible refine (block_Encode.calls _ _ y248 t252 (some q254) _ ?side1 ?side2 A6.out).mono ?_); (case side1 => repeat (first | exact (Kd.C_below HR251.out HB.out) | (with_reducible refine Kd.C_alloc ?_ _) | (with_reducible refine Kd.C_drewN ?_ _) | (with_reducible refine Kd.C_drew ?_))); (case side2 => exact HC251.out); rintro e w21 ⟨rfl, hb⟩; refine ⟨_, rfl, ?_⟩; have n0_ := Aside0.mk (Yv HB hb); clear HB; have HB := n0_; clear n0_; (try clear hb); (try clear hb2); (try clear hk); (try clear hi); (try simp only [errW_none, errW_some])))
     go_ret
     exact ⟨by first | rfl | (simp [errW_none, errW_some] <;> rfl) | (simp only [← hji3]; first | rfl | (simp [errW_none, errW_some] <;> rfl)) | (simp [*, errW_none, errW_some] <;> rfl), Yr HB⟩
    ·
     replace c18 := Bool.eq_false_iff.mpr c18
     subst c18
     have H1 : (some false) = some r := by rw [if_neg (show ¬ (false = true) by decide)] at H; exact H
     clear H
     have H := H1
     clear H1
     exact absurd ((Option.some.inj H).trans HRT_.out) (by decide)
  ·
   rw [if_neg c5] at H
   exact absurd H (by simp)
 ·
  rw [if_neg c4] at H
  exact absurd H (by simp)

/-- THE ONE PURE STATEMENT of palinodelaw12_BlockShort. -/
def palinodelaw12_BlockShort.Pure : Prop := (∀ k_ r_, palinodelaw12_examples.f k_ = some r_ → r_ = true) ∧ ∀ (l0 : List (S26)), (l0.length ≤ maxLen ∧ l0.length * 48 ≤ 140737488351232 ∧ ∀ x_ ∈ l0, V26 x_) → ∃ k, palinodelaw12_BlockShort.f k l0 = some true
theorem palinodelaw12_BlockShort.walk (P : palinodelaw12_BlockShort.Pure) (A0 : Option Addr) (c0 : Nat) (l0 : List (S26)) (w : World) (hr0 : Kd.C k26 w A0 l0.length l0) (hc0 : l0.length ≤ c0) (v0 : (l0.length ≤ maxLen ∧ l0.length * 48 ≤ 140737488351232 ∧ ∀ x_ ∈ l0, V26 x_)) :
  Calls Try.prog 4 #[.slice A0 l0.length c0] w fun e w' => e = .returned (.bool true) ∧ Below w.heap.size w w' := by
 obtain ⟨k, h⟩ := P.2 l0 v0
 refine (palinodelaw12_BlockShort.calls k A0 c0 l0 true w hr0 hc0 h ⟨P.1⟩).mono ?_
 rintro e w' ⟨rfl, hd⟩
 exact ⟨rfl, hd⟩

-- NOT PRINTED: function 32 (block_must)

-- NOT PRINTED: function 31 (block_reader_num)

/-! ### pack_ReadText: function 46 -/
def pack_ReadText.f (a0 : ByteArray) : Option (ByteArray × ByteArray × Option Int) := (pack_ReadNum.f a0).bind fun bt262 => (if bt262.2.2.isNone = true then (if bt262.1 > 1048576 then (some ((⟨#[]⟩ : ByteArray), (⟨#[]⟩ : ByteArray), some 5)) else (if (bt262.2.1.size : Int) < bt262.1 then (some ((⟨#[]⟩ : ByteArray), (⟨#[]⟩ : ByteArray), some 2)) else (if 0 ≤ bt262.1 then (if bt262.1 ≤ (bt262.2.1.size : Int) then (some (bt262.2.1.extract 0 (bt262.1 : Int).toNat, bt262.2.1.extract (bt262.1 : Int).toNat bt262.2.1.size, none)) else (none)) else (none)))) else (some ((⟨#[]⟩ : ByteArray), (⟨#[]⟩ : ByteArray), some (bt262.2.2.getD 0))))
set_option maxHeartbeats 8000000 in
set_option maxRecDepth 100000 in
theorem pack_ReadText.calls (a0 : ByteArray) (r1 : ByteArray) (r2 : ByteArray) (r3 : Option Int) (w : World) (h : pack_ReadText.f a0 = some (r1, r2, r3)) :
  Calls Try.prog 46 #[.string a0] w fun e w' => e = .returned (.tuple #[.string r1, .string r2, errW r3]) ∧ Below w.heap.size w w' := by
 have hu29 := Try.underlying29
 have hu47 := Try.underlying47
 have HB := Aside0.mk (Below.refl w.heap.size w)
 have H : ((pack_ReadNum.f a0).bind fun bt262 => (if bt262.2.2.isNone = true then (if bt262.1 > 1048576 then (some ((⟨#[]⟩ : ByteArray), (⟨#[]⟩ : ByteArray), some 5)) else (if (bt262.2.1.size : Int) < bt262.1 then (some ((⟨#[]⟩ : ByteArray), (⟨#[]⟩ : ByteArray), some 2)) else (if 0 ≤ bt262.1 then (if bt262.1 ≤ (bt262.2.1.size : Int) then (some (bt262.2.1.extract 0 (bt262.1 : Int).toNat, bt262.2.1.extract (bt262.1 : Int).toNat bt262.2.1.size, none)) else (none)) else (none)))) else (some ((⟨#[]⟩ : ByteArray), (⟨#[]⟩ : ByteArray), some (bt262.2.2.getD 0))))) = some (r1, r2, r3) := h
 clear h
 replace H := Option.bind_eq_some_iff.mp H
 obtain ⟨⟨t262, t263, t264⟩, A20, H⟩ := H
 replace H : (if t264.isNone = true then (if t262 > 1048576 then (some ((⟨#[]⟩ : ByteArray), (⟨#[]⟩ : ByteArray), some 5)) else (if (t263.size : Int) < t262 then (some ((⟨#[]⟩ : ByteArray), (⟨#[]⟩ : ByteArray), some 2)) else (if 0 ≤ t262 then (if t262 ≤ (t263.size : Int) then (some (t263.extract 0 (t262 : Int).toNat, t263.extract (t262 : Int).toNat t263.size, none)) else (none)) else (none)))) else (some ((⟨#[]⟩ : ByteArray), (⟨#[]⟩ : ByteArray), some (t264.getD 0)))) = some (r1, r2, r3) := H
 have A2 := Aside0.mk A20
 clear A20
 rcases t264 with _ | q265
 ·
  have H1 : (if t262 > 1048576 then (some ((⟨#[]⟩ : ByteArray), (⟨#[]⟩ : ByteArray), some 5)) else (if (t263.size : Int) < t262 then (some ((⟨#[]⟩ : ByteArray), (⟨#[]⟩ : ByteArray), some 2)) else (if 0 ≤ t262 then (if t262 ≤ (t263.size : Int) then (some (t263.extract 0 (t262 : Int).toNat, t263.extract (t262 : Int).toNat t263.size, none)) else (none)) else (none)))) = some (r1, r2, r3) := by rw [if_pos (show (none : Option Int).isNone = true by rfl)] at H; exact H
  clear H
  have H := H1
  clear H1
  try simp only [errW_none, errW_some]
  by_cases c3 : t262 > 1048576
  ·
   rw [if_pos c3] at H
   have c3b0 : decide (1048576 < t262) = true := decide_eq_true c3
   clear c3
   simp only [Option.some.injEq, Prod.mk.injEq] at H
   obtain ⟨rfl, rfl, rfl⟩ := H
   go_enter Try.func46, Try.ntmps46
   go_wp2_with (first | (go_at_call 42; (with_reducible refine (pack_ReadNum.calls a0 t262 t263 none _ A2.out).mono ?_); rintro e w4 ⟨rfl, hb⟩; have n0_ := Aside0.mk (Yv HB hb); clear HB; have HB := n0_; clear n0_; (try clear hb); (try clear hb2); (try clear hk); (try clear hi); (try simp only [errW_none, errW_some])))
   repeat (go_quiet (first | (go_at_call 42; (with_reducible refine (pack_ReadNum.calls a0 t262 t263 none _ A2.out).mono ?_); rintro e w4 ⟨rfl, hb⟩; have n0_ := Aside0.mk (Yv HB hb); clear HB; have HB := n0_; clear n0_; (try clear hb); (try clear hb2); (try clear hk); (try clear hi); (try simp only [errW_none, errW_some]))); try go_wp2_with (first | (go_at_call 42; (with_reducible refine (pack_ReadNum.calls a0 t262 t263 none _ A2.out).mono ?_); rintro e w4 ⟨rfl, hb⟩; have n0_ := Aside0.mk (Yv HB hb); clear HB; have HB := n0_; clear n0_; (try clear hb); (try clear hb2); (try clear hk); (try clear hi); (try simp only [errW_none, errW_some]))))
   go_ret3
   exact ⟨by first | rfl | (simp [errW_none, errW_some] <;> rfl) | (simp [*, errW_none, errW_some] <;> rfl), Yr HB⟩
  ·
   rw [if_neg c3] at H
   have c3b0 : decide (1048576 < t262) = false := decide_eq_false c3
   clear c3
   by_cases c5 : (t263.size : Int) < t262
   ·
    rw [if_pos c5] at H
    have c5b0 : decide ((t263.size : Int) < t262) = true := decide_eq_true c5
    clear c5
    simp only [Option.some.injEq, Prod.mk.injEq] at H
    obtain ⟨rfl, rfl, rfl⟩ := H
    go_enter Try.func46, Try.ntmps46
    go_wp2_with (first | (go_at_call 42; (with_reducible refine (pack_ReadNum.calls a0 t262 t263 none _ A2.out).mono ?_); rintro e w6 ⟨rfl, hb⟩; have n0_ := Aside0.mk (Yv HB hb); clear HB; have HB := n0_; clear n0_; (try clear hb); (try clear hb2); (try clear hk); (try clear hi); (try simp only [errW_none, errW_some])))
    repeat (go_quiet (first | (go_at_call 42; (with_reducible refine (pack_ReadNum.calls a0 t262 t263 none _ A2.out).mono ?_); rintro e w6 ⟨rfl, hb⟩; have n0_ := Aside0.mk (Yv HB hb); clear HB; have HB := n0_; clear n0_; (try clear hb); (try clear hb2); (try clear hk); (try clear hi); (try simp only [errW_none, errW_some]))); try go_wp2_with (first | (go_at_call 42; (with_reducible refine (pack_ReadNum.calls a0 t262 t263 none _ A2.out).mono ?_); rintro e w6 ⟨rfl, hb⟩; have n0_ := Aside0.mk (Yv HB hb); clear HB; have HB := n0_; clear n0_; (try clear hb); (try clear hb2); (try clear hk); (try clear hi); (try simp only [errW_none, errW_some]))))
    go_ret3
    exact ⟨by first | rfl | (simp [errW_none, errW_some] <;> rfl) | (simp [*, errW_none, errW_some] <;> rfl), Yr HB⟩
   ·
    rw [if_neg c5] at H
    have c5b0 : decide ((t263.size : Int) < t262) = false := decide_eq_false c5
    clear c5
    by_cases c7 : 0 ≤ t262
    ·
     rw [if_pos c7] at H
     have c7b0 := eq_true c7
     have c7b1 : decide (0 ≤ t262) = true := decide_eq_true c7
     clear c7
     by_cases c8 : t262 ≤ (t263.size : Int)
     ·
      rw [if_pos c8] at H
      have c8b0 := eq_true c8
      have c8b1 : decide (t262 ≤ (t263.size : Int)) = true := decide_eq_true c8
      clear c8
      have c9b0 := eq_true (of_decide_eq_true (by first | (with_reducible assumption) | assumption) : 0 ≤ t262)
      have c10b0 := eq_true (of_decide_eq_true (by first | (with_reducible assumption) | assumption) : t262 ≤ (t263.size : Int))
      simp only [Option.some.injEq, Prod.mk.injEq] at H
      obtain ⟨rfl, rfl, rfl⟩ := H
      go_enter Try.func46, Try.ntmps46
      go_wp2_with (first | (go_at_call 42; (with_reducible refine (pack_ReadNum.calls a0 t262 t263 none _ A2.out).mono ?_); rintro e w11 ⟨rfl, hb⟩; have n0_ := Aside0.mk (Yv HB hb); clear HB; have HB := n0_; clear n0_; (try clear hb); (try clear hb2); (try clear hk); (try clear hi); (try simp only [errW_none, errW_some])))
      repeat (go_quiet (first | (go_at_call 42; (with_reducible refine (pack_ReadNum.calls a0 t262 t263 none _ A2.out).mono ?_); rintro e w11 ⟨rfl, hb⟩; have n0_ := Aside0.mk (Yv HB hb); clear HB; have HB := n0_; clear n0_; (try clear hb); (try clear hb2); (try clear hk); (try clear hi); (try simp only [errW_none, errW_some]))); try go_wp2_with (first | (go_at_call 42; (with_reducible refine (pack_ReadNum.calls a0 t262 t263 none _ A2.out).mono ?_); rintro e w11 ⟨rfl, hb⟩; have n0_ := Aside0.mk (Yv HB hb); clear HB; have HB := n0_; clear n0_; (try clear hb); (try clear hb2); (try clear hk); (try clear hi); (try simp only [errW_none, errW_some]))))
      go_ret3
      exact ⟨by first | rfl | (simp [errW_none, errW_some] <;> rfl) | (simp [*, errW_none, errW_some] <;> rfl), Yr HB⟩
     ·
      rw [if_neg c8] at H
      exact absurd H (by simp)
    ·
     rw [if_neg c7] at H
     exact absurd H (by simp)
 ·
  have H1 : (some ((⟨#[]⟩ : ByteArray), (⟨#[]⟩ : ByteArray), some q265)) = some (r1, r2, r3) := by rw [if_neg (show ¬ (some q265).isNone = true by simp)] at H; exact H
  clear H
  have H := H1
  clear H1
  try simp only [errW_none, errW_some]
  simp only [Option.some.injEq, Prod.mk.injEq] at H
  obtain ⟨rfl, rfl, rfl⟩ := H
  go_enter Try.func46, Try.ntmps46
  go_wp2_with (first | (go_at_call 42; (with_reducible refine (pack_ReadNum.calls a0 t262 t263 (some q265) _ A2.out).mono ?_); rintro e w12 ⟨rfl, hb⟩; have n0_ := Aside0.mk (Yv HB hb); clear HB; have HB := n0_; clear n0_; (try clear hb); (try clear hb2); (try clear hk); (try clear hi); (try simp only [errW_none, errW_some])))
  repeat (go_quiet (first | (go_at_call 42; (with_reducible refine (pack_ReadNum.calls a0 t262 t263 (some q265) _ A2.out).mono ?_); rintro e w12 ⟨rfl, hb⟩; have n0_ := Aside0.mk (Yv HB hb); clear HB; have HB := n0_; clear n0_; (try clear hb); (try clear hb2); (try clear hk); (try clear hi); (try simp only [errW_none, errW_some]))); try go_wp2_with (first | (go_at_call 42; (with_reducible refine (pack_ReadNum.calls a0 t262 t263 (some q265) _ A2.out).mono ?_); rintro e w12 ⟨rfl, hb⟩; have n0_ := Aside0.mk (Yv HB hb); clear HB; have HB := n0_; clear n0_; (try clear hb); (try clear hb2); (try clear hk); (try clear hi); (try simp only [errW_none, errW_some]))))
  go_ret3
  exact ⟨by first | rfl | (simp [errW_none, errW_some] <;> rfl) | (simp [*, errW_none, errW_some] <;> rfl), Yr HB⟩

-- NOT PRINTED: function 43 (block_reader_text)

-- NOT PRINTED: function 33 (block_reader_entry)

-- NOT PRINTED: function 16 (block_Decode)

end Go.Proofs.Ytgfgdpmpbpofbaa.Print
