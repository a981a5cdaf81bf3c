-- Printed out of the translation by a program of this session's own. Not trusted: Lean checks it.
import Derived.Test.YtgfgdpmpbpofbaaPrint0
namespace Go.Proofs.Ytgfgdpmpbpofbaa.Print
open Go.RowKit Go.Proofs.YtgfgdpmpbpofbaaW.PrintWords Go.Proofs.YtgfgdpmpbpofbaaW.PrintLast Go.Proofs.YtgfgdpmpbpofbaaW.PrintMore Go.Proofs.YtgfgdpmpbpofbaaX
attribute [local go_sem] max2_int min2_int max_two min_two max_three min_three max_four min_four   -- for this text's walks alone
set_option linter.unusedVariables false
set_option linter.unusedSimpArgs false

/-! ### palinoderef01_ReadNum: function 28 -/
mutual
def palinoderef01_ReadNum.j0 : Nat → ByteArray → Int → Bool → Option (Int × ByteArray × Int)
 | 0, _, _, _ => none
 | k + 1, x0, x5, x26 => if x26 = true then (some (0, (⟨#[]⟩ : ByteArray), 3)) else (palinoderef01_ReadNum.l0 k x0 x5 0 0)
def palinoderef01_ReadNum.l0 : Nat → ByteArray → Int → Int → Int → Option (Int × ByteArray × Int)
 | 0, _, _, _, _ => none
 | k + 1, x0, x5, x6, x7 => if x7 < x5 then (if 0 ≤ (wrap64 (1 + x7)) then (if (wrap64 (1 + x7)) < (x0.size : Int) then (palinoderef01_ReadNum.l0 k x0 x5 (wrap64 ((wrap64 (256 * x6)) + (wrap64 (bt x0 (wrap64 (1 + x7)))))) (wrap64 (x7 + 1))) else (none)) else (none)) else (if x6 > 9007199254740991 then (some (0, (⟨#[]⟩ : ByteArray), 3)) else (if 0 ≤ (wrap64 (1 + x5)) then (if (wrap64 (1 + x5)) ≤ (x0.size : Int) then (some (x6, x0.extract ((wrap64 (1 + x5)) : Int).toNat x0.size, 0)) else (none)) else (none)))
end
def palinoderef01_ReadNum.f (k : Nat) (a0 : ByteArray) : Option (Int × ByteArray × Int) := if a0.toList = ([] : List UInt8) then (some (0, (⟨#[]⟩ : ByteArray), 2)) else (if 0 < (a0.size : Int) then (if (wrap64 (bt a0 0)) > 7 then (some (0, (⟨#[]⟩ : ByteArray), 3)) else (if (a0.size : Int) < (wrap64 (1 + (wrap64 (bt a0 0)))) then (some (0, (⟨#[]⟩ : ByteArray), 2)) else (if (wrap64 (bt a0 0)) > 0 then (if 1 < (a0.size : Int) then (palinoderef01_ReadNum.j0 k a0 (wrap64 (bt a0 0)) ((bt a0 1) == 0)) else (none)) else (palinoderef01_ReadNum.j0 k a0 (wrap64 (bt a0 0)) false)))) else (none))
theorem palinoderef01_ReadNum.mono_l : ∀ k, (∀ y0 y1 y2, LeO (palinoderef01_ReadNum.j0 k y0 y1 y2) (palinoderef01_ReadNum.j0 (k + 1) y0 y1 y2)) ∧ (∀ y0 y1 y2 y3, LeO (palinoderef01_ReadNum.l0 k y0 y1 y2 y3) (palinoderef01_ReadNum.l0 (k + 1) y0 y1 y2 y3))
 | 0 => ⟨fun _ _ _ r h => by simp [palinoderef01_ReadNum.j0] at h, fun _ _ _ _ r h => by simp [palinoderef01_ReadNum.l0] at h⟩
 | k + 1 => by
  obtain ⟨ih0, ih1⟩ := palinoderef01_ReadNum.mono_l k
  refine ⟨?_, ?_⟩
  ·
   intro y0 y1 y2
   unfold palinoderef01_ReadNum.j0
   repeat' first
   | (with_reducible exact ih0 _ _ _)
   | (with_reducible exact ih1 _ _ _ _)
   | (with_reducible exact LeO.refl _)
   | (with_reducible exact LeO.none _)
   | (with_reducible refine LeO.ite ?_ ?_)
   | (with_reducible refine LeO.bind ?_ (fun _ => ?_))
   | exact ih0 _ _ _
   | exact ih1 _ _ _ _
   | exact LeO.none _
   | refine LeO.ite ?_ ?_
   | refine LeO.bind ?_ (fun _ => ?_)
  ·
   intro y0 y1 y2 y3
   unfold palinoderef01_ReadNum.l0
   repeat' first
   | (with_reducible exact ih0 _ _ _)
   | (with_reducible exact ih1 _ _ _ _)
   | (with_reducible exact LeO.refl _)
   | (with_reducible exact LeO.none _)
   | (with_reducible refine LeO.ite ?_ ?_)
   | (with_reducible refine LeO.bind ?_ (fun _ => ?_))
   | exact ih0 _ _ _
   | exact ih1 _ _ _ _
   | exact LeO.none _
   | refine LeO.ite ?_ ?_
   | refine LeO.bind ?_ (fun _ => ?_)
theorem palinoderef01_ReadNum.mono : ∀ a0 k, LeO (palinoderef01_ReadNum.f k a0) (palinoderef01_ReadNum.f (k + 1) a0) := by
 intro a0 k
 obtain ⟨ih0, ih1⟩ := palinoderef01_ReadNum.mono_l k
 unfold palinoderef01_ReadNum.f
 repeat' first
   | (with_reducible exact ih0 _ _ _)
   | (with_reducible exact ih1 _ _ _ _)
   | (with_reducible exact LeO.refl _)
   | (with_reducible exact LeO.none _)
   | (with_reducible refine LeO.ite ?_ ?_)
   | (with_reducible refine LeO.bind ?_ (fun _ => ?_))
   | exact ih0 _ _ _
   | exact ih1 _ _ _ _
   | exact LeO.none _
   | refine LeO.ite ?_ ?_
   | refine LeO.bind ?_ (fun _ => ?_)
set_option maxHeartbeats 8000000 in
set_option maxRecDepth 100000 in
theorem palinoderef01_ReadNum.calls (k : Nat) (a0 : ByteArray) (r1 : Int) (r2 : ByteArray) (r3 : Int) (w : World) (h : palinoderef01_ReadNum.f k a0 = some (r1, r2, r3)) :
  Calls Try.prog 28 #[.string a0] w fun e w' => e = .returned (.tuple #[.int .i64 r1, .string r2, .int .i64 r3]) ∧ Drawn0 w w' := by
 have H : (if a0.toList = ([] : List UInt8) then (some (0, (⟨#[]⟩ : ByteArray), 2)) else (if 0 < (a0.size : Int) then (if (wrap64 (bt a0 0)) > 7 then (some (0, (⟨#[]⟩ : ByteArray), 3)) else (if (a0.size : Int) < (wrap64 (1 + (wrap64 (bt a0 0)))) then (some (0, (⟨#[]⟩ : ByteArray), 2)) else (if (wrap64 (bt a0 0)) > 0 then (if 1 < (a0.size : Int) then (palinoderef01_ReadNum.j0 k a0 (wrap64 (bt a0 0)) ((bt a0 1) == 0)) else (none)) else (palinoderef01_ReadNum.j0 k a0 (wrap64 (bt a0 0)) false)))) else (none))) = some (r1, r2, r3) := h
 clear h
 by_cases c2 : a0.toList = ([] : List UInt8)
 ·
  rw [if_pos c2] at H
  have c2b0 : (a0.toList == ([] : List UInt8)) = true := beq_iff_eq.mpr c2
  have c2b1 : (a0.toList != ([] : List UInt8)) = false := bne_eq_false_iff_eq.mpr c2
  clear c2
  simp only [Option.some.injEq, Prod.mk.injEq] at H
  obtain ⟨rfl, rfl, rfl⟩ := H
  go_enter Try.func28, Try.ntmps28
  go_wp2
  repeat (go_quiet (fail); try go_wp2)
  go_ret3
  exact ⟨by first | rfl | (simp; done) | (simp [*]; done), by repeat (first | exact Drawn0.refl _ | apply Drawn0.step)⟩
 ·
  rw [if_neg c2] at H
  have c2b0 : (a0.toList == ([] : List UInt8)) = false := beq_eq_false_iff_ne.mpr c2
  have c2b1 : (a0.toList != ([] : List UInt8)) = true := bne_iff_ne.mpr c2
  by_cases c3 : 0 < (a0.size : Int)
  ·
   rw [if_pos c3] at H
   have c3b0 : decide (0 < (a0.size : Int)) = true := decide_eq_true c3
   have c3b1 : decide (0 < a0.size) = true := decide_eq_true (by omega)
   clear c3
   by_cases c5 : (wrap64 (bt a0 0)) > 7
   ·
    rw [if_pos c5] at H
    have c5b0 : decide (7 < (wrap64 (bt a0 0))) = true := decide_eq_true c5
    clear c5
    simp only [Option.some.injEq, Prod.mk.injEq] at H
    obtain ⟨rfl, rfl, rfl⟩ := H
    have p4 : 0 ≤ (0 : Int) := (by omega)
    have q4 : 0 < a0.size := (by have : (0 : Int) < (a0.size : Int) := of_decide_eq_true (by first | (with_reducible assumption) | assumption); omega)
    have hx4 : ∀ h : 0 < a0.size, ((a0[0]'h).toNat : Int) = bt a0 0 := bt_at a0 0
    clear p4
    have qi4 : (0 < (a0.size : Int)) = True := eq_true (of_decide_eq_true (by first | (with_reducible assumption) | assumption))
    replace q4 := eq_true q4
    go_enter Try.func28, Try.ntmps28
    go_wp2
    repeat (go_quiet (fail); try go_wp2)
    go_ret3
    exact ⟨by first | rfl | (simp; done) | (simp [*]; done), by repeat (first | exact Drawn0.refl _ | apply Drawn0.step)⟩
   ·
    rw [if_neg c5] at H
    have c5b0 : decide (7 < (wrap64 (bt a0 0))) = false := decide_eq_false c5
    clear c5
    by_cases c6 : (a0.size : Int) < (wrap64 (1 + (wrap64 (bt a0 0))))
    ·
     rw [if_pos c6] at H
     have c6b0 : decide ((a0.size : Int) < (wrap64 (1 + (wrap64 (bt a0 0))))) = true := decide_eq_true c6
     clear c6
     simp only [Option.some.injEq, Prod.mk.injEq] at H
     obtain ⟨rfl, rfl, rfl⟩ := H
     have p4 : 0 ≤ (0 : Int) := (by omega)
     have q4 : 0 < a0.size := (by have : (0 : Int) < (a0.size : Int) := of_decide_eq_true (by first | (with_reducible assumption) | assumption); omega)
     have hx4 : ∀ h : 0 < a0.size, ((a0[0]'h).toNat : Int) = bt a0 0 := bt_at a0 0
     clear p4
     have qi4 : (0 < (a0.size : Int)) = True := eq_true (of_decide_eq_true (by first | (with_reducible assumption) | assumption))
     replace q4 := eq_true q4
     go_enter Try.func28, Try.ntmps28
     go_wp2
     repeat (go_quiet (fail); try go_wp2)
     go_ret3
     exact ⟨by first | rfl | (simp; done) | (simp [*]; done), by repeat (first | exact Drawn0.refl _ | apply Drawn0.step)⟩
    ·
     rw [if_neg c6] at H
     have c6b0 : decide ((a0.size : Int) < (wrap64 (1 + (wrap64 (bt a0 0))))) = false := decide_eq_false c6
     clear c6
     have HC7 := Aside0.mk H
     clear H
     have p4 : 0 ≤ (0 : Int) := (by omega)
     have q4 : 0 < a0.size := (by have : (0 : Int) < (a0.size : Int) := of_decide_eq_true (by first | (with_reducible assumption) | assumption); omega)
     have hx4 : ∀ h : 0 < a0.size, ((a0[0]'h).toNat : Int) = bt a0 0 := bt_at a0 0
     clear p4
     have qi4 : (0 < (a0.size : Int)) = True := eq_true (of_decide_eq_true (by first | (with_reducible assumption) | assumption))
     replace q4 := eq_true q4
     go_enter Try.func28, Try.ntmps28
     go_upto_region 8 with (fail)
     repeat (go_quiet (fail); go_upto_region 8 with (fail))
     go_cut [26] (fun v26 wc => ∃ (kq : Nat) (x26_6 : Bool), v26 = .bool x26_6 ∧ Aside0 (palinoderef01_ReadNum.j0 kq a0 (wrap64 (bt a0 0)) x26_6 = some (r1, r2, r3)) ∧ Aside0 (kq ≤ k) ∧ Drawn0 w wc)
     case first =>
      have H := HC7.out
      clear HC7
      by_cases c8 : (wrap64 (bt a0 0)) > 0
      ·
       rw [if_pos c8] at H
       have c8b0 : decide (0 < (wrap64 (bt a0 0))) = true := decide_eq_true c8
       clear c8
       (first | rw [c8b0] | (simp only [i64_w, i32_w]; rw [c8b0]) | skip)
       by_cases c9 : 1 < (a0.size : Int)
       ·
        rw [if_pos c9] at H
        have c9b0 : decide (1 < (a0.size : Int)) = true := decide_eq_true c9
        have c9b1 : decide (1 < a0.size) = true := decide_eq_true (by omega)
        clear c9
        have H' := Aside0.mk H
        clear H
        have p10 : 0 ≤ (1 : Int) := (by omega)
        have q10 : 1 < a0.size := (by have : (1 : Int) < (a0.size : Int) := of_decide_eq_true (by first | (with_reducible assumption) | assumption); omega)
        have hx10 : ∀ h : 1 < a0.size, ((a0[1]'h).toNat : Int) = bt a0 1 := bt_at a0 1
        clear p10
        have qi10 : (1 < (a0.size : Int)) = True := eq_true (of_decide_eq_true (by first | (with_reducible assumption) | assumption))
        replace q10 := eq_true q10
        go_wp2
        repeat (go_quiet (fail); try go_wp2)
        go_meet
        case rel => exact ⟨_, (((bt a0 1) == 0)), (by first | rfl | (simp; done) | (simp [*]; done)), H', ⟨by first | omega | exact Nat.le_refl _⟩, by repeat (first | exact Drawn0.refl _ | apply Drawn0.step)⟩
       ·
        rw [if_neg c9] at H
        exact absurd H (by simp)
      ·
       rw [if_neg c8] at H
       have c8b0 : decide (0 < (wrap64 (bt a0 0))) = false := decide_eq_false c8
       clear c8
       (first | rw [c8b0] | (simp only [i64_w, i32_w]; rw [c8b0]) | skip)
       have H' := Aside0.mk H
       clear H
       go_wp2
       repeat (go_quiet (fail); try go_wp2)
       go_meet
       case rel => exact ⟨_, (false), (by first | rfl | (simp; done) | (simp [*]; done)), H', ⟨by first | omega | exact Nat.le_refl _⟩, by repeat (first | exact Drawn0.refl _ | apply Drawn0.step)⟩
     case rest =>
      clear HC7
      try clear p1
      try clear q1
      try clear hx1
      try clear qi1
      try clear c2
      try clear c2b0
      try clear c2b1
      try clear p2
      try clear c3
      try clear c3b0
      try clear c3b1
      try clear p4
      try clear q4
      try clear hx4
      try clear qi4
      try clear c5
      try clear c5b0
      try clear c6
      try clear c6b0
      try clear p6
      try clear c8
      try clear c8b0
      try clear c9
      try clear c9b0
      try clear c9b1
      try clear p10
      try clear q10
      try clear hx10
      try clear qi10
      try clear p10
      try clear p4
      try clear q10
      try clear q4
      obtain ⟨kq, x26_6, rfl, HA, HJ6, ⟨mc6, rfl⟩⟩ := hcut
      cases kq with
      | zero => exact absurd HA.out (by simp [palinoderef01_ReadNum.j0])
      | succ kj6 =>
       have H := HA.out
       clear HA
       simp only [palinoderef01_ReadNum.j0] at H
       by_cases c11 : x26_6 = true
       ·
        subst c11
        have H1 : (some (0, (⟨#[]⟩ : ByteArray), 3)) = some (r1, r2, r3) := by rw [if_pos rfl] at H; exact H
        clear H
        have H := H1
        clear H1
        simp only [Option.some.injEq, Prod.mk.injEq] at H
        obtain ⟨rfl, rfl, rfl⟩ := H
        go_wp2
        repeat (go_quiet (fail); try go_wp2)
        go_ret3
        exact ⟨by first | rfl | (simp; done) | (simp [*]; done), by repeat (first | exact Drawn0.refl _ | apply Drawn0.step)⟩
       ·
        replace c11 := Bool.eq_false_iff.mpr c11
        subst c11
        have H1 : (palinoderef01_ReadNum.l0 kj6 a0 (wrap64 (bt a0 0)) 0 0) = some (r1, r2, r3) := by rw [if_neg (show ¬ (false = true) by decide)] at H; exact H
        clear H
        have H := H1
        clear H1
        have H' := Aside0.mk H
        clear H
        go_wp2
        repeat (go_quiet (fail); try go_wp2)
        go_loopg [6, 7] kj6 (fun kq v6 v7 w' => ∃ (x6_2 : Int) (x7_2 : Int), v6 = .int .i64 x6_2 ∧ v7 = .int .i64 x7_2 ∧ Aside0 (palinoderef01_ReadNum.l0 kq a0 (wrap64 (bt a0 0)) x6_2 x7_2 = some (r1, r2, r3)) ∧ Aside0 (kq ≤ kj6) ∧ Drawn0 w w')
        case atStart => exact ⟨(0), (0), (by first | rfl | (simp; done) | (simp [*]; done)), (by first | rfl | (simp; done) | (simp [*]; done)), H', ⟨Nat.le_refl _⟩, by repeat (first | exact Drawn0.refl _ | apply Drawn0.step)⟩
        case round =>
         clear H'
         try clear c1
         try clear p1
         try clear q1
         try clear hx1
         try clear qi1
         try clear c2
         try clear c2b0
         try clear c2b1
         try clear p2
         try clear c3
         try clear c3b0
         try clear c3b1
         try clear p4
         try clear q4
         try clear hx4
         try clear qi4
         try clear c5
         try clear c5b0
         try clear c6
         try clear c6b0
         try clear p6
         try clear c8
         try clear c8b0
         try clear c9
         try clear c9b0
         try clear c9b1
         try clear p10
         try clear q10
         try clear hx10
         try clear qi10
         try clear c11
         try clear p1
         try clear p10
         try clear p2
         try clear p4
         try clear p6
         try clear q1
         try clear q10
         try clear q4
         obtain ⟨x6_2, x7_2, rfl, rfl, HA, HK2, ⟨m2, rfl⟩⟩ := hrel
         cases gk with
         | zero => exact absurd HA.out (by simp [palinoderef01_ReadNum.l0])
         | succ k2 =>
          have H := HA.out
          clear HA
          simp only [palinoderef01_ReadNum.l0] at H
          by_cases c12 : x7_2 < (wrap64 (bt a0 0))
          ·
           rw [if_pos c12] at H
           have c12b0 : decide (x7_2 < (wrap64 (bt a0 0))) = true := decide_eq_true c12
           clear c12
           obtain ⟨ji13, hji13⟩ : ∃ j_ : Int, (wrap64 (1 + x7_2)) = j_ := ⟨_, rfl⟩
           replace H : (if 0 ≤ (ji13) then (if (ji13) < (a0.size : Int) then (palinoderef01_ReadNum.l0 k2 a0 (wrap64 (bt a0 0)) (wrap64 ((wrap64 (256 * x6_2)) + (wrap64 (bt a0 (ji13))))) (wrap64 (x7_2 + 1))) else (none)) else (none)) = some (r1, r2, r3) := by first | (rw [hji13] at H; exact H) | (simp only [hji13] at H ⊢; exact H)
           have hji13w : (IntKind.i64.wrap (1 + x7_2)) = ji13 := (i64_w _).trans hji13
           by_cases c14 : 0 ≤ (ji13)
           ·
            rw [if_pos c14] at H
            have c14b0 : decide (0 ≤ (ji13)) = true := decide_eq_true c14
            clear c14
            by_cases c15 : (ji13) < (a0.size : Int)
            ·
             rw [if_pos c15] at H
             have c15b0 : decide ((ji13) < (a0.size : Int)) = true := decide_eq_true c15
             clear c15
             have H' := Aside0.mk H
             clear H
             have p16 : 0 ≤ ((ji13) : Int) := of_decide_eq_true (by first | (with_reducible assumption) | assumption)
             have q16 : (ji13) < (a0.size : Int) := of_decide_eq_true (by first | (with_reducible assumption) | assumption)
             have hx16 := bt_at a0 (ji13)
             replace p16 := eq_true p16
             replace q16 := eq_true q16
             go_wp2
             repeat (go_quiet (fail); try go_wp2)
             go_roundg k2
             case measure => have := HJ6.out; have := HK2.out; omega
             case rel => exact ⟨(wrap64 ((wrap64 (256 * x6_2)) + (wrap64 (bt a0 (ji13))))), (wrap64 (x7_2 + 1)), (by first | rfl | (simp; done) | (simp only [← hji13] <;> (first | rfl | simp)) | (simp [*]; done)), (by first | rfl | (simp; done) | (simp [*]; done)), H', ⟨by have := HJ6.out; have := HK2.out; omega⟩, by repeat (first | exact Drawn0.refl _ | apply Drawn0.step)⟩
            ·
             rw [if_neg c15] at H
             exact absurd H (by simp)
           ·
            rw [if_neg c14] at H
            exact absurd H (by simp)
          ·
           rw [if_neg c12] at H
           have c12b0 : decide (x7_2 < (wrap64 (bt a0 0))) = false := decide_eq_false c12
           clear c12
           by_cases c17 : x6_2 > 9007199254740991
           ·
            rw [if_pos c17] at H
            have c17b0 : decide (9007199254740991 < x6_2) = true := decide_eq_true c17
            clear c17
            simp only [Option.some.injEq, Prod.mk.injEq] at H
            obtain ⟨rfl, rfl, rfl⟩ := H
            go_wp2
            repeat (go_quiet (fail); try go_wp2)
            go_ret3
            exact ⟨by first | rfl | (simp; done) | (simp [*]; done), by repeat (first | exact Drawn0.refl _ | apply Drawn0.step)⟩
           ·
            rw [if_neg c17] at H
            have c17b0 : decide (9007199254740991 < x6_2) = false := decide_eq_false c17
            clear c17
            obtain ⟨ji18, hji18⟩ : ∃ j_ : Int, (wrap64 (1 + (wrap64 (bt a0 0)))) = j_ := ⟨_, rfl⟩
            replace H : (if 0 ≤ (ji18) then (if (ji18) ≤ (a0.size : Int) then (some (x6_2, a0.extract ((ji18) : Int).toNat a0.size, 0)) else (none)) else (none)) = some (r1, r2, r3) := by first | (rw [hji18] at H; exact H) | (simp only [hji18] at H ⊢; exact H)
            (try rw [hji18] at c6b0)
            have hji18w : (IntKind.i64.wrap (1 + (wrap64 (bt a0 0)))) = ji18 := (i64_w _).trans hji18
            by_cases c19 : 0 ≤ (ji18)
            ·
             rw [if_pos c19] at H
             have c19b0 := eq_true c19
             have c19b1 : decide (0 ≤ (ji18)) = true := decide_eq_true c19
             clear c19
             by_cases c20 : (ji18) ≤ (a0.size : Int)
             ·
              rw [if_pos c20] at H
              have c20b0 := eq_true c20
              have c20b1 : decide ((ji18) ≤ (a0.size : Int)) = true := decide_eq_true c20
              clear c20
              simp only [Option.some.injEq, Prod.mk.injEq] at H
              obtain ⟨rfl, rfl, rfl⟩ := H
              go_wp2
              repeat (go_quiet (fail); try go_wp2)
              go_ret3
              exact ⟨by first | rfl | (simp; done) | (simp only [← hji18] <;> (first | rfl | simp)) | (simp [*]; done), by repeat (first | exact Drawn0.refl _ | apply Drawn0.step)⟩
             ·
              rw [if_neg c20] at H
              exact absurd H (by simp)
            ·
             rw [if_neg c19] at H
             exact absurd H (by simp)
  ·
   rw [if_neg c3] at H
   exact absurd H (by simp)

/-! ### palinoderef01_ReadText: function 41 -/
def palinoderef01_ReadText.f (k : Nat) (a0 : ByteArray) : Option (ByteArray × ByteArray × Int) := (palinoderef01_ReadNum.f k a0).bind fun bt337 => (if bt337.2.2 = 0 then (if bt337.1 > 1048576 then (some ((⟨#[]⟩ : ByteArray), (⟨#[]⟩ : ByteArray), 5)) else (if (bt337.2.1.size : Int) < bt337.1 then (some ((⟨#[]⟩ : ByteArray), (⟨#[]⟩ : ByteArray), 2)) else (if 0 ≤ bt337.1 then (if bt337.1 ≤ (bt337.2.1.size : Int) then (some (bt337.2.1.extract 0 (bt337.1 : Int).toNat, bt337.2.1.extract (bt337.1 : Int).toNat bt337.2.1.size, 0)) else (none)) else (none)))) else (some ((⟨#[]⟩ : ByteArray), (⟨#[]⟩ : ByteArray), bt337.2.2)))
theorem palinoderef01_ReadText.mono : ∀ a0 k, LeO (palinoderef01_ReadText.f k a0) (palinoderef01_ReadText.f (k + 1) a0) := by
 intro a0 k
 unfold palinoderef01_ReadText.f
 repeat' first
   | (with_reducible exact palinoderef01_ReadNum.mono _ _)
   | (with_reducible exact LeO.refl _)
   | (with_reducible exact LeO.none _)
   | (with_reducible refine LeO.ite ?_ ?_)
   | (with_reducible refine LeO.bind ?_ (fun _ => ?_))
   | exact palinoderef01_ReadNum.mono _ _
   | exact LeO.none _
   | refine LeO.ite ?_ ?_
   | refine LeO.bind ?_ (fun _ => ?_)
set_option maxHeartbeats 8000000 in
set_option maxRecDepth 100000 in
theorem palinoderef01_ReadText.calls (k : Nat) (a0 : ByteArray) (r1 : ByteArray) (r2 : ByteArray) (r3 : Int) (w : World) (h : palinoderef01_ReadText.f k a0 = some (r1, r2, r3)) :
  Calls Try.prog 41 #[.string a0] w fun e w' => e = .returned (.tuple #[.string r1, .string r2, .int .i64 r3]) ∧ Drawn0 w w' := by
 have H : ((palinoderef01_ReadNum.f k a0).bind fun bt337 => (if bt337.2.2 = 0 then (if bt337.1 > 1048576 then (some ((⟨#[]⟩ : ByteArray), (⟨#[]⟩ : ByteArray), 5)) else (if (bt337.2.1.size : Int) < bt337.1 then (some ((⟨#[]⟩ : ByteArray), (⟨#[]⟩ : ByteArray), 2)) else (if 0 ≤ bt337.1 then (if bt337.1 ≤ (bt337.2.1.size : Int) then (some (bt337.2.1.extract 0 (bt337.1 : Int).toNat, bt337.2.1.extract (bt337.1 : Int).toNat bt337.2.1.size, 0)) else (none)) else (none)))) else (some ((⟨#[]⟩ : ByteArray), (⟨#[]⟩ : ByteArray), bt337.2.2)))) = some (r1, r2, r3) := h
 clear h
 replace H := Option.bind_eq_some_iff.mp H
 obtain ⟨⟨t337, t338, t339⟩, A20, H⟩ := H
 replace H : (if t339 = 0 then (if t337 > 1048576 then (some ((⟨#[]⟩ : ByteArray), (⟨#[]⟩ : ByteArray), 5)) else (if (t338.size : Int) < t337 then (some ((⟨#[]⟩ : ByteArray), (⟨#[]⟩ : ByteArray), 2)) else (if 0 ≤ t337 then (if t337 ≤ (t338.size : Int) then (some (t338.extract 0 (t337 : Int).toNat, t338.extract (t337 : Int).toNat t338.size, 0)) else (none)) else (none)))) else (some ((⟨#[]⟩ : ByteArray), (⟨#[]⟩ : ByteArray), t339))) = some (r1, r2, r3) := H
 have A2 := Aside0.mk A20
 clear A20
 by_cases c3 : t339 = 0
 ·
  rw [if_pos c3] at H
  have c3b0 : (t339 == 0) = true := beq_iff_eq.mpr c3
  have c3b1 : (t339 != 0) = false := bne_eq_false_iff_eq.mpr c3
  clear c3
  by_cases c4 : t337 > 1048576
  ·
   rw [if_pos c4] at H
   have c4b0 : decide (1048576 < t337) = true := decide_eq_true c4
   clear c4
   simp only [Option.some.injEq, Prod.mk.injEq] at H
   obtain ⟨rfl, rfl, rfl⟩ := H
   go_enter Try.func41, Try.ntmps41
   go_wp2_with (first | (go_at_call 28; (with_reducible refine (palinoderef01_ReadNum.calls k a0 t337 t338 t339 _ A2.out).mono ?_); rintro e w' ⟨rfl, ⟨nd, rfl⟩⟩; (try first | exact ⟨rfl, _, World.drewN_drewN _ _ _⟩ | exact ⟨rfl, _, Eq.trans (World.drewN_drewN _ _ _) (congrArg (World.drewN _) (Nat.add_assoc _ _ _))⟩)))
   repeat (go_quiet (first | (go_at_call 28; (with_reducible refine (palinoderef01_ReadNum.calls k a0 t337 t338 t339 _ A2.out).mono ?_); rintro e w' ⟨rfl, ⟨nd, rfl⟩⟩; (try first | exact ⟨rfl, _, World.drewN_drewN _ _ _⟩ | exact ⟨rfl, _, Eq.trans (World.drewN_drewN _ _ _) (congrArg (World.drewN _) (Nat.add_assoc _ _ _))⟩))); try go_wp2_with (first | (go_at_call 28; (with_reducible refine (palinoderef01_ReadNum.calls k a0 t337 t338 t339 _ A2.out).mono ?_); rintro e w' ⟨rfl, ⟨nd, rfl⟩⟩; (try first | exact ⟨rfl, _, World.drewN_drewN _ _ _⟩ | exact ⟨rfl, _, Eq.trans (World.drewN_drewN _ _ _) (congrArg (World.drewN _) (Nat.add_assoc _ _ _))⟩))))
   go_ret3
   exact ⟨by first | rfl | (simp; done) | (simp [*]; done), by repeat (first | exact Drawn0.refl _ | apply Drawn0.step)⟩
  ·
   rw [if_neg c4] at H
   have c4b0 : decide (1048576 < t337) = false := decide_eq_false c4
   clear c4
   by_cases c5 : (t338.size : Int) < t337
   ·
    rw [if_pos c5] at H
    have c5b0 : decide ((t338.size : Int) < t337) = true := decide_eq_true c5
    clear c5
    simp only [Option.some.injEq, Prod.mk.injEq] at H
    obtain ⟨rfl, rfl, rfl⟩ := H
    go_enter Try.func41, Try.ntmps41
    go_wp2_with (first | (go_at_call 28; (with_reducible refine (palinoderef01_ReadNum.calls k a0 t337 t338 t339 _ A2.out).mono ?_); rintro e w' ⟨rfl, ⟨nd, rfl⟩⟩; (try first | exact ⟨rfl, _, World.drewN_drewN _ _ _⟩ | exact ⟨rfl, _, Eq.trans (World.drewN_drewN _ _ _) (congrArg (World.drewN _) (Nat.add_assoc _ _ _))⟩)))
    repeat (go_quiet (first | (go_at_call 28; (with_reducible refine (palinoderef01_ReadNum.calls k a0 t337 t338 t339 _ A2.out).mono ?_); rintro e w' ⟨rfl, ⟨nd, rfl⟩⟩; (try first | exact ⟨rfl, _, World.drewN_drewN _ _ _⟩ | exact ⟨rfl, _, Eq.trans (World.drewN_drewN _ _ _) (congrArg (World.drewN _) (Nat.add_assoc _ _ _))⟩))); try go_wp2_with (first | (go_at_call 28; (with_reducible refine (palinoderef01_ReadNum.calls k a0 t337 t338 t339 _ A2.out).mono ?_); rintro e w' ⟨rfl, ⟨nd, rfl⟩⟩; (try first | exact ⟨rfl, _, World.drewN_drewN _ _ _⟩ | exact ⟨rfl, _, Eq.trans (World.drewN_drewN _ _ _) (congrArg (World.drewN _) (Nat.add_assoc _ _ _))⟩))))
    go_ret3
    exact ⟨by first | rfl | (simp; done) | (simp [*]; done), by repeat (first | exact Drawn0.refl _ | apply Drawn0.step)⟩
   ·
    rw [if_neg c5] at H
    have c5b0 : decide ((t338.size : Int) < t337) = false := decide_eq_false c5
    clear c5
    by_cases c6 : 0 ≤ t337
    ·
     rw [if_pos c6] at H
     have c6b0 := eq_true c6
     have c6b1 : decide (0 ≤ t337) = true := decide_eq_true c6
     clear c6
     by_cases c7 : t337 ≤ (t338.size : Int)
     ·
      rw [if_pos c7] at H
      have c7b0 := eq_true c7
      have c7b1 : decide (t337 ≤ (t338.size : Int)) = true := decide_eq_true c7
      clear c7
      have c8b0 := eq_true (of_decide_eq_true (by first | (with_reducible assumption) | assumption) : 0 ≤ t337)
      have c9b0 := eq_true (of_decide_eq_true (by first | (with_reducible assumption) | assumption) : t337 ≤ (t338.size : Int))
      simp only [Option.some.injEq, Prod.mk.injEq] at H
      obtain ⟨rfl, rfl, rfl⟩ := H
      go_enter Try.func41, Try.ntmps41
      go_wp2_with (first | (go_at_call 28; (with_reducible refine (palinoderef01_ReadNum.calls k a0 t337 t338 t339 _ A2.out).mono ?_); rintro e w' ⟨rfl, ⟨nd, rfl⟩⟩; (try first | exact ⟨rfl, _, World.drewN_drewN _ _ _⟩ | exact ⟨rfl, _, Eq.trans (World.drewN_drewN _ _ _) (congrArg (World.drewN _) (Nat.add_assoc _ _ _))⟩)))
      repeat (go_quiet (first | (go_at_call 28; (with_reducible refine (palinoderef01_ReadNum.calls k a0 t337 t338 t339 _ A2.out).mono ?_); rintro e w' ⟨rfl, ⟨nd, rfl⟩⟩; (try first | exact ⟨rfl, _, World.drewN_drewN _ _ _⟩ | exact ⟨rfl, _, Eq.trans (World.drewN_drewN _ _ _) (congrArg (World.drewN _) (Nat.add_assoc _ _ _))⟩))); try go_wp2_with (first | (go_at_call 28; (with_reducible refine (palinoderef01_ReadNum.calls k a0 t337 t338 t339 _ A2.out).mono ?_); rintro e w' ⟨rfl, ⟨nd, rfl⟩⟩; (try first | exact ⟨rfl, _, World.drewN_drewN _ _ _⟩ | exact ⟨rfl, _, Eq.trans (World.drewN_drewN _ _ _) (congrArg (World.drewN _) (Nat.add_assoc _ _ _))⟩))))
      go_ret3
      exact ⟨by first | rfl | (simp; done) | (simp [*]; done), by repeat (first | exact Drawn0.refl _ | apply Drawn0.step)⟩
     ·
      rw [if_neg c7] at H
      exact absurd H (by simp)
    ·
     rw [if_neg c6] at H
     exact absurd H (by simp)
 ·
  rw [if_neg c3] at H
  have c3b0 : (t339 == 0) = false := beq_eq_false_iff_ne.mpr c3
  have c3b1 : (t339 != 0) = true := bne_iff_ne.mpr c3
  simp only [Option.some.injEq, Prod.mk.injEq] at H
  obtain ⟨rfl, rfl, rfl⟩ := H
  go_enter Try.func41, Try.ntmps41
  go_wp2_with (first | (go_at_call 28; (with_reducible refine (palinoderef01_ReadNum.calls k a0 t337 t338 t339 _ A2.out).mono ?_); rintro e w' ⟨rfl, ⟨nd, rfl⟩⟩; (try first | exact ⟨rfl, _, World.drewN_drewN _ _ _⟩ | exact ⟨rfl, _, Eq.trans (World.drewN_drewN _ _ _) (congrArg (World.drewN _) (Nat.add_assoc _ _ _))⟩)))
  repeat (go_quiet (first | (go_at_call 28; (with_reducible refine (palinoderef01_ReadNum.calls k a0 t337 t338 t339 _ A2.out).mono ?_); rintro e w' ⟨rfl, ⟨nd, rfl⟩⟩; (try first | exact ⟨rfl, _, World.drewN_drewN _ _ _⟩ | exact ⟨rfl, _, Eq.trans (World.drewN_drewN _ _ _) (congrArg (World.drewN _) (Nat.add_assoc _ _ _))⟩))); try go_wp2_with (first | (go_at_call 28; (with_reducible refine (palinoderef01_ReadNum.calls k a0 t337 t338 t339 _ A2.out).mono ?_); rintro e w' ⟨rfl, ⟨nd, rfl⟩⟩; (try first | exact ⟨rfl, _, World.drewN_drewN _ _ _⟩ | exact ⟨rfl, _, Eq.trans (World.drewN_drewN _ _ _) (congrArg (World.drewN _) (Nat.add_assoc _ _ _))⟩))))
  go_ret3
  exact ⟨by first | rfl | (simp; done) | (simp [*]; done), by repeat (first | exact Drawn0.refl _ | apply Drawn0.step)⟩

/-! ### palinoderef12_one: function 29 -/
mutual
def palinoderef12_one.j0 : Nat → ByteArray → Int → ByteArray → Bool → ByteArray → Int → Bool → ByteArray → Option (ByteArray × Int × Bool × ByteArray × ByteArray × Bool)
 | 0, _, _, _, _, _, _, _, _ => none
 | k + 1, x1, x8, x9, x36, x342000, x342001, x342002, x342003 => if x36 = true then (some (x342000, x342001, x342002, x342003, (⟨#[]⟩ : ByteArray), false)) else ((palinoderef01_ReadText.f k x9).bind fun bt345 => (if bt345.2.2 = 0 then ((palinoderef01_ReadNum.f k bt345.2.1).bind fun bt348 => (if bt348.2.2 = 0 then ((palinoderef01_ReadNum.f k bt348.2.1).bind fun bt351 => (if bt351.2.2 = 0 then (palinoderef12_one.j1 k x1 x8 bt345.1 bt348.1 bt351.1 bt351.2.1 (decide (bt351.1 > 1)) x342000 x342001 x342002 x342003) else (palinoderef12_one.j1 k x1 x8 bt345.1 bt348.1 bt351.1 bt351.2.1 true x342000 x342001 x342002 x342003))) else (some (x342000, x342001, x342002, x342003, (⟨#[]⟩ : ByteArray), false)))) else (some (x342000, x342001, x342002, x342003, (⟨#[]⟩ : ByteArray), false))))
def palinoderef12_one.j1 : Nat → ByteArray → Int → ByteArray → Int → Int → ByteArray → Bool → ByteArray → Int → Bool → ByteArray → Option (ByteArray × Int × Bool × ByteArray × ByteArray × Bool)
 | 0, _, _, _, _, _, _, _, _, _, _, _ => none
 | k + 1, x1, x8, x11, x14, x17, x18, x67, x342000, x342001, x342002, x342003 => if x67 = true then (some (x342000, x342001, x342002, x342003, (⟨#[]⟩ : ByteArray), false)) else (if 0 ≤ x8 then (if x8 ≤ (x1.size : Int) then (if (x1.extract 0 (x8 : Int).toNat).size + x11.size ≤ 9223372036854775807 then (if x17 = 1 then (some ((x1.extract 0 (x8 : Int).toNat) ++ x11, x14, (x17 == 1), (⟨#[]⟩ : ByteArray), x18, true)) else ((palinoderef01_ReadText.f k x18).bind fun bt354 => (if bt354.2.2 = 0 then (some ((x1.extract 0 (x8 : Int).toNat) ++ x11, x14, (x17 == 1), bt354.1, bt354.2.1, true)) else (some ((x1.extract 0 (x8 : Int).toNat) ++ x11, x14, (x17 == 1), (⟨#[]⟩ : ByteArray), (⟨#[]⟩ : ByteArray), false))))) else (none)) else (none)) else (none))
end
def palinoderef12_one.f (k : Nat) (a0 : ByteArray) (a1 : ByteArray) : Option (ByteArray × Int × Bool × ByteArray × ByteArray × Bool) := (palinoderef01_ReadNum.f k a0).bind fun bt342 => (if bt342.2.2 = 0 then (palinoderef12_one.j0 k a1 bt342.1 bt342.2.1 (decide (bt342.1 > (a1.size : Int))) (⟨#[]⟩ : ByteArray) 0 false (⟨#[]⟩ : ByteArray)) else (palinoderef12_one.j0 k a1 bt342.1 bt342.2.1 true (⟨#[]⟩ : ByteArray) 0 false (⟨#[]⟩ : ByteArray)))
theorem palinoderef12_one.mono_l : ∀ k, (∀ y0 y1 y2 y3 y4 y5 y6 y7, LeO (palinoderef12_one.j0 k y0 y1 y2 y3 y4 y5 y6 y7) (palinoderef12_one.j0 (k + 1) y0 y1 y2 y3 y4 y5 y6 y7)) ∧ (∀ y0 y1 y2 y3 y4 y5 y6 y7 y8 y9 y10, LeO (palinoderef12_one.j1 k y0 y1 y2 y3 y4 y5 y6 y7 y8 y9 y10) (palinoderef12_one.j1 (k + 1) y0 y1 y2 y3 y4 y5 y6 y7 y8 y9 y10))
 | 0 => ⟨fun _ _ _ _ _ _ _ _ r h => by simp [palinoderef12_one.j0] at h, fun _ _ _ _ _ _ _ _ _ _ _ r h => by simp [palinoderef12_one.j1] at h⟩
 | k + 1 => by
  obtain ⟨ih0, ih1⟩ := palinoderef12_one.mono_l k
  refine ⟨?_, ?_⟩
  ·
   intro y0 y1 y2 y3 y4 y5 y6 y7
   unfold palinoderef12_one.j0
   repeat' first
   | (with_reducible exact ih0 _ _ _ _ _ _ _ _)
   | (with_reducible exact ih1 _ _ _ _ _ _ _ _ _ _ _)
   | (with_reducible exact palinoderef01_ReadNum.mono _ _)
   | (with_reducible exact palinoderef01_ReadText.mono _ _)
   | (with_reducible exact LeO.refl _)
   | (with_reducible exact LeO.none _)
   | (with_reducible refine LeO.ite ?_ ?_)
   | (with_reducible refine LeO.bind ?_ (fun _ => ?_))
   | exact ih0 _ _ _ _ _ _ _ _
   | exact ih1 _ _ _ _ _ _ _ _ _ _ _
   | exact palinoderef01_ReadNum.mono _ _
   | exact palinoderef01_ReadText.mono _ _
   | exact LeO.none _
   | refine LeO.ite ?_ ?_
   | refine LeO.bind ?_ (fun _ => ?_)
  ·
   intro y0 y1 y2 y3 y4 y5 y6 y7 y8 y9 y10
   unfold palinoderef12_one.j1
   repeat' first
   | (with_reducible exact ih0 _ _ _ _ _ _ _ _)
   | (with_reducible exact ih1 _ _ _ _ _ _ _ _ _ _ _)
   | (with_reducible exact palinoderef01_ReadNum.mono _ _)
   | (with_reducible exact palinoderef01_ReadText.mono _ _)
   | (with_reducible exact LeO.refl _)
   | (with_reducible exact LeO.none _)
   | (with_reducible refine LeO.ite ?_ ?_)
   | (with_reducible refine LeO.bind ?_ (fun _ => ?_))
   | exact ih0 _ _ _ _ _ _ _ _
   | exact ih1 _ _ _ _ _ _ _ _ _ _ _
   | exact palinoderef01_ReadNum.mono _ _
   | exact palinoderef01_ReadText.mono _ _
   | exact LeO.none _
   | refine LeO.ite ?_ ?_
   | refine LeO.bind ?_ (fun _ => ?_)
theorem palinoderef12_one.mono : ∀ a0 a1 k, LeO (palinoderef12_one.f k a0 a1) (palinoderef12_one.f (k + 1) a0 a1) := by
 intro a0 a1 k
 obtain ⟨ih0, ih1⟩ := palinoderef12_one.mono_l k
 unfold palinoderef12_one.f
 repeat' first
   | (with_reducible exact ih0 _ _ _ _ _ _ _ _)
   | (with_reducible exact ih1 _ _ _ _ _ _ _ _ _ _ _)
   | (with_reducible exact palinoderef01_ReadNum.mono _ _)
   | (with_reducible exact palinoderef01_ReadText.mono _ _)
   | (with_reducible exact LeO.refl _)
   | (with_reducible exact LeO.none _)
   | (with_reducible refine LeO.ite ?_ ?_)
   | (with_reducible refine LeO.bind ?_ (fun _ => ?_))
   | exact ih0 _ _ _ _ _ _ _ _
   | exact ih1 _ _ _ _ _ _ _ _ _ _ _
   | exact palinoderef01_ReadNum.mono _ _
   | exact palinoderef01_ReadText.mono _ _
   | exact LeO.none _
   | refine LeO.ite ?_ ?_
   | refine LeO.bind ?_ (fun _ => ?_)
theorem wp_world {P : Program} {c : Code} {Q : Exit → Act → World → Prop} {a : Act} {w : World} (R : World → Prop) (hw : R w) (h : ∀ W, R W → Code.wp P c Q a W) : Code.wp P c Q a w := h w hw
set_option maxHeartbeats 8000000 in
set_option maxRecDepth 100000 in
theorem palinoderef12_one.calls (k : Nat) (a0 : ByteArray) (a1 : ByteArray) (r1 : ByteArray) (r2 : Int) (r3 : Bool) (r4 : ByteArray) (r5 : ByteArray) (r6 : Bool) (w : World) (h : palinoderef12_one.f k a0 a1 = some (r1, r2, r3, r4, r5, r6)) :
  Calls Try.prog 29 #[.string a0, .string a1] w fun e w' => e = .returned (.tuple #[.agg #[.string r1, .int .i64 r2, .bool r3, .string r4], .string r5, .bool r6]) ∧ Below w.heap.size w w' := by
 have hu26 := Try.underlying26
 have HB := Aside0.mk (Below.refl w.heap.size w)
 have H : ((palinoderef01_ReadNum.f k a0).bind fun bt342 => (if bt342.2.2 = 0 then (palinoderef12_one.j0 k a1 bt342.1 bt342.2.1 (decide (bt342.1 > (a1.size : Int))) (⟨#[]⟩ : ByteArray) 0 false (⟨#[]⟩ : ByteArray)) else (palinoderef12_one.j0 k a1 bt342.1 bt342.2.1 true (⟨#[]⟩ : ByteArray) 0 false (⟨#[]⟩ : ByteArray)))) = some (r1, r2, r3, r4, r5, r6) := h
 clear h
 replace H := Option.bind_eq_some_iff.mp H
 obtain ⟨⟨t342, t343, t344⟩, A30, H⟩ := H
 replace H : (if t344 = 0 then (palinoderef12_one.j0 k a1 t342 t343 (decide (t342 > (a1.size : Int))) (⟨#[]⟩ : ByteArray) 0 false (⟨#[]⟩ : ByteArray)) else (palinoderef12_one.j0 k a1 t342 t343 true (⟨#[]⟩ : ByteArray) 0 false (⟨#[]⟩ : ByteArray))) = some (r1, r2, r3, r4, r5, r6) := H
 have A3 := Aside0.mk A30
 clear A30
 have HC4 := Aside0.mk H
 clear H
 go_enter Try.func29, Try.ntmps29
 go_upto_region 3 with (first | ((with_reducible refine gate_dst (N := 4) rfl ?_); (try (refine gate_guard (by rfl) ?_; dsimp only)); refine box_event ?hg (N := 4) ?hd (cs := #[.string (⟨#[]⟩ : ByteArray), .int .i64 0, .bool false, .string (⟨#[]⟩ : ByteArray)]) (t := 26) ?hr ?_; (case hd => rfl); (case hg => rfl); (case hr => first | (go_simp; done) | (go_simp; rfl)); intro gb340 hg w5 hbox hb; have n0_ := Aside0.mk (Yv HB hb); have n1_ := Aside0.mk (hbox); have n2_ := Aside0.mk (Yg HB hg); have n3_ := Aside0.mk (Yg HB hg); clear HB; have HB := n0_; have BK340 := n1_; have GW340 := n2_; have GE340 := n3_; clear n0_ n1_ n2_ n3_; clear hb hbox hg) | ((with_reducible refine gate_dst (N := 7) rfl ?_); (try (refine gate_guard (by rfl) ?_; dsimp only)); refine box_event ?hg (N := 7) ?hd (cs := #[.string (⟨#[]⟩ : ByteArray), .int .i64 0, .bool false, .string (⟨#[]⟩ : ByteArray)]) (t := 26) ?hr ?_; (case hd => rfl); (case hg => rfl); (case hr => first | (go_simp; done) | (go_simp; rfl)); intro gb341 hg w6 hbox hb; have n0_ := Aside0.mk (Zv BK340 hb); have n1_ := Aside0.mk (Yv HB hb); have n2_ := Aside0.mk (hbox); have n3_ := Aside0.mk (Yg HB hg); have n4_ := Aside0.mk (Yg HB hg); have n5_ := Aside0.mk (Zl BK340 hg); have n6_ := Aside0.mk (Zg BK340 hg); clear BK340; clear HB; have BK340 := n0_; have HB := n1_; have BK341 := n2_; have GW341 := n3_; have GE341 := n4_; have NB340_341 := n5_; have NB341_340 := n6_; clear n0_ n1_ n2_ n3_ n4_ n5_ n6_; clear hb hbox hg) | ((with_reducible refine gate_callee (f := 28) rfl ?_); refine goesL_ (some 25) rfl rfl Try.func28 (by kernel_rfl) rfl #[.string a0] rfl (by (try simp only [List.map_toArray, List.map_cons, List.map_nil]); first | done | rfl | (simp only [List.length_drop, List.length_take]; rfl)) ?_; (with_reducible refine (palinoderef01_ReadNum.calls k a0 t342 t343 t344 _ A3.out).mono ?_); rintro e w' ⟨rfl, ⟨nd, rfl⟩⟩; refine ⟨_, rfl, ?_⟩))
 (try simp only [Act.put, List.setIfInBounds_toArray, List.set_cons_zero, List.set_cons_succ])
 go_cut [36] (fun v36 wc => ∃ (kq : Nat) (x36_3 : Bool), v36 = .bool x36_3 ∧ Aside0 (palinoderef12_one.j0 kq a1 t342 t343 x36_3 (⟨#[]⟩ : ByteArray) 0 false (⟨#[]⟩ : ByteArray) = some (r1, r2, r3, r4, r5, r6)) ∧ Aside0 (kq ≤ k) ∧ Aside0 (wc.heap[gb340]? = some (.cells #[.string (⟨#[]⟩ : ByteArray), .int .i64 0, .bool false, .string (⟨#[]⟩ : ByteArray)] 26 (0, 0))) ∧ Aside0 (wc.heap[gb341]? = some (.cells #[.string (⟨#[]⟩ : ByteArray), .int .i64 0, .bool false, .string (⟨#[]⟩ : ByteArray)] 26 (0, 0))) ∧ Aside0 (Below w.heap.size w wc))
 case first =>
  have H := HC4.out
  clear HC4
  by_cases c7 : t344 = 0
  ·
   rw [if_pos c7] at H
   have c7b0 : (t344 == 0) = true := beq_iff_eq.mpr c7
   have c7b1 : (t344 != 0) = false := bne_eq_false_iff_eq.mpr c7
   clear c7
   (first | rw [c7b0] | (simp only [i64_w, i32_w]; rw [c7b0]) | skip)
   have H' := Aside0.mk H
   clear H
   go_wp2
   go_meet
   case rel => exact ⟨_, (decide (t342 > (a1.size : Int))), (by first | rfl | (simp; done) | (simp [*]; done)), H', ⟨by first | omega | exact Nat.le_refl _⟩, ⟨by (with_reducible repeat first | apply Zn | apply Zd | apply Za); exact BK340.out⟩, ⟨by (with_reducible repeat first | apply Zn | apply Zd | apply Za); exact BK341.out⟩, ⟨Yr HB⟩⟩
  ·
   rw [if_neg c7] at H
   have c7b0 : (t344 == 0) = false := beq_eq_false_iff_ne.mpr c7
   have c7b1 : (t344 != 0) = true := bne_iff_ne.mpr c7
   (first | rw [c7b0] | (simp only [i64_w, i32_w]; rw [c7b0]) | skip)
   have H' := Aside0.mk H
   clear H
   go_wp2
   go_meet
   case rel => exact ⟨_, (true), (by first | rfl | (simp; done) | (simp [*]; done)), H', ⟨by first | omega | exact Nat.le_refl _⟩, ⟨by (with_reducible repeat first | apply Zn | apply Zd | apply Za); exact BK340.out⟩, ⟨by (with_reducible repeat first | apply Zn | apply Zd | apply Za); exact BK341.out⟩, ⟨Yr HB⟩⟩
 case rest =>
  clear HC4
  try clear c2
  try clear p2
  try clear c7
  try clear c7b0
  try clear c7b1
  obtain ⟨kq, x36_3, rfl, HA, HJ3, BK340, BK341, HB⟩ := hcut
  cases kq with
  | zero => exact absurd HA.out (by simp [palinoderef12_one.j0])
  | succ kj3 =>
   have H := HA.out
   clear HA
   simp only [palinoderef12_one.j0] at H
   by_cases c8 : x36_3 = true
   ·
    subst c8
    have H1 : (some ((⟨#[]⟩ : ByteArray), 0, false, (⟨#[]⟩ : ByteArray), (⟨#[]⟩ : ByteArray), false)) = some (r1, r2, r3, r4, r5, r6) := by rw [if_pos rfl] at H; exact H
    clear H
    have H := H1
    clear H1
    simp only [Option.some.injEq, Prod.mk.injEq] at H
    obtain ⟨rfl, rfl, rfl, rfl, rfl, rfl⟩ := H
    obtain ⟨hnb9, hnc9⟩ := Zo NB341_340
    obtain ⟨⟨hcz10_0, hcz10_1, hcz10_2, hcz10_3⟩, hfz10_0, hfz10_1, hfz10_2, hfz10_3⟩ := Zk4 BK341
    obtain ⟨⟨hcz11_0, hcz11_1, hcz11_2, hcz11_3⟩, hfz11_0, hfz11_1, hfz11_2, hfz11_3⟩ := Zk4 BK340
    go_wp2
    refine bodyPost_ret (results_ctt rfl _ _ gb340 26 #[.string (⟨#[]⟩ : ByteArray), .int .i64 0, .bool false, .string (⟨#[]⟩ : ByteArray)] (0, 0) _ rfl (by (with_reducible repeat first | apply Zn | apply Zd | apply Za); refine Zp (cs := #[.string (⟨#[]⟩ : ByteArray), .int .i64 0, .bool false, .string (⟨#[]⟩ : ByteArray)]) ?_ 3 _ rfl; (with_reducible repeat first | apply Zn | apply Zd | apply Za); refine Zp (cs := #[.string (⟨#[]⟩ : ByteArray), .int .i64 0, .bool false, .string (⟨#[]⟩ : ByteArray)]) ?_ 2 _ rfl; (with_reducible repeat first | apply Zn | apply Zd | apply Za); refine Zp (cs := #[.string (⟨#[]⟩ : ByteArray), .int .i64 0, .bool false, .string (⟨#[]⟩ : ByteArray)]) ?_ 1 _ rfl; (with_reducible repeat first | apply Zn | apply Zd | apply Za); refine Zp (cs := #[.string (⟨#[]⟩ : ByteArray), .int .i64 0, .bool false, .string (⟨#[]⟩ : ByteArray)]) ?_ 0 _ rfl; (with_reducible repeat first | apply Zn | apply Zd | apply Za); exact BK340.out) Try.underlying26 rfl (by kernel_rfl)) rfl ?_
    exact ⟨by first | rfl | (simp [errW_none, errW_some] <;> rfl) | (simp [*, errW_none, errW_some] <;> rfl), Yr HB⟩
   ·
    replace c8 := Bool.eq_false_iff.mpr c8
    subst c8
    have H1 : ((palinoderef01_ReadText.f kj3 t343).bind fun bt345 => (if bt345.2.2 = 0 then ((palinoderef01_ReadNum.f kj3 bt345.2.1).bind fun bt348 => (if bt348.2.2 = 0 then ((palinoderef01_ReadNum.f kj3 bt348.2.1).bind fun bt351 => (if bt351.2.2 = 0 then (palinoderef12_one.j1 kj3 a1 t342 bt345.1 bt348.1 bt351.1 bt351.2.1 (decide (bt351.1 > 1)) (⟨#[]⟩ : ByteArray) 0 false (⟨#[]⟩ : ByteArray)) else (palinoderef12_one.j1 kj3 a1 t342 bt345.1 bt348.1 bt351.1 bt351.2.1 true (⟨#[]⟩ : ByteArray) 0 false (⟨#[]⟩ : ByteArray)))) else (some ((⟨#[]⟩ : ByteArray), 0, false, (⟨#[]⟩ : ByteArray), (⟨#[]⟩ : ByteArray), false)))) else (some ((⟨#[]⟩ : ByteArray), 0, false, (⟨#[]⟩ : ByteArray), (⟨#[]⟩ : ByteArray), false)))) = some (r1, r2, r3, r4, r5, r6) := by rw [if_neg (show ¬ (false = true) by decide)] at H; exact H
    clear H
    have H := H1
    clear H1
    replace H := Option.bind_eq_some_iff.mp H
    obtain ⟨⟨t345, t346, t347⟩, A120, H⟩ := H
    replace H : (if t347 = 0 then ((palinoderef01_ReadNum.f kj3 t346).bind fun bt348 => (if bt348.2.2 = 0 then ((palinoderef01_ReadNum.f kj3 bt348.2.1).bind fun bt351 => (if bt351.2.2 = 0 then (palinoderef12_one.j1 kj3 a1 t342 t345 bt348.1 bt351.1 bt351.2.1 (decide (bt351.1 > 1)) (⟨#[]⟩ : ByteArray) 0 false (⟨#[]⟩ : ByteArray)) else (palinoderef12_one.j1 kj3 a1 t342 t345 bt348.1 bt351.1 bt351.2.1 true (⟨#[]⟩ : ByteArray) 0 false (⟨#[]⟩ : ByteArray)))) else (some ((⟨#[]⟩ : ByteArray), 0, false, (⟨#[]⟩ : ByteArray), (⟨#[]⟩ : ByteArray), false)))) else (some ((⟨#[]⟩ : ByteArray), 0, false, (⟨#[]⟩ : ByteArray), (⟨#[]⟩ : ByteArray), false))) = some (r1, r2, r3, r4, r5, r6) := H
    have A12 := Aside0.mk A120
    clear A120
    by_cases c13 : t347 = 0
    ·
     rw [if_pos c13] at H
     have c13b0 : (t347 == 0) = true := beq_iff_eq.mpr c13
     have c13b1 : (t347 != 0) = false := bne_eq_false_iff_eq.mpr c13
     clear c13
     replace H := Option.bind_eq_some_iff.mp H
     obtain ⟨⟨t348, t349, t350⟩, A140, H⟩ := H
     replace H : (if t350 = 0 then ((palinoderef01_ReadNum.f kj3 t349).bind fun bt351 => (if bt351.2.2 = 0 then (palinoderef12_one.j1 kj3 a1 t342 t345 t348 bt351.1 bt351.2.1 (decide (bt351.1 > 1)) (⟨#[]⟩ : ByteArray) 0 false (⟨#[]⟩ : ByteArray)) else (palinoderef12_one.j1 kj3 a1 t342 t345 t348 bt351.1 bt351.2.1 true (⟨#[]⟩ : ByteArray) 0 false (⟨#[]⟩ : ByteArray)))) else (some ((⟨#[]⟩ : ByteArray), 0, false, (⟨#[]⟩ : ByteArray), (⟨#[]⟩ : ByteArray), false))) = some (r1, r2, r3, r4, r5, r6) := H
     have A14 := Aside0.mk A140
     clear A140
     by_cases c15 : t350 = 0
     ·
      rw [if_pos c15] at H
      have c15b0 : (t350 == 0) = true := beq_iff_eq.mpr c15
      have c15b1 : (t350 != 0) = false := bne_eq_false_iff_eq.mpr c15
      clear c15
      replace H := Option.bind_eq_some_iff.mp H
      obtain ⟨⟨t351, t352, t353⟩, A160, H⟩ := H
      replace H : (if t353 = 0 then (palinoderef12_one.j1 kj3 a1 t342 t345 t348 t351 t352 (decide (t351 > 1)) (⟨#[]⟩ : ByteArray) 0 false (⟨#[]⟩ : ByteArray)) else (palinoderef12_one.j1 kj3 a1 t342 t345 t348 t351 t352 true (⟨#[]⟩ : ByteArray) 0 false (⟨#[]⟩ : ByteArray))) = some (r1, r2, r3, r4, r5, r6) := H
      have A16 := Aside0.mk A160
      clear A160
      have HC17 := Aside0.mk H
      clear H
      go_upto_region 12 with (first | ((with_reducible refine gate_callee (f := 41) rfl ?_); refine goesL_ (some 40) rfl rfl Try.func41 (by kernel_rfl) rfl #[.string t343] rfl (by (try simp only [List.map_toArray, List.map_cons, List.map_nil]); first | done | rfl | (simp only [List.length_drop, List.length_take]; rfl)) ?_; (with_reducible refine (palinoderef01_ReadText.calls kj3 t343 t345 t346 t347 _ A12.out).mono ?_); rintro e w' ⟨rfl, ⟨nd, rfl⟩⟩; refine ⟨_, rfl, ?_⟩) | ((with_reducible refine gate_callee (f := 28) rfl ?_); refine goesL_ (some 49) rfl rfl Try.func28 (by kernel_rfl) rfl #[.string t346] rfl (by (try simp only [List.map_toArray, List.map_cons, List.map_nil]); first | done | rfl | (simp only [List.length_drop, List.length_take]; rfl)) ?_; (with_reducible refine (palinoderef01_ReadNum.calls kj3 t346 t348 t349 t350 _ A14.out).mono ?_); rintro e w' ⟨rfl, ⟨nd, rfl⟩⟩; refine ⟨_, rfl, ?_⟩) | ((with_reducible refine gate_callee (f := 28) rfl ?_); refine goesL_ (some 58) rfl rfl Try.func28 (by kernel_rfl) rfl #[.string t349] rfl (by (try simp only [List.map_toArray, List.map_cons, List.map_nil]); first | done | rfl | (simp only [List.length_drop, List.length_take]; rfl)) ?_; (with_reducible refine (palinoderef01_ReadNum.calls kj3 t349 t351 t352 t353 _ A16.out).mono ?_); rintro e w' ⟨rfl, ⟨nd, rfl⟩⟩; refine ⟨_, rfl, ?_⟩))
      (try simp only [Act.put, List.setIfInBounds_toArray, List.set_cons_zero, List.set_cons_succ])
      go_cut [67] (fun v67 wc => ∃ (kq : Nat) (x67_16 : Bool), v67 = .bool x67_16 ∧ Aside0 (palinoderef12_one.j1 kq a1 t342 t345 t348 t351 t352 x67_16 (⟨#[]⟩ : ByteArray) 0 false (⟨#[]⟩ : ByteArray) = some (r1, r2, r3, r4, r5, r6)) ∧ Aside0 (kq ≤ kj3) ∧ Aside0 (wc.heap[gb340]? = some (.cells #[.string (⟨#[]⟩ : ByteArray), .int .i64 0, .bool false, .string (⟨#[]⟩ : ByteArray)] 26 (0, 0))) ∧ Aside0 (wc.heap[gb341]? = some (.cells #[.string (⟨#[]⟩ : ByteArray), .int .i64 0, .bool false, .string (⟨#[]⟩ : ByteArray)] 26 (0, 0))) ∧ Aside0 (Below w.heap.size w wc))
      case first =>
       have H := HC17.out
       clear HC17
       by_cases c18 : t353 = 0
       ·
        rw [if_pos c18] at H
        have c18b0 : (t353 == 0) = true := beq_iff_eq.mpr c18
        have c18b1 : (t353 != 0) = false := bne_eq_false_iff_eq.mpr c18
        clear c18
        (first | rw [c18b0] | (simp only [i64_w, i32_w]; rw [c18b0]) | skip)
        have H' := Aside0.mk H
        clear H
        go_wp2
        go_meet
        case rel => exact ⟨_, (decide (t351 > 1)), (by first | rfl | (simp; done) | (simp [*]; done)), H', ⟨by have := HJ3.out; first | omega | exact Nat.le_refl _⟩, ⟨by (with_reducible repeat first | apply Zn | apply Zd | apply Za); exact BK340.out⟩, ⟨by (with_reducible repeat first | apply Zn | apply Zd | apply Za); exact BK341.out⟩, ⟨Yr HB⟩⟩
       ·
        rw [if_neg c18] at H
        have c18b0 : (t353 == 0) = false := beq_eq_false_iff_ne.mpr c18
        have c18b1 : (t353 != 0) = true := bne_iff_ne.mpr c18
        (first | rw [c18b0] | (simp only [i64_w, i32_w]; rw [c18b0]) | skip)
        have H' := Aside0.mk H
        clear H
        go_wp2
        go_meet
        case rel => exact ⟨_, (true), (by first | rfl | (simp; done) | (simp [*]; done)), H', ⟨by have := HJ3.out; first | omega | exact Nat.le_refl _⟩, ⟨by (with_reducible repeat first | apply Zn | apply Zd | apply Za); exact BK340.out⟩, ⟨by (with_reducible repeat first | apply Zn | apply Zd | apply Za); exact BK341.out⟩, ⟨Yr HB⟩⟩
      case rest =>
       clear HC17
       try clear c1
       try clear c2
       try clear p2
       try clear c4
       try clear c7
       try clear c7b0
       try clear c7b1
       try clear c8
       try clear c9
       try clear c13
       try clear c13b0
       try clear c13b1
       try clear c15
       try clear c15b0
       try clear c15b1
       try clear c18
       try clear c18b0
       try clear c18b1
       try clear hcz10_0
       try clear hcz10_1
       try clear hcz10_2
       try clear hcz10_3
       try clear hcz11_0
       try clear hcz11_1
       try clear hcz11_2
       try clear hcz11_3
       try clear hfz10_0
       try clear hfz10_1
       try clear hfz10_2
       try clear hfz10_3
       try clear hfz11_0
       try clear hfz11_1
       try clear hfz11_2
       try clear hfz11_3
       try clear p2
       obtain ⟨kq, x67_16, rfl, HA, HJ16, BK340, BK341, HB⟩ := hcut
       cases kq with
       | zero => exact absurd HA.out (by simp [palinoderef12_one.j1])
       | succ kj16 =>
        have H := HA.out
        clear HA
        simp only [palinoderef12_one.j1] at H
        by_cases c19 : x67_16 = true
        ·
         subst c19
         have H1 : (some ((⟨#[]⟩ : ByteArray), 0, false, (⟨#[]⟩ : ByteArray), (⟨#[]⟩ : ByteArray), false)) = some (r1, r2, r3, r4, r5, r6) := by rw [if_pos rfl] at H; exact H
         clear H
         have H := H1
         clear H1
         simp only [Option.some.injEq, Prod.mk.injEq] at H
         obtain ⟨rfl, rfl, rfl, rfl, rfl, rfl⟩ := H
         obtain ⟨hnb20, hnc20⟩ := Zo NB341_340
         obtain ⟨⟨hcz21_0, hcz21_1, hcz21_2, hcz21_3⟩, hfz21_0, hfz21_1, hfz21_2, hfz21_3⟩ := Zk4 BK341
         obtain ⟨⟨hcz22_0, hcz22_1, hcz22_2, hcz22_3⟩, hfz22_0, hfz22_1, hfz22_2, hfz22_3⟩ := Zk4 BK340
         go_wp2
         refine bodyPost_ret (results_ctt rfl _ _ gb340 26 #[.string (⟨#[]⟩ : ByteArray), .int .i64 0, .bool false, .string (⟨#[]⟩ : ByteArray)] (0, 0) _ rfl (by (with_reducible repeat first | apply Zn | apply Zd | apply Za); refine Zp (cs := #[.string (⟨#[]⟩ : ByteArray), .int .i64 0, .bool false, .string (⟨#[]⟩ : ByteArray)]) ?_ 3 _ rfl; (with_reducible repeat first | apply Zn | apply Zd | apply Za); refine Zp (cs := #[.string (⟨#[]⟩ : ByteArray), .int .i64 0, .bool false, .string (⟨#[]⟩ : ByteArray)]) ?_ 2 _ rfl; (with_reducible repeat first | apply Zn | apply Zd | apply Za); refine Zp (cs := #[.string (⟨#[]⟩ : ByteArray), .int .i64 0, .bool false, .string (⟨#[]⟩ : ByteArray)]) ?_ 1 _ rfl; (with_reducible repeat first | apply Zn | apply Zd | apply Za); refine Zp (cs := #[.string (⟨#[]⟩ : ByteArray), .int .i64 0, .bool false, .string (⟨#[]⟩ : ByteArray)]) ?_ 0 _ rfl; (with_reducible repeat first | apply Zn | apply Zd | apply Za); exact BK340.out) Try.underlying26 rfl (by kernel_rfl)) rfl ?_
         exact ⟨by first | rfl | (simp [errW_none, errW_some] <;> rfl) | (simp [*, errW_none, errW_some] <;> rfl), Yr HB⟩
        ·
         replace c19 := Bool.eq_false_iff.mpr c19
         subst c19
         have H1 : (if 0 ≤ t342 then (if t342 ≤ (a1.size : Int) then (if (a1.extract 0 (t342 : Int).toNat).size + t345.size ≤ 9223372036854775807 then (if t351 = 1 then (some ((a1.extract 0 (t342 : Int).toNat) ++ t345, t348, (t351 == 1), (⟨#[]⟩ : ByteArray), t352, true)) else ((palinoderef01_ReadText.f kj16 t352).bind fun bt354 => (if bt354.2.2 = 0 then (some ((a1.extract 0 (t342 : Int).toNat) ++ t345, t348, (t351 == 1), bt354.1, bt354.2.1, true)) else (some ((a1.extract 0 (t342 : Int).toNat) ++ t345, t348, (t351 == 1), (⟨#[]⟩ : ByteArray), (⟨#[]⟩ : ByteArray), false))))) else (none)) else (none)) else (none)) = some (r1, r2, r3, r4, r5, r6) := by rw [if_neg (show ¬ (false = true) by decide)] at H; exact H
         clear H
         have H := H1
         clear H1
         by_cases c23 : 0 ≤ t342
         ·
          rw [if_pos c23] at H
          have c23b0 := eq_true c23
          have c23b1 : decide (0 ≤ t342) = true := decide_eq_true c23
          clear c23
          by_cases c24 : t342 ≤ (a1.size : Int)
          ·
           rw [if_pos c24] at H
           have c24b0 := eq_true c24
           have c24b1 : decide (t342 ≤ (a1.size : Int)) = true := decide_eq_true c24
           clear c24
           by_cases c25 : (a1.extract 0 (t342 : Int).toNat).size + t345.size ≤ 9223372036854775807
           ·
            rw [if_pos c25] at H
            have c25b0 := eq_true c25
            have c25b1 : decide ((a1.extract 0 (t342 : Int).toNat).size + t345.size ≤ 9223372036854775807) = true := decide_eq_true c25
            try have c25b2 : (9223372036854775807 < (a1.extract 0 (t342 : Int).toNat).size + t345.size) = False := eq_false (Nat.not_lt.2 c25)
            by_cases c26 : t351 = 1
            ·
             rw [if_pos c26] at H
             have c26b0 : (t351 == 1) = true := beq_iff_eq.mpr c26
             have c26b1 : (t351 != 1) = false := bne_eq_false_iff_eq.mpr c26
             clear c26
             simp only [Option.some.injEq, Prod.mk.injEq] at H
             obtain ⟨rfl, rfl, rfl, rfl, rfl, rfl⟩ := H
             obtain ⟨hnb27, hnc27⟩ := Zo NB341_340
             obtain ⟨⟨hcz28_0, hcz28_1, hcz28_2, hcz28_3⟩, hfz28_0, hfz28_1, hfz28_2, hfz28_3⟩ := Zk4 BK341
             obtain ⟨⟨hcz29_0, hcz29_1, hcz29_2, hcz29_3⟩, hfz29_0, hfz29_1, hfz29_2, hfz29_3⟩ := Zk4 BK340
             go_wp2
             refine bodyPost_ret (results_ctt rfl _ _ gb340 26 #[.string ((a1.extract 0 (t342 : Int).toNat) ++ t345), .int .i64 t348, .bool true, .string (⟨#[]⟩ : ByteArray)] (0, 0) _ rfl (by (with_reducible repeat first | apply Zn | apply Zd | apply Za); refine Zp (cs := #[.string ((a1.extract 0 (t342 : Int).toNat) ++ t345), .int .i64 t348, .bool true, .string (⟨#[]⟩ : ByteArray)]) ?_ 3 _ rfl; (with_reducible repeat first | apply Zn | apply Zd | apply Za); refine Zp (cs := #[.string ((a1.extract 0 (t342 : Int).toNat) ++ t345), .int .i64 t348, .bool false, .string (⟨#[]⟩ : ByteArray)]) ?_ 2 _ rfl; (with_reducible repeat first | apply Zn | apply Zd | apply Za); refine Zp (cs := #[.string ((a1.extract 0 (t342 : Int).toNat) ++ t345), .int .i64 0, .bool false, .string (⟨#[]⟩ : ByteArray)]) ?_ 1 _ rfl; (with_reducible repeat first | apply Zn | apply Zd | apply Za); refine Zp (cs := #[.string (⟨#[]⟩ : ByteArray), .int .i64 0, .bool false, .string (⟨#[]⟩ : ByteArray)]) ?_ 0 _ rfl; (with_reducible repeat first | apply Zn | apply Zd | apply Za); refine Zq ?_ NB340_341.out _; (with_reducible repeat first | apply Zn | apply Zd | apply Za); refine Zq ?_ NB340_341.out _; (with_reducible repeat first | apply Zn | apply Zd | apply Za); refine Zq ?_ NB340_341.out _; (with_reducible repeat first | apply Zn | apply Zd | apply Za); refine Zq ?_ NB340_341.out _; (with_reducible repeat first | apply Zn | apply Zd | apply Za); exact BK340.out) Try.underlying26 rfl (by kernel_rfl)) rfl ?_
             exact ⟨by first | rfl | (simp [errW_none, errW_some] <;> rfl) | (simp [*, errW_none, errW_some] <;> rfl), Yr HB⟩
            ·
             rw [if_neg c26] at H
             have c26b0 : (t351 == 1) = false := beq_eq_false_iff_ne.mpr c26
             have c26b1 : (t351 != 1) = true := bne_iff_ne.mpr c26
             replace H := Option.bind_eq_some_iff.mp H
             obtain ⟨⟨t354, t355, t356⟩, A300, H⟩ := H
             replace H : (if t356 = 0 then (some ((a1.extract 0 (t342 : Int).toNat) ++ t345, t348, (t351 == 1), t354, t355, true)) else (some ((a1.extract 0 (t342 : Int).toNat) ++ t345, t348, (t351 == 1), (⟨#[]⟩ : ByteArray), (⟨#[]⟩ : ByteArray), false))) = some (r1, r2, r3, r4, r5, r6) := H
             have A30 := Aside0.mk A300
             clear A300
             by_cases c31 : t356 = 0
             ·
              rw [if_pos c31] at H
              have c31b0 : (t356 == 0) = true := beq_iff_eq.mpr c31
              have c31b1 : (t356 != 0) = false := bne_eq_false_iff_eq.mpr c31
              clear c31
              simp only [Option.some.injEq, Prod.mk.injEq] at H
              obtain ⟨rfl, rfl, rfl, rfl, rfl, rfl⟩ := H
              obtain ⟨hnb32, hnc32⟩ := Zo NB341_340
              obtain ⟨⟨hcz33_0, hcz33_1, hcz33_2, hcz33_3⟩, hfz33_0, hfz33_1, hfz33_2, hfz33_3⟩ := Zk4 BK341
              go_upto_region 21 with (first | ((with_reducible refine gate_callee (f := 41) rfl ?_); refine goesL_ (some 83) rfl rfl Try.func41 (by kernel_rfl) rfl #[.string t352] rfl (by (try simp only [List.map_toArray, List.map_cons, List.map_nil]); first | done | rfl | (simp only [List.length_drop, List.length_take]; rfl)) ?_; (with_reducible refine (palinoderef01_ReadText.calls kj16 t352 t354 t355 t356 _ A30.out).mono ?_); rintro e w' ⟨rfl, ⟨nd, rfl⟩⟩; refine ⟨_, rfl, ?_⟩; obtain ⟨⟨hcz34_0, hcz34_1, hcz34_2, hcz34_3⟩, hfz34_0, hfz34_1, hfz34_2, hfz34_3⟩ := Zk4 BK340))
              refine wp_world (fun W => Aside0 (W.heap[gb341]? = some (.cells #[.string ((a1.extract 0 (t342 : Int).toNat) ++ t345), .int .i64 t348, .bool false, .string t354] 26)) ∧ Aside0 (W.heap[gb340]? = some (.cells #[.string (⟨#[]⟩ : ByteArray), .int .i64 0, .bool false, .string (⟨#[]⟩ : ByteArray)] 26)) ∧ Aside0 (Below w.heap.size w W)) ⟨⟨?w1⟩, ⟨?w2⟩, ⟨?w3⟩⟩ ?_
              case w1 => refine Zp (cs := #[.string ((a1.extract 0 (t342 : Int).toNat) ++ t345), .int .i64 t348, .bool false, .string (⟨#[]⟩ : ByteArray)]) ?_ 3 _ rfl; (with_reducible repeat first | apply Zn | apply Zd | apply Za); refine Zp (cs := #[.string ((a1.extract 0 (t342 : Int).toNat) ++ t345), .int .i64 t348, .bool false, .string (⟨#[]⟩ : ByteArray)]) ?_ 3 _ rfl; (with_reducible repeat first | apply Zn | apply Zd | apply Za); refine Zp (cs := #[.string ((a1.extract 0 (t342 : Int).toNat) ++ t345), .int .i64 t348, .bool false, .string (⟨#[]⟩ : ByteArray)]) ?_ 2 _ rfl; (with_reducible repeat first | apply Zn | apply Zd | apply Za); refine Zp (cs := #[.string ((a1.extract 0 (t342 : Int).toNat) ++ t345), .int .i64 0, .bool false, .string (⟨#[]⟩ : ByteArray)]) ?_ 1 _ rfl; (with_reducible repeat first | apply Zn | apply Zd | apply Za); refine Zp (cs := #[.string (⟨#[]⟩ : ByteArray), .int .i64 0, .bool false, .string (⟨#[]⟩ : ByteArray)]) ?_ 0 _ rfl; (with_reducible repeat first | apply Zn | apply Zd | apply Za); exact BK341.out
              case w2 => (with_reducible repeat first | apply Zn | apply Zd | apply Za); refine Zq ?_ NB340_341.out _; (with_reducible repeat first | apply Zn | apply Zd | apply Za); refine Zq ?_ NB340_341.out _; (with_reducible repeat first | apply Zn | apply Zd | apply Za); refine Zq ?_ NB340_341.out _; (with_reducible repeat first | apply Zn | apply Zd | apply Za); refine Zq ?_ NB340_341.out _; (with_reducible repeat first | apply Zn | apply Zd | apply Za); refine Zq ?_ NB340_341.out _; (with_reducible repeat first | apply Zn | apply Zd | apply Za); exact BK340.out
              case w3 => exact Yr HB
              clear hcz33_0 hcz33_1 hcz33_2 hcz33_3 hfz33_0 hfz33_1 hfz33_2 hfz33_3 hcz34_0 hcz34_1 hcz34_2 hcz34_3 hfz34_0 hfz34_1 hfz34_2 hfz34_3
              rintro W ⟨BK341, BK340, HB⟩
              obtain ⟨⟨hcz33_0, hcz33_1, hcz33_2, hcz33_3⟩, hfz33_0, hfz33_1, hfz33_2, hfz33_3⟩ := Zk4 BK341
              obtain ⟨⟨hcz34_0, hcz34_1, hcz34_2, hcz34_3⟩, hfz34_0, hfz34_1, hfz34_2, hfz34_3⟩ := Zk4 BK340
              go_wp2
              refine bodyPost_ret (results_ctt rfl _ _ gb340 26 #[.string ((a1.extract 0 (t342 : Int).toNat) ++ t345), .int .i64 t348, .bool false, .string t354] (0, 0) _ rfl (by (with_reducible repeat first | apply Zn | apply Zd | apply Za); refine Zp (cs := #[.string ((a1.extract 0 (t342 : Int).toNat) ++ t345), .int .i64 t348, .bool false, .string (⟨#[]⟩ : ByteArray)]) ?_ 3 _ rfl; (with_reducible repeat first | apply Zn | apply Zd | apply Za); refine Zp (cs := #[.string ((a1.extract 0 (t342 : Int).toNat) ++ t345), .int .i64 t348, .bool false, .string (⟨#[]⟩ : ByteArray)]) ?_ 2 _ rfl; (with_reducible repeat first | apply Zn | apply Zd | apply Za); refine Zp (cs := #[.string ((a1.extract 0 (t342 : Int).toNat) ++ t345), .int .i64 0, .bool false, .string (⟨#[]⟩ : ByteArray)]) ?_ 1 _ rfl; (with_reducible repeat first | apply Zn | apply Zd | apply Za); refine Zp (cs := #[.string (⟨#[]⟩ : ByteArray), .int .i64 0, .bool false, .string (⟨#[]⟩ : ByteArray)]) ?_ 0 _ rfl; (with_reducible repeat first | apply Zn | apply Zd | apply Za); exact BK340.out) Try.underlying26 rfl (by kernel_rfl)) rfl ?_
              exact ⟨by first | rfl | (simp [errW_none, errW_some] <;> rfl) | (simp [*, errW_none, errW_some] <;> rfl), Yr HB⟩
             ·
              rw [if_neg c31] at H
              have c31b0 : (t356 == 0) = false := beq_eq_false_iff_ne.mpr c31
              have c31b1 : (t356 != 0) = true := bne_iff_ne.mpr c31
              simp only [Option.some.injEq, Prod.mk.injEq] at H
              obtain ⟨rfl, rfl, rfl, rfl, rfl, rfl⟩ := H
              obtain ⟨hnb35, hnc35⟩ := Zo NB341_340
              obtain ⟨⟨hcz36_0, hcz36_1, hcz36_2, hcz36_3⟩, hfz36_0, hfz36_1, hfz36_2, hfz36_3⟩ := Zk4 BK341
              go_wp2_with (first | ((with_reducible refine gate_callee (f := 41) rfl ?_); refine goesL_ (some 83) rfl rfl Try.func41 (by kernel_rfl) rfl #[.string t352] rfl (by (try simp only [List.map_toArray, List.map_cons, List.map_nil]); first | done | rfl | (simp only [List.length_drop, List.length_take]; rfl)) ?_; (with_reducible refine (palinoderef01_ReadText.calls kj16 t352 t354 t355 t356 _ A30.out).mono ?_); rintro e w' ⟨rfl, ⟨nd, rfl⟩⟩; refine ⟨_, rfl, ?_⟩; obtain ⟨⟨hcz37_0, hcz37_1, hcz37_2, hcz37_3⟩, hfz37_0, hfz37_1, hfz37_2, hfz37_3⟩ := Zk4 BK340))
              refine bodyPost_ret (results_ctt rfl _ _ gb340 26 #[.string ((a1.extract 0 (t342 : Int).toNat) ++ t345), .int .i64 t348, .bool false, .string (⟨#[]⟩ : ByteArray)] (0, 0) _ rfl (by (with_reducible repeat first | apply Zn | apply Zd | apply Za); refine Zp (cs := #[.string ((a1.extract 0 (t342 : Int).toNat) ++ t345), .int .i64 t348, .bool false, .string (⟨#[]⟩ : ByteArray)]) ?_ 3 _ rfl; (with_reducible repeat first | apply Zn | apply Zd | apply Za); refine Zp (cs := #[.string ((a1.extract 0 (t342 : Int).toNat) ++ t345), .int .i64 t348, .bool false, .string (⟨#[]⟩ : ByteArray)]) ?_ 2 _ rfl; (with_reducible repeat first | apply Zn | apply Zd | apply Za); refine Zp (cs := #[.string ((a1.extract 0 (t342 : Int).toNat) ++ t345), .int .i64 0, .bool false, .string (⟨#[]⟩ : ByteArray)]) ?_ 1 _ rfl; (with_reducible repeat first | apply Zn | apply Zd | apply Za); refine Zp (cs := #[.string (⟨#[]⟩ : ByteArray), .int .i64 0, .bool false, .string (⟨#[]⟩ : ByteArray)]) ?_ 0 _ rfl; (with_reducible repeat first | apply Zn | apply Zd | apply Za); refine Zq ?_ NB340_341.out _; (with_reducible repeat first | apply Zn | apply Zd | apply Za); refine Zq ?_ NB340_341.out _; (with_reducible repeat first | apply Zn | apply Zd | apply Za); refine Zq ?_ NB340_341.out _; (with_reducible repeat first | apply Zn | apply Zd | apply Za); refine Zq ?_ NB340_341.out _; (with_reducible repeat first | apply Zn | apply Zd | apply Za); exact BK340.out) Try.underlying26 rfl (by kernel_rfl)) rfl ?_
              exact ⟨by first | rfl | (simp [errW_none, errW_some] <;> rfl) | (simp [*, errW_none, errW_some] <;> rfl), Yr HB⟩
           ·
            rw [if_neg c25] at H
            exact absurd H (by simp)
          ·
           rw [if_neg c24] at H
           exact absurd H (by simp)
         ·
          rw [if_neg c23] at H
          exact absurd H (by simp)
     ·
      rw [if_neg c15] at H
      have c15b0 : (t350 == 0) = false := beq_eq_false_iff_ne.mpr c15
      have c15b1 : (t350 != 0) = true := bne_iff_ne.mpr c15
      simp only [Option.some.injEq, Prod.mk.injEq] at H
      obtain ⟨rfl, rfl, rfl, rfl, rfl, rfl⟩ := H
      go_wp2_with (first | ((with_reducible refine gate_callee (f := 41) rfl ?_); refine goesL_ (some 40) rfl rfl Try.func41 (by kernel_rfl) rfl #[.string t343] rfl (by (try simp only [List.map_toArray, List.map_cons, List.map_nil]); first | done | rfl | (simp only [List.length_drop, List.length_take]; rfl)) ?_; (with_reducible refine (palinoderef01_ReadText.calls kj3 t343 t345 t346 t347 _ A12.out).mono ?_); rintro e w' ⟨rfl, ⟨nd, rfl⟩⟩; refine ⟨_, rfl, ?_⟩; (try (rw [drewN_self wc]; generalize hq_ : World.drewN wc _ = wc; have n0_ : Aside0 (wc.heap[gb340]? = some (.cells #[.string (⟨#[]⟩ : ByteArray), .int .i64 0, .bool false, .string (⟨#[]⟩ : ByteArray)] 26 (0, 0))) := ⟨by rw [← hq_]; exact (Zr BK340)⟩; have n1_ : Aside0 (wc.heap[gb341]? = some (.cells #[.string (⟨#[]⟩ : ByteArray), .int .i64 0, .bool false, .string (⟨#[]⟩ : ByteArray)] 26 (0, 0))) := ⟨by rw [← hq_]; exact (Zr BK341)⟩; have n2_ : Aside0 (Below w.heap.size w wc) := ⟨by rw [← hq_]; exact (Yr HB)⟩; clear BK340 BK341 HB hq_; have BK340 := n0_; have BK341 := n1_; have HB := n2_; clear n0_ n1_ n2_))) | ((with_reducible refine gate_callee (f := 28) rfl ?_); refine goesL_ (some 49) rfl rfl Try.func28 (by kernel_rfl) rfl #[.string t346] rfl (by (try simp only [List.map_toArray, List.map_cons, List.map_nil]); first | done | rfl | (simp only [List.length_drop, List.length_take]; rfl)) ?_; (with_reducible refine (palinoderef01_ReadNum.calls kj3 t346 t348 t349 t350 _ A14.out).mono ?_); rintro e w' ⟨rfl, ⟨nd, rfl⟩⟩; refine ⟨_, rfl, ?_⟩; (try (rw [drewN_self wc]; generalize hq_ : World.drewN wc _ = wc; have n0_ : Aside0 (wc.heap[gb340]? = some (.cells #[.string (⟨#[]⟩ : ByteArray), .int .i64 0, .bool false, .string (⟨#[]⟩ : ByteArray)] 26 (0, 0))) := ⟨by rw [← hq_]; exact (Zr BK340)⟩; have n1_ : Aside0 (wc.heap[gb341]? = some (.cells #[.string (⟨#[]⟩ : ByteArray), .int .i64 0, .bool false, .string (⟨#[]⟩ : ByteArray)] 26 (0, 0))) := ⟨by rw [← hq_]; exact (Zr BK341)⟩; have n2_ : Aside0 (Below w.heap.size w wc) := ⟨by rw [← hq_]; exact (Yr HB)⟩; clear BK340 BK341 HB hq_; have BK340 := n0_; have BK341 := n1_; have HB := n2_; clear n0_ n1_ n2_)); obtain ⟨hnb38, hnc38⟩ := Zo NB341_340; obtain ⟨⟨hcz39_0, hcz39_1, hcz39_2, hcz39_3⟩, hfz39_0, hfz39_1, hfz39_2, hfz39_3⟩ := Zk4 BK341; obtain ⟨⟨hcz40_0, hcz40_1, hcz40_2, hcz40_3⟩, hfz40_0, hfz40_1, hfz40_2, hfz40_3⟩ := Zk4 BK340))
      refine bodyPost_ret (results_ctt rfl _ _ gb340 26 #[.string (⟨#[]⟩ : ByteArray), .int .i64 0, .bool false, .string (⟨#[]⟩ : ByteArray)] (0, 0) _ rfl (by (with_reducible repeat first | apply Zn | apply Zd | apply Za); refine Zp (cs := #[.string (⟨#[]⟩ : ByteArray), .int .i64 0, .bool false, .string (⟨#[]⟩ : ByteArray)]) ?_ 3 _ rfl; (with_reducible repeat first | apply Zn | apply Zd | apply Za); refine Zp (cs := #[.string (⟨#[]⟩ : ByteArray), .int .i64 0, .bool false, .string (⟨#[]⟩ : ByteArray)]) ?_ 2 _ rfl; (with_reducible repeat first | apply Zn | apply Zd | apply Za); refine Zp (cs := #[.string (⟨#[]⟩ : ByteArray), .int .i64 0, .bool false, .string (⟨#[]⟩ : ByteArray)]) ?_ 1 _ rfl; (with_reducible repeat first | apply Zn | apply Zd | apply Za); refine Zp (cs := #[.string (⟨#[]⟩ : ByteArray), .int .i64 0, .bool false, .string (⟨#[]⟩ : ByteArray)]) ?_ 0 _ rfl; (with_reducible repeat first | apply Zn | apply Zd | apply Za); exact BK340.out) Try.underlying26 rfl (by kernel_rfl)) rfl ?_
      exact ⟨by first | rfl | (simp [errW_none, errW_some] <;> rfl) | (simp [*, errW_none, errW_some] <;> rfl), Yr HB⟩
    ·
     rw [if_neg c13] at H
     have c13b0 : (t347 == 0) = false := beq_eq_false_iff_ne.mpr c13
     have c13b1 : (t347 != 0) = true := bne_iff_ne.mpr c13
     simp only [Option.some.injEq, Prod.mk.injEq] at H
     obtain ⟨rfl, rfl, rfl, rfl, rfl, rfl⟩ := H
     go_wp2_with (first | ((with_reducible refine gate_callee (f := 41) rfl ?_); refine goesL_ (some 40) rfl rfl Try.func41 (by kernel_rfl) rfl #[.string t343] rfl (by (try simp only [List.map_toArray, List.map_cons, List.map_nil]); first | done | rfl | (simp only [List.length_drop, List.length_take]; rfl)) ?_; (with_reducible refine (palinoderef01_ReadText.calls kj3 t343 t345 t346 t347 _ A12.out).mono ?_); rintro e w' ⟨rfl, ⟨nd, rfl⟩⟩; refine ⟨_, rfl, ?_⟩; (try (rw [drewN_self wc]; generalize hq_ : World.drewN wc _ = wc; have n0_ : Aside0 (wc.heap[gb340]? = some (.cells #[.string (⟨#[]⟩ : ByteArray), .int .i64 0, .bool false, .string (⟨#[]⟩ : ByteArray)] 26 (0, 0))) := ⟨by rw [← hq_]; exact (Zr BK340)⟩; have n1_ : Aside0 (wc.heap[gb341]? = some (.cells #[.string (⟨#[]⟩ : ByteArray), .int .i64 0, .bool false, .string (⟨#[]⟩ : ByteArray)] 26 (0, 0))) := ⟨by rw [← hq_]; exact (Zr BK341)⟩; have n2_ : Aside0 (Below w.heap.size w wc) := ⟨by rw [← hq_]; exact (Yr HB)⟩; clear BK340 BK341 HB hq_; have BK340 := n0_; have BK341 := n1_; have HB := n2_; clear n0_ n1_ n2_)); obtain ⟨hnb41, hnc41⟩ := Zo NB341_340; obtain ⟨⟨hcz42_0, hcz42_1, hcz42_2, hcz42_3⟩, hfz42_0, hfz42_1, hfz42_2, hfz42_3⟩ := Zk4 BK341; obtain ⟨⟨hcz43_0, hcz43_1, hcz43_2, hcz43_3⟩, hfz43_0, hfz43_1, hfz43_2, hfz43_3⟩ := Zk4 BK340))
     refine bodyPost_ret (results_ctt rfl _ _ gb340 26 #[.string (⟨#[]⟩ : ByteArray), .int .i64 0, .bool false, .string (⟨#[]⟩ : ByteArray)] (0, 0) _ rfl (by (with_reducible repeat first | apply Zn | apply Zd | apply Za); refine Zp (cs := #[.string (⟨#[]⟩ : ByteArray), .int .i64 0, .bool false, .string (⟨#[]⟩ : ByteArray)]) ?_ 3 _ rfl; (with_reducible repeat first | apply Zn | apply Zd | apply Za); refine Zp (cs := #[.string (⟨#[]⟩ : ByteArray), .int .i64 0, .bool false, .string (⟨#[]⟩ : ByteArray)]) ?_ 2 _ rfl; (with_reducible repeat first | apply Zn | apply Zd | apply Za); refine Zp (cs := #[.string (⟨#[]⟩ : ByteArray), .int .i64 0, .bool false, .string (⟨#[]⟩ : ByteArray)]) ?_ 1 _ rfl; (with_reducible repeat first | apply Zn | apply Zd | apply Za); refine Zp (cs := #[.string (⟨#[]⟩ : ByteArray), .int .i64 0, .bool false, .string (⟨#[]⟩ : ByteArray)]) ?_ 0 _ rfl; (with_reducible repeat first | apply Zn | apply Zd | apply Za); exact BK340.out) Try.underlying26 rfl (by kernel_rfl)) rfl ?_
     exact ⟨by first | rfl | (simp [errW_none, errW_some] <;> rfl) | (simp [*, errW_none, errW_some] <;> rfl), Yr HB⟩

end Go.Proofs.Ytgfgdpmpbpofbaa.Print
