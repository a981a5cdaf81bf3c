-- Printed out of the translation by a program of this session's own. Not trusted: Lean checks it.
import Derived.Test.YthdjeekfnlagmaaPrint0
import Derived.Test.YthdjeekfnlagmaaPrint2
import Derived.Test.YthdjeekfnlagmaaPrint3
import Derived.Test.YthdjeekfnlagmaaPrint4
import Derived.Test.YthdjeekfnlagmaaHPackReadNum
namespace Go.Proofs.Ythdjeekfnlagmaa.Print
open Go.RowKit Go.Proofs.YthdjeekfnlagmaaW.PrintWords Go.Proofs.YthdjeekfnlagmaaW.PrintLast Go.Proofs.YthdjeekfnlagmaaW.PrintMore
attribute [local go_sem] max2_int min2_int max_two min_two max_three min_three max_four min_four   -- for this text's walks alone
set_option linter.unusedVariables false
set_option linter.unusedSimpArgs false

/-! ### palinodelaw01_PackCuts: function 7 -/
mutual
def palinodelaw01_PackCuts.j0 : Nat → Int → ByteArray → Int → Bool → ByteArray → ByteArray → Bool → Option (Bool)
  | 0, _, _, _, _, _, _, _ => none
  | k + 1, x0, x1, x2, x7, x8, x10, x42 => if x42 = true then (if x7 = true then (if x0 < 0 then (some true) else (if x0 > 9007199254740991 then (some true) else (some (decide ((x1.size : Int) > 1048576))))) else (some false)) else (if x2 < 0 then (palinodelaw01_PackCuts.j1 k (wrap64 (-(wrap64 (x2 + 1)))) x7 x8 x10) else (palinodelaw01_PackCuts.j1 k x2 x7 x8 x10))
def palinodelaw01_PackCuts.j1 : Nat → Int → Bool → ByteArray → ByteArray → Option (Bool)
  | 0, _, _, _, _ => none
  | k + 1, x2, x7, x8, x10 => if (x8.size : Int) = 0 then (none) else (if 0 ≤ (Int.tmod x2 (x8.size : Int)) then (if (Int.tmod x2 (x8.size : Int)) ≤ (x8.size : Int) then ((pack_ReadNum.f (x8.extract 0 ((Int.tmod x2 (x8.size : Int)) : Int).toNat)).bind fun bt328 => (if (x10.size : Int) = 0 then (none) else (if 0 ≤ (Int.tmod x2 (x10.size : Int)) then (if (Int.tmod x2 (x10.size : Int)) ≤ (x10.size : Int) then ((pack_ReadText.f (x10.extract 0 ((Int.tmod x2 (x10.size : Int)) : Int).toNat)).bind fun bt331 => (if x7 = true then ((palinodelaw01_is.f bt328.2.2 2).bind fun t334 => (if t334 = true then ((palinodelaw01_is.f bt331.2.2 2).bind fun t335 => (some t335)) else (some false))) else (some false))) else (none)) else (none)))) else (none)) else (none))
end
def palinodelaw01_PackCuts.f (k : Nat) (a0 : Int) (a1 : ByteArray) (a2 : Int) : Option (Bool) := (palinodelaw01_examples.f k).bind fun t321 => ((pack_Num.f k a0).bind fun bt322 => ((pack_Text.f k a1).bind fun bt324 => (if bt322.2.isNone = true then (if bt324.2.isNone = true then (if bt322.1.toList = ([] : List UInt8) then (palinodelaw01_PackCuts.j0 k a0 a1 a2 t321 bt322.1 bt324.1 true) else (palinodelaw01_PackCuts.j0 k a0 a1 a2 t321 bt322.1 bt324.1 (bt324.1.toList == ([] : List UInt8)))) else (palinodelaw01_PackCuts.j0 k a0 a1 a2 t321 bt322.1 bt324.1 true)) else (palinodelaw01_PackCuts.j0 k a0 a1 a2 t321 bt322.1 bt324.1 true))))
theorem palinodelaw01_PackCuts.mono_l : ∀ k, (∀ y0 y1 y2 y3 y4 y5 y6, LeO (palinodelaw01_PackCuts.j0 k y0 y1 y2 y3 y4 y5 y6) (palinodelaw01_PackCuts.j0 (k + 1) y0 y1 y2 y3 y4 y5 y6)) ∧ (∀ y0 y1 y2 y3, LeO (palinodelaw01_PackCuts.j1 k y0 y1 y2 y3) (palinodelaw01_PackCuts.j1 (k + 1) y0 y1 y2 y3))
  | 0 => ⟨fun _ _ _ _ _ _ _ r h => by simp [palinodelaw01_PackCuts.j0] at h, fun _ _ _ _ r h => by simp [palinodelaw01_PackCuts.j1] at h⟩
  | k + 1 => by
    obtain ⟨ih0, ih1⟩ := palinodelaw01_PackCuts.mono_l k
    refine ⟨?_, ?_⟩
    · intro y0 y1 y2 y3 y4 y5 y6
      unfold palinodelaw01_PackCuts.j0
      repeat' first
      | (with_reducible exact ih0 _ _ _ _ _ _ _)
      | (with_reducible exact ih1 _ _ _ _)
      | (with_reducible exact pack_Num.mono _ _)
      | (with_reducible exact pack_Text.mono _ _)
      | (with_reducible exact palinodelaw01_examples.mono _)
      | (with_reducible exact LeO.refl _)
      | (with_reducible exact LeO.none _)
      | (with_reducible refine LeO.ite ?_ ?_)
      | (with_reducible refine LeO.bind ?_ (fun _ => ?_))
      | exact ih0 _ _ _ _ _ _ _
      | exact ih1 _ _ _ _
      | exact pack_Num.mono _ _
      | exact pack_Text.mono _ _
      | exact palinodelaw01_examples.mono _
      | exact LeO.none _
      | refine LeO.ite ?_ ?_
      | refine LeO.bind ?_ (fun _ => ?_)
    · intro y0 y1 y2 y3
      unfold palinodelaw01_PackCuts.j1
      repeat' first
      | (with_reducible exact ih0 _ _ _ _ _ _ _)
      | (with_reducible exact ih1 _ _ _ _)
      | (with_reducible exact pack_Num.mono _ _)
      | (with_reducible exact pack_Text.mono _ _)
      | (with_reducible exact palinodelaw01_examples.mono _)
      | (with_reducible exact LeO.refl _)
      | (with_reducible exact LeO.none _)
      | (with_reducible refine LeO.ite ?_ ?_)
      | (with_reducible refine LeO.bind ?_ (fun _ => ?_))
      | exact ih0 _ _ _ _ _ _ _
      | exact ih1 _ _ _ _
      | exact pack_Num.mono _ _
      | exact pack_Text.mono _ _
      | exact palinodelaw01_examples.mono _
      | exact LeO.none _
      | refine LeO.ite ?_ ?_
      | refine LeO.bind ?_ (fun _ => ?_)
theorem palinodelaw01_PackCuts.mono : ∀ a0 a1 a2 k, LeO (palinodelaw01_PackCuts.f k a0 a1 a2) (palinodelaw01_PackCuts.f (k + 1) a0 a1 a2) := by
  intro a0 a1 a2 k
  obtain ⟨ih0, ih1⟩ := palinodelaw01_PackCuts.mono_l k
  unfold palinodelaw01_PackCuts.f
  repeat' first
      | (with_reducible exact ih0 _ _ _ _ _ _ _)
      | (with_reducible exact ih1 _ _ _ _)
      | (with_reducible exact pack_Num.mono _ _)
      | (with_reducible exact pack_Text.mono _ _)
      | (with_reducible exact palinodelaw01_examples.mono _)
      | (with_reducible exact LeO.refl _)
      | (with_reducible exact LeO.none _)
      | (with_reducible refine LeO.ite ?_ ?_)
      | (with_reducible refine LeO.bind ?_ (fun _ => ?_))
      | exact ih0 _ _ _ _ _ _ _
      | exact ih1 _ _ _ _
      | exact pack_Num.mono _ _
      | exact pack_Text.mono _ _
      | exact palinodelaw01_examples.mono _
      | exact LeO.none _
      | refine LeO.ite ?_ ?_
      | refine LeO.bind ?_ (fun _ => ?_)
set_option maxHeartbeats 8000000 in
set_option maxRecDepth 100000 in
theorem palinodelaw01_PackCuts.calls (k : Nat) (a0 : Int) (a1 : ByteArray) (a2 : Int) (r : Bool) (w : World) (h : palinodelaw01_PackCuts.f k a0 a1 a2 = some r) :
    Calls Try.prog 7 #[.int .i64 a0, .string a1, .int .i64 a2] w fun e w' => e = .returned (.bool r) ∧ Below w.heap.size w w' := by
  have hu24 := Try.underlying24
  have hu54 := Try.underlying54
  have HB := Aside0.mk (Below.refl w.heap.size w)
  have H : ((palinodelaw01_examples.f k).bind fun t321 => ((pack_Num.f k a0).bind fun bt322 => ((pack_Text.f k a1).bind fun bt324 => (if bt322.2.isNone = true then (if bt324.2.isNone = true then (if bt322.1.toList = ([] : List UInt8) then (palinodelaw01_PackCuts.j0 k a0 a1 a2 t321 bt322.1 bt324.1 true) else (palinodelaw01_PackCuts.j0 k a0 a1 a2 t321 bt322.1 bt324.1 (bt324.1.toList == ([] : List UInt8)))) else (palinodelaw01_PackCuts.j0 k a0 a1 a2 t321 bt322.1 bt324.1 true)) else (palinodelaw01_PackCuts.j0 k a0 a1 a2 t321 bt322.1 bt324.1 true))))) = some r := h
  clear h
  replace H := Option.bind_eq_some_iff.mp H
  obtain ⟨t321, A40, H⟩ := H
  replace H : ((pack_Num.f k a0).bind fun bt322 => ((pack_Text.f k a1).bind fun bt324 => (if bt322.2.isNone = true then (if bt324.2.isNone = true then (if bt322.1.toList = ([] : List UInt8) then (palinodelaw01_PackCuts.j0 k a0 a1 a2 t321 bt322.1 bt324.1 true) else (palinodelaw01_PackCuts.j0 k a0 a1 a2 t321 bt322.1 bt324.1 (bt324.1.toList == ([] : List UInt8)))) else (palinodelaw01_PackCuts.j0 k a0 a1 a2 t321 bt322.1 bt324.1 true)) else (palinodelaw01_PackCuts.j0 k a0 a1 a2 t321 bt322.1 bt324.1 true)))) = some r := H
  have A4 := Aside0.mk A40
  clear A40
  replace H := Option.bind_eq_some_iff.mp H
  obtain ⟨⟨t322, t323⟩, A50, H⟩ := H
  replace H : ((pack_Text.f k a1).bind fun bt324 => (if t323.isNone = true then (if bt324.2.isNone = true then (if t322.toList = ([] : List UInt8) then (palinodelaw01_PackCuts.j0 k a0 a1 a2 t321 t322 bt324.1 true) else (palinodelaw01_PackCuts.j0 k a0 a1 a2 t321 t322 bt324.1 (bt324.1.toList == ([] : List UInt8)))) else (palinodelaw01_PackCuts.j0 k a0 a1 a2 t321 t322 bt324.1 true)) else (palinodelaw01_PackCuts.j0 k a0 a1 a2 t321 t322 bt324.1 true))) = some r := H
  have A5 := Aside0.mk A50
  clear A50
  replace H := Option.bind_eq_some_iff.mp H
  obtain ⟨⟨t324, t325⟩, A60, H⟩ := H
  replace H : (if t323.isNone = true then (if t325.isNone = true then (if t322.toList = ([] : List UInt8) then (palinodelaw01_PackCuts.j0 k a0 a1 a2 t321 t322 t324 true) else (palinodelaw01_PackCuts.j0 k a0 a1 a2 t321 t322 t324 (t324.toList == ([] : List UInt8)))) else (palinodelaw01_PackCuts.j0 k a0 a1 a2 t321 t322 t324 true)) else (palinodelaw01_PackCuts.j0 k a0 a1 a2 t321 t322 t324 true)) = some r := H
  have A6 := Aside0.mk A60
  clear A60
  have HC7 := Aside0.mk H
  clear H
  go_enter Try.func7, Try.ntmps7
  go_upto_region 4 with (first | ((with_reducible refine gate_callee (f := 10) rfl ?_); refine goesL_ (some 18) rfl rfl Try.func10 (by kernel_rfl) rfl #[] rfl (by (try simp only [List.map_toArray, List.map_cons, List.map_nil]); first | done | rfl | (simp only [List.length_drop, List.length_take]; rfl)) ?_; (with_reducible refine (palinodelaw01_examples.calls k  t321 _ A4.out).mono ?_); rintro e w8 ⟨rfl, hb⟩; refine ⟨_, rfl, ?_⟩; have n0_ := Aside0.mk (below_step (by repeat (first | (with_reducible first | exact HB.out | apply below_alloc | apply pw_below_drewN | apply below_drew1) | exact HB.out)) hb); clear HB; have HB := n0_; clear n0_; (try clear hb); (try clear hb2); (try clear hk); (try clear hi)) | ((with_reducible refine gate_callee (f := 11) rfl ?_); refine goesL_ (some 21) rfl rfl Try.func11 (by kernel_rfl) rfl #[.int .i64 a0] rfl (by (try simp only [List.map_toArray, List.map_cons, List.map_nil]); first | done | rfl | (simp only [List.length_drop, List.length_take]; rfl)) ?_; (with_reducible refine (pack_Num.calls k a0 t322 t323 _ A5.out).mono ?_); rintro e w9 ⟨rfl, hb⟩; refine ⟨_, rfl, ?_⟩; have n0_ := Aside0.mk (below_step (by repeat (first | (with_reducible first | exact HB.out | apply below_alloc | apply pw_below_drewN | apply below_drew1) | exact HB.out)) hb); clear HB; have HB := n0_; clear n0_; (try clear hb); (try clear hb2); (try clear hk); (try clear hi); (try simp only [errW_none, errW_some])) | ((with_reducible refine gate_callee (f := 16) rfl ?_); refine goesL_ (some 26) rfl rfl Try.func16 (by kernel_rfl) rfl #[.string a1] rfl (by (try simp only [List.map_toArray, List.map_cons, List.map_nil]); first | done | rfl | (simp only [List.length_drop, List.length_take]; rfl)) ?_; (with_reducible refine (pack_Text.calls k a1 t324 t325 _ A6.out).mono ?_); rintro e w10 ⟨rfl, hb⟩; refine ⟨_, rfl, ?_⟩; have n0_ := Aside0.mk (below_step (by repeat (first | (with_reducible first | exact HB.out | apply below_alloc | apply pw_below_drewN | apply below_drew1) | exact HB.out)) hb); clear HB; have HB := n0_; clear n0_; (try clear hb); (try clear hb2); (try clear hk); (try clear hi); (try simp only [errW_none, errW_some])))
  (try simp only [Act.put, List.setIfInBounds_toArray, List.set_cons_zero, List.set_cons_succ])
  go_cut [42] (fun v42 wc => ∃ (kq : Nat) (x42_6 : Bool), v42 = .bool x42_6 ∧ Aside0 (palinodelaw01_PackCuts.j0 kq a0 a1 a2 t321 t322 t324 x42_6 = some r) ∧ Aside0 (kq ≤ k) ∧ Aside0 (Below w.heap.size w wc))
  case first =>
    have H := HC7.out
    clear HC7
    rcases t323 with _ | q326
    · have H1 : (if t325.isNone = true then (if t322.toList = ([] : List UInt8) then (palinodelaw01_PackCuts.j0 k a0 a1 a2 t321 t322 t324 true) else (palinodelaw01_PackCuts.j0 k a0 a1 a2 t321 t322 t324 (t324.toList == ([] : List UInt8)))) else (palinodelaw01_PackCuts.j0 k a0 a1 a2 t321 t322 t324 true)) = some r := by rw [if_pos (show (none : Option Int).isNone = true by rfl)] at H; exact H
      clear H
      have H := H1
      clear H1
      try simp only [errW_none, errW_some]
      rcases t325 with _ | q327
      · have H1 : (if t322.toList = ([] : List UInt8) then (palinodelaw01_PackCuts.j0 k a0 a1 a2 t321 t322 t324 true) else (palinodelaw01_PackCuts.j0 k a0 a1 a2 t321 t322 t324 (t324.toList == ([] : List UInt8)))) = some r := by rw [if_pos (show (none : Option Int).isNone = true by rfl)] at H; exact H
        clear H
        have H := H1
        clear H1
        try simp only [errW_none, errW_some]
        by_cases c11 : t322.toList = ([] : List UInt8)
        · rw [if_pos c11] at H
          have c11b0 : (t322.toList == ([] : List UInt8)) = true := beq_iff_eq.mpr c11
          have c11b1 : (t322.toList != ([] : List UInt8)) = false := bne_eq_false_iff_eq.mpr c11
          clear c11
          (first | rw [c11b0] | (simp only [i64_w, i32_w]; rw [c11b0]) | skip)
          have H' := Aside0.mk H
          clear H
          go_wp2
          go_meet
          case rel => exact ⟨_, (true), (by first | rfl | (simp; done) | (simp [*]; done)), H', ⟨by first | omega | exact Nat.le_refl _⟩, ⟨by repeat (first | (with_reducible first | exact HB.out | apply below_alloc | apply pw_below_drewN | apply below_drew1) | exact HB.out)⟩⟩
        · rw [if_neg c11] at H
          have c11b0 : (t322.toList == ([] : List UInt8)) = false := beq_eq_false_iff_ne.mpr c11
          have c11b1 : (t322.toList != ([] : List UInt8)) = true := bne_iff_ne.mpr c11
          (first | rw [c11b0] | (simp only [i64_w, i32_w]; rw [c11b0]) | skip)
          have H' := Aside0.mk H
          clear H
          go_wp2
          go_meet
          case rel => exact ⟨_, ((t324.toList == ([] : List UInt8))), (by first | rfl | (simp; done) | (simp [*]; done)), H', ⟨by first | omega | exact Nat.le_refl _⟩, ⟨by repeat (first | (with_reducible first | exact HB.out | apply below_alloc | apply pw_below_drewN | apply below_drew1) | exact HB.out)⟩⟩
      · have H1 : (palinodelaw01_PackCuts.j0 k a0 a1 a2 t321 t322 t324 true) = some r := by rw [if_neg (show ¬ (some q327).isNone = true by simp)] at H; exact H
        clear H
        have H := H1
        clear H1
        try simp only [errW_none, errW_some]
        have H' := Aside0.mk H
        clear H
        go_wp2
        go_meet
        case rel => exact ⟨_, (true), (by first | rfl | (simp; done) | (simp [*]; done)), H', ⟨by first | omega | exact Nat.le_refl _⟩, ⟨by repeat (first | (with_reducible first | exact HB.out | apply below_alloc | apply pw_below_drewN | apply below_drew1) | exact HB.out)⟩⟩
    · have H1 : (palinodelaw01_PackCuts.j0 k a0 a1 a2 t321 t322 t324 true) = some r := by rw [if_neg (show ¬ (some q326).isNone = true by simp)] at H; exact H
      clear H
      have H := H1
      clear H1
      try simp only [errW_none, errW_some]
      have H' := Aside0.mk H
      clear H
      go_wp2
      go_meet
      case rel => exact ⟨_, (true), (by first | rfl | (simp; done) | (simp [*]; done)), H', ⟨by first | omega | exact Nat.le_refl _⟩, ⟨by repeat (first | (with_reducible first | exact HB.out | apply below_alloc | apply pw_below_drewN | apply below_drew1) | exact HB.out)⟩⟩
  case rest =>
    clear HC7
    try clear c1
    try clear p2
    try clear q3
    try clear c7
    try clear c10
    try clear c11
    try clear c11b0
    try clear c11b1
    try clear q326
    try clear q327
    obtain ⟨kq, x42_6, rfl, HA, HJ6, HB⟩ := hcut
    cases kq with
    | zero => exact absurd HA.out (by simp [palinodelaw01_PackCuts.j0])
    | succ kj6 =>
      have H := HA.out
      clear HA
      simp only [palinodelaw01_PackCuts.j0] at H
      by_cases c12 : x42_6 = true
      · subst c12
        have H1 : (if t321 = true then (if a0 < 0 then (some true) else (if a0 > 9007199254740991 then (some true) else (some (decide ((a1.size : Int) > 1048576))))) else (some false)) = some r := by rw [if_pos rfl] at H; exact H
        clear H
        have H := H1
        clear H1
        by_cases c13 : t321 = true
        · subst c13
          have H1 : (if a0 < 0 then (some true) else (if a0 > 9007199254740991 then (some true) else (some (decide ((a1.size : Int) > 1048576))))) = some r := by rw [if_pos rfl] at H; exact H
          clear H
          have H := H1
          clear H1
          by_cases c14 : a0 < 0
          · rw [if_pos c14] at H
            have c14b0 : decide (a0 < 0) = true := decide_eq_true c14
            clear c14
            obtain rfl := Option.some.inj H
            go_wp2
            go_ret
            exact ⟨by first | rfl | (simp [errW_none, errW_some] <;> rfl) | (simp [*, errW_none, errW_some] <;> rfl), by repeat (first | (with_reducible first | exact HB.out | apply below_alloc | apply pw_below_drewN | apply below_drew1) | exact HB.out)⟩
          · rw [if_neg c14] at H
            have c14b0 : decide (a0 < 0) = false := decide_eq_false c14
            clear c14
            by_cases c15 : a0 > 9007199254740991
            · rw [if_pos c15] at H
              have c15b0 : decide (9007199254740991 < a0) = true := decide_eq_true c15
              clear c15
              obtain rfl := Option.some.inj H
              go_wp2
              go_ret
              exact ⟨by first | rfl | (simp [errW_none, errW_some] <;> rfl) | (simp [*, errW_none, errW_some] <;> rfl), by repeat (first | (with_reducible first | exact HB.out | apply below_alloc | apply pw_below_drewN | apply below_drew1) | exact HB.out)⟩
            · rw [if_neg c15] at H
              have c15b0 : decide (9007199254740991 < a0) = false := decide_eq_false c15
              clear c15
              obtain rfl := Option.some.inj H
              go_wp2
              go_ret
              exact ⟨by first | rfl | (simp [errW_none, errW_some] <;> rfl) | (simp [*, errW_none, errW_some] <;> rfl), by repeat (first | (with_reducible first | exact HB.out | apply below_alloc | apply pw_below_drewN | apply below_drew1) | exact HB.out)⟩
        · replace c13 := Bool.eq_false_iff.mpr c13
          subst c13
          have H1 : (some false) = some r := by rw [if_neg (show ¬ (false = true) by decide)] at H; exact H
          clear H
          have H := H1
          clear H1
          obtain rfl := Option.some.inj H
          go_wp2
          go_ret
          exact ⟨by first | rfl | (simp [errW_none, errW_some] <;> rfl) | (simp [*, errW_none, errW_some] <;> rfl), by repeat (first | (with_reducible first | exact HB.out | apply below_alloc | apply pw_below_drewN | apply below_drew1) | exact HB.out)⟩
      · replace c12 := Bool.eq_false_iff.mpr c12
        subst c12
        have H1 : (if a2 < 0 then (palinodelaw01_PackCuts.j1 kj6 (wrap64 (-(wrap64 (a2 + 1)))) t321 t322 t324) else (palinodelaw01_PackCuts.j1 kj6 a2 t321 t322 t324)) = some r := by rw [if_neg (show ¬ (false = true) by decide)] at H; exact H
        clear H
        have H := H1
        clear H1
        have HC16 := Aside0.mk H
        clear H
        go_upto_if 58 with (fail)
        go_cut [2] (fun v2 wc => ∃ (kq : Nat) (x2_15 : Int), v2 = .int .i64 x2_15 ∧ Aside0 (palinodelaw01_PackCuts.j1 kq x2_15 t321 t322 t324 = some r) ∧ Aside0 (kq ≤ kj6) ∧ Aside0 (Below w.heap.size w wc))
        case first =>
          have H := HC16.out
          clear HC16
          by_cases c17 : a2 < 0
          · rw [if_pos c17] at H
            have c17b0 : decide (a2 < 0) = true := decide_eq_true c17
            clear c17
            (first | rw [c17b0] | (simp only [i64_w, i32_w]; rw [c17b0]) | skip)
            have H' := Aside0.mk H
            clear H
            go_wp2
            go_meet
            case rel => exact ⟨_, (wrap64 (-(wrap64 (a2 + 1)))), (by first | rfl | (simp; done) | (simp [*]; done)), H', ⟨by have := HJ6.out; first | omega | exact Nat.le_refl _⟩, ⟨by repeat (first | (with_reducible first | exact HB.out | apply below_alloc | apply pw_below_drewN | apply below_drew1) | exact HB.out)⟩⟩
          · rw [if_neg c17] at H
            have c17b0 : decide (a2 < 0) = false := decide_eq_false c17
            clear c17
            (first | rw [c17b0] | (simp only [i64_w, i32_w]; rw [c17b0]) | skip)
            have H' := Aside0.mk H
            clear H
            go_wp2
            go_meet
            case rel => exact ⟨_, (a2), (by first | rfl | (simp; done) | (simp [*]; done)), H', ⟨by have := HJ6.out; first | omega | exact Nat.le_refl _⟩, ⟨by repeat (first | (with_reducible first | exact HB.out | apply below_alloc | apply pw_below_drewN | apply below_drew1) | exact HB.out)⟩⟩
        case rest =>
          clear HC16
          try clear c1
          try clear p2
          try clear q3
          try clear p6
          try clear c7
          try clear c10
          try clear c11
          try clear c11b0
          try clear c11b1
          try clear c12
          try clear c13
          try clear c14
          try clear c14b0
          try clear c15
          try clear c15b0
          try clear c16
          try clear c17
          try clear c17b0
          try clear p2
          try clear q3
          try clear q326
          try clear q327
          obtain ⟨kq, x2_15, rfl, HA, HJ15, HB⟩ := hcut
          cases kq with
          | zero => exact absurd HA.out (by simp [palinodelaw01_PackCuts.j1])
          | succ kj15 =>
            have H := HA.out
            clear HA
            simp only [palinodelaw01_PackCuts.j1] at H
            by_cases c18 : (t322.size : Int) = 0
            · rw [if_pos c18] at H
              exact absurd H (by simp)
            · rw [if_neg c18] at H
              have c18b0 : ((t322.size : Int) == 0) = false := beq_eq_false_iff_ne.mpr c18
              have c18b1 : ((t322.size : Int) != 0) = true := bne_iff_ne.mpr c18
              obtain ⟨ji19, hji19⟩ : ∃ j_ : Int, (Int.tmod x2_15 (t322.size : Int)) = j_ := ⟨_, rfl⟩
              replace H : (if 0 ≤ (ji19) then (if (ji19) ≤ (t322.size : Int) then ((pack_ReadNum.f (t322.extract 0 ((ji19) : Int).toNat)).bind fun bt328 => (if (t324.size : Int) = 0 then (none) else (if 0 ≤ (Int.tmod x2_15 (t324.size : Int)) then (if (Int.tmod x2_15 (t324.size : Int)) ≤ (t324.size : Int) then ((pack_ReadText.f (t324.extract 0 ((Int.tmod x2_15 (t324.size : Int)) : Int).toNat)).bind fun bt331 => (if t321 = true then ((palinodelaw01_is.f bt328.2.2 2).bind fun t334 => (if t334 = true then ((palinodelaw01_is.f bt331.2.2 2).bind fun t335 => (some t335)) else (some false))) else (some false))) else (none)) else (none)))) else (none)) else (none)) = some r := by first | (rw [hji19] at H; exact H) | (simp only [hji19] at H ⊢; exact H)
              by_cases c20 : 0 ≤ (ji19)
              · rw [if_pos c20] at H
                have c20b0 := eq_true c20
                have c20b1 : decide (0 ≤ (ji19)) = true := decide_eq_true c20
                clear c20
                by_cases c21 : (ji19) ≤ (t322.size : Int)
                · rw [if_pos c21] at H
                  have c21b0 := eq_true c21
                  have c21b1 : decide ((ji19) ≤ (t322.size : Int)) = true := decide_eq_true c21
                  clear c21
                  replace H := Option.bind_eq_some_iff.mp H
                  obtain ⟨⟨t328, t329, t330⟩, A220, H⟩ := H
                  replace H : (if (t324.size : Int) = 0 then (none) else (if 0 ≤ (Int.tmod x2_15 (t324.size : Int)) then (if (Int.tmod x2_15 (t324.size : Int)) ≤ (t324.size : Int) then ((pack_ReadText.f (t324.extract 0 ((Int.tmod x2_15 (t324.size : Int)) : Int).toNat)).bind fun bt331 => (if t321 = true then ((palinodelaw01_is.f t330 2).bind fun t334 => (if t334 = true then ((palinodelaw01_is.f bt331.2.2 2).bind fun t335 => (some t335)) else (some false))) else (some false))) else (none)) else (none))) = some r := H
                  have A22 := Aside0.mk A220
                  clear A220
                  by_cases c23 : (t324.size : Int) = 0
                  · rw [if_pos c23] at H
                    exact absurd H (by simp)
                  · rw [if_neg c23] at H
                    have c23b0 : ((t324.size : Int) == 0) = false := beq_eq_false_iff_ne.mpr c23
                    have c23b1 : ((t324.size : Int) != 0) = true := bne_iff_ne.mpr c23
                    obtain ⟨ji24, hji24⟩ : ∃ j_ : Int, (Int.tmod x2_15 (t324.size : Int)) = j_ := ⟨_, rfl⟩
                    replace H : (if 0 ≤ (ji24) then (if (ji24) ≤ (t324.size : Int) then ((pack_ReadText.f (t324.extract 0 ((ji24) : Int).toNat)).bind fun bt331 => (if t321 = true then ((palinodelaw01_is.f t330 2).bind fun t334 => (if t334 = true then ((palinodelaw01_is.f bt331.2.2 2).bind fun t335 => (some t335)) else (some false))) else (some false))) else (none)) else (none)) = some r := by first | (rw [hji24] at H; exact H) | (simp only [hji24] at H ⊢; exact H)
                    (try rw [hji24] at A22)
                    by_cases c25 : 0 ≤ (ji24)
                    · rw [if_pos c25] at H
                      have c25b0 := eq_true c25
                      have c25b1 : decide (0 ≤ (ji24)) = true := decide_eq_true c25
                      clear c25
                      by_cases c26 : (ji24) ≤ (t324.size : Int)
                      · rw [if_pos c26] at H
                        have c26b0 := eq_true c26
                        have c26b1 : decide ((ji24) ≤ (t324.size : Int)) = true := decide_eq_true c26
                        clear c26
                        replace H := Option.bind_eq_some_iff.mp H
                        obtain ⟨⟨t331, t332, t333⟩, A270, H⟩ := H
                        replace H : (if t321 = true then ((palinodelaw01_is.f t330 2).bind fun t334 => (if t334 = true then ((palinodelaw01_is.f t333 2).bind fun t335 => (some t335)) else (some false))) else (some false)) = some r := H
                        have A27 := Aside0.mk A270
                        clear A270
                        by_cases c28 : t321 = true
                        · subst c28
                          have H1 : ((palinodelaw01_is.f t330 2).bind fun t334 => (if t334 = true then ((palinodelaw01_is.f t333 2).bind fun t335 => (some t335)) else (some false))) = some r := by rw [if_pos rfl] at H; exact H
                          clear H
                          have H := H1
                          clear H1
                          replace H := Option.bind_eq_some_iff.mp H
                          obtain ⟨t334, A290, H⟩ := H
                          replace H : (if t334 = true then ((palinodelaw01_is.f t333 2).bind fun t335 => (some t335)) else (some false)) = some r := H
                          have A29 := Aside0.mk A290
                          clear A290
                          by_cases c30 : t334 = true
                          · subst c30
                            have H1 : ((palinodelaw01_is.f t333 2).bind fun t335 => (some t335)) = some r := by rw [if_pos rfl] at H; exact H
                            clear H
                            have H := H1
                            clear H1
                            replace H := Option.bind_eq_some_iff.mp H
                            obtain ⟨t335, A310, H⟩ := H
                            replace H : (some t335) = some r := H
                            have A31 := Aside0.mk A310
                            clear A310
                            obtain rfl := Option.some.inj H
                            go_wp2_with (first | ((with_reducible refine gate_callee (f := 13) rfl ?_); refine goesL_ (some 69) rfl rfl Try.func13 (by kernel_rfl) rfl #[.string (t322.extract 0 ((ji19) : Int).toNat)] rfl (by (try simp only [List.map_toArray, List.map_cons, List.map_nil]); first | done | (simp only [hji19]; rfl) | rfl | (simp only [List.length_drop, List.length_take]; rfl)) ?_; (with_reducible refine (pack_ReadNum.calls (t322.extract 0 ((ji19) : Int).toNat) t328 t329 t330 _ A22.out).mono ?_); rintro e w32 ⟨rfl, hb⟩; refine ⟨_, rfl, ?_⟩; have n0_ := Aside0.mk (below_step (by repeat (first | (with_reducible first | exact HB.out | apply below_alloc | apply pw_below_drewN | apply below_drew1) | exact HB.out)) hb); clear HB; have HB := n0_; clear n0_; (try clear hb); (try clear hb2); (try clear hk); (try clear hi); (try simp only [errW_none, errW_some])) | ((with_reducible refine gate_callee (f := 18) rfl ?_); refine goesL_ (some 80) rfl rfl Try.func18 (by kernel_rfl) rfl #[.string (t324.extract 0 ((ji24) : Int).toNat)] rfl (by (try simp only [List.map_toArray, List.map_cons, List.map_nil]); first | done | (simp only [hji24]; rfl) | rfl | (simp only [List.length_drop, List.length_take]; rfl)) ?_; (with_reducible refine (pack_ReadText.calls (t324.extract 0 ((ji24) : Int).toNat) t331 t332 t333 _ A27.out).mono ?_); rintro e w33 ⟨rfl, hb⟩; refine ⟨_, rfl, ?_⟩; have n0_ := Aside0.mk (below_step (by repeat (first | (with_reducible first | exact HB.out | apply below_alloc | apply pw_below_drewN | apply below_drew1) | exact HB.out)) hb); clear HB; have HB := n0_; clear n0_; (try clear hb); (try clear hb2); (try clear hk); (try clear hi); (try simp only [errW_none, errW_some]); have CA29 := fun W => palinodelaw01_is.calls t330 2 true W A29.out; try simp only [errW_none, errW_some] at CA29) | (go_at_call 15; (with_reducible refine (CA29 _).mono ?_); rintro e w' ⟨rfl, ⟨nd, rfl⟩⟩; have CA31 := fun W => palinodelaw01_is.calls t333 2 t335 W A31.out; try simp only [errW_none, errW_some] at CA31) | (go_at_call 15; (with_reducible refine (CA31 _).mono ?_); rintro e w' ⟨rfl, ⟨nd, rfl⟩⟩))
                            go_ret
                            exact ⟨by first | rfl | (simp [errW_none, errW_some] <;> rfl) | (simp only [← hji19, ← hji24]; first | rfl | (simp [errW_none, errW_some] <;> rfl)) | (simp [*, errW_none, errW_some] <;> rfl), by repeat (first | (with_reducible first | exact HB.out | apply below_alloc | apply pw_below_drewN | apply below_drew1) | exact HB.out)⟩
                          · replace c30 := Bool.eq_false_iff.mpr c30
                            subst c30
                            have H1 : (some false) = some r := by rw [if_neg (show ¬ (false = true) by decide)] at H; exact H
                            clear H
                            have H := H1
                            clear H1
                            obtain rfl := Option.some.inj H
                            go_wp2_with (first | ((with_reducible refine gate_callee (f := 13) rfl ?_); refine goesL_ (some 69) rfl rfl Try.func13 (by kernel_rfl) rfl #[.string (t322.extract 0 ((ji19) : Int).toNat)] rfl (by (try simp only [List.map_toArray, List.map_cons, List.map_nil]); first | done | (simp only [hji19]; rfl) | rfl | (simp only [List.length_drop, List.length_take]; rfl)) ?_; (with_reducible refine (pack_ReadNum.calls (t322.extract 0 ((ji19) : Int).toNat) t328 t329 t330 _ A22.out).mono ?_); rintro e w34 ⟨rfl, hb⟩; refine ⟨_, rfl, ?_⟩; have n0_ := Aside0.mk (below_step (by repeat (first | (with_reducible first | exact HB.out | apply below_alloc | apply pw_below_drewN | apply below_drew1) | exact HB.out)) hb); clear HB; have HB := n0_; clear n0_; (try clear hb); (try clear hb2); (try clear hk); (try clear hi); (try simp only [errW_none, errW_some])) | ((with_reducible refine gate_callee (f := 18) rfl ?_); refine goesL_ (some 80) rfl rfl Try.func18 (by kernel_rfl) rfl #[.string (t324.extract 0 ((ji24) : Int).toNat)] rfl (by (try simp only [List.map_toArray, List.map_cons, List.map_nil]); first | done | (simp only [hji24]; rfl) | rfl | (simp only [List.length_drop, List.length_take]; rfl)) ?_; (with_reducible refine (pack_ReadText.calls (t324.extract 0 ((ji24) : Int).toNat) t331 t332 t333 _ A27.out).mono ?_); rintro e w35 ⟨rfl, hb⟩; refine ⟨_, rfl, ?_⟩; have n0_ := Aside0.mk (below_step (by repeat (first | (with_reducible first | exact HB.out | apply below_alloc | apply pw_below_drewN | apply below_drew1) | exact HB.out)) hb); clear HB; have HB := n0_; clear n0_; (try clear hb); (try clear hb2); (try clear hk); (try clear hi); (try simp only [errW_none, errW_some]); have CA29 := fun W => palinodelaw01_is.calls t330 2 false W A29.out; try simp only [errW_none, errW_some] at CA29) | (go_at_call 15; (with_reducible refine (CA29 _).mono ?_); rintro e w' ⟨rfl, ⟨nd, rfl⟩⟩))
                            go_ret
                            exact ⟨by first | rfl | (simp [errW_none, errW_some] <;> rfl) | (simp only [← hji19, ← hji24]; first | rfl | (simp [errW_none, errW_some] <;> rfl)) | (simp [*, errW_none, errW_some] <;> rfl), by repeat (first | (with_reducible first | exact HB.out | apply below_alloc | apply pw_below_drewN | apply below_drew1) | exact HB.out)⟩
                        · replace c28 := Bool.eq_false_iff.mpr c28
                          subst c28
                          have H1 : (some false) = some r := by rw [if_neg (show ¬ (false = true) by decide)] at H; exact H
                          clear H
                          have H := H1
                          clear H1
                          obtain rfl := Option.some.inj H
                          go_wp2_with (first | ((with_reducible refine gate_callee (f := 13) rfl ?_); refine goesL_ (some 69) rfl rfl Try.func13 (by kernel_rfl) rfl #[.string (t322.extract 0 ((ji19) : Int).toNat)] rfl (by (try simp only [List.map_toArray, List.map_cons, List.map_nil]); first | done | (simp only [hji19]; rfl) | rfl | (simp only [List.length_drop, List.length_take]; rfl)) ?_; (with_reducible refine (pack_ReadNum.calls (t322.extract 0 ((ji19) : Int).toNat) t328 t329 t330 _ A22.out).mono ?_); rintro e w36 ⟨rfl, hb⟩; refine ⟨_, rfl, ?_⟩; have n0_ := Aside0.mk (below_step (by repeat (first | (with_reducible first | exact HB.out | apply below_alloc | apply pw_below_drewN | apply below_drew1) | exact HB.out)) hb); clear HB; have HB := n0_; clear n0_; (try clear hb); (try clear hb2); (try clear hk); (try clear hi); (try simp only [errW_none, errW_some])) | ((with_reducible refine gate_callee (f := 18) rfl ?_); refine goesL_ (some 80) rfl rfl Try.func18 (by kernel_rfl) rfl #[.string (t324.extract 0 ((ji24) : Int).toNat)] rfl (by (try simp only [List.map_toArray, List.map_cons, List.map_nil]); first | done | (simp only [hji24]; rfl) | rfl | (simp only [List.length_drop, List.length_take]; rfl)) ?_; (with_reducible refine (pack_ReadText.calls (t324.extract 0 ((ji24) : Int).toNat) t331 t332 t333 _ A27.out).mono ?_); rintro e w37 ⟨rfl, hb⟩; refine ⟨_, rfl, ?_⟩; have n0_ := Aside0.mk (below_step (by repeat (first | (with_reducible first | exact HB.out | apply below_alloc | apply pw_below_drewN | apply below_drew1) | exact HB.out)) hb); clear HB; have HB := n0_; clear n0_; (try clear hb); (try clear hb2); (try clear hk); (try clear hi); (try simp only [errW_none, errW_some])))
                          go_ret
                          exact ⟨by first | rfl | (simp [errW_none, errW_some] <;> rfl) | (simp only [← hji19, ← hji24]; first | rfl | (simp [errW_none, errW_some] <;> rfl)) | (simp [*, errW_none, errW_some] <;> rfl), by repeat (first | (with_reducible first | exact HB.out | apply below_alloc | apply pw_below_drewN | apply below_drew1) | exact HB.out)⟩
                      · rw [if_neg c26] at H
                        exact absurd H (by simp)
                    · rw [if_neg c25] at H
                      exact absurd H (by simp)
                · rw [if_neg c21] at H
                  exact absurd H (by simp)
              · rw [if_neg c20] at H
                exact absurd H (by simp)


/-- THE ONE PURE STATEMENT of palinodelaw01_PackCuts. -/
def palinodelaw01_PackCuts.Pure : Prop := ∀ (a0 : Int) (a1 : ByteArray) (a2 : Int), (Lit.int .i64 a0).wf = true → a1.size ≤ 140737488351232 → (Lit.int .i64 a2).wf = true → ∃ k, palinodelaw01_PackCuts.f k a0 a1 a2 = some true
theorem palinodelaw01_PackCuts.walk (P : palinodelaw01_PackCuts.Pure) (a0 : Int) (a1 : ByteArray) (a2 : Int) (w : World) (v0 : (Lit.int .i64 a0).wf = true) (v1 : a1.size ≤ 140737488351232) (v2 : (Lit.int .i64 a2).wf = true) :
    Calls Try.prog 7 #[.int .i64 a0, .string a1, .int .i64 a2] w fun e w' => e = .returned (.bool true) ∧ Below w.heap.size w w' := by
  obtain ⟨k, h⟩ := P a0 a1 a2 v0 v1 v2
  refine (palinodelaw01_PackCuts.calls k a0 a1 a2 true w  h).mono ?_
  rintro e w' ⟨rfl, hd⟩
  exact ⟨rfl, hd⟩

-- NOT PRINTED: function 20 (pack_Row)

/-! ### palinoderef01_Row: function 21 -/
def palinoderef01_Row.l0 : Nat → List ByteArray → ByteArray → Int → Option (ByteArray × Bool)
  | 0, _, _, _ => none
  | k + 1, x0, x4, x6 => if x6 < (x0.length : Int) then (if 0 ≤ x6 then ((palinoderef01_Text.f k (rdOf ByteArray.empty x0 x6)).bind fun bt341 => (if bt341.2 = true then (if (wrap64 ((x4.size : Int) + (bt341.1.size : Int))) > 1048576 then (some ((⟨#[]⟩ : ByteArray), false)) else (if x4.size + bt341.1.size ≤ 9223372036854775807 then (palinoderef01_Row.l0 k x0 (x4 ++ bt341.1) (wrap64 (x6 + 1))) else (none))) else (some ((⟨#[]⟩ : ByteArray), false)))) else (none)) else (some (x4, true))
def palinoderef01_Row.f (k : Nat) (l0 : List ByteArray) : Option (ByteArray × Bool) := if (l0.length : Int) > 1000 then (some ((⟨#[]⟩ : ByteArray), false)) else ((palinoderef01_Num.f k (l0.length : Int)).bind fun bt338 => (palinoderef01_Row.l0 k l0 bt338.1 0))
theorem palinoderef01_Row.mono_l : ∀ k, (∀ y0 y1 y2, LeO (palinoderef01_Row.l0 k y0 y1 y2) (palinoderef01_Row.l0 (k + 1) y0 y1 y2))
  | 0 => fun _ _ _ r h => by simp [palinoderef01_Row.l0] at h
  | k + 1 => by
    have ih0 := palinoderef01_Row.mono_l k
    · intro y0 y1 y2
      unfold palinoderef01_Row.l0
      repeat' first
      | (with_reducible exact ih0 _ _ _)
      | (with_reducible exact palinoderef01_Num.mono _ _)
      | (with_reducible exact palinoderef01_Text.mono _ _)
      | (with_reducible exact LeO.refl _)
      | (with_reducible exact LeO.none _)
      | (with_reducible refine LeO.ite ?_ ?_)
      | (with_reducible refine LeO.bind ?_ (fun _ => ?_))
      | exact ih0 _ _ _
      | exact palinoderef01_Num.mono _ _
      | exact palinoderef01_Text.mono _ _
      | exact LeO.none _
      | refine LeO.ite ?_ ?_
      | refine LeO.bind ?_ (fun _ => ?_)
theorem palinoderef01_Row.mono : ∀ a0 k, LeO (palinoderef01_Row.f k a0) (palinoderef01_Row.f (k + 1) a0) := by
  intro a0 k
  have ih0 := palinoderef01_Row.mono_l k
  unfold palinoderef01_Row.f
  repeat' first
      | (with_reducible exact ih0 _ _ _)
      | (with_reducible exact palinoderef01_Num.mono _ _)
      | (with_reducible exact palinoderef01_Text.mono _ _)
      | (with_reducible exact LeO.refl _)
      | (with_reducible exact LeO.none _)
      | (with_reducible refine LeO.ite ?_ ?_)
      | (with_reducible refine LeO.bind ?_ (fun _ => ?_))
      | exact ih0 _ _ _
      | exact palinoderef01_Num.mono _ _
      | exact palinoderef01_Text.mono _ _
      | exact LeO.none _
      | refine LeO.ite ?_ ?_
      | refine LeO.bind ?_ (fun _ => ?_)
set_option maxHeartbeats 8000000 in
set_option maxRecDepth 100000 in
theorem palinoderef01_Row.calls (k : Nat) (A0 : Option Addr) (c0 : Nat) (l0 : List ByteArray) (r1 : ByteArray) (r2 : Bool) (w : World) (hr0 : Kd.C Kd.string w A0 l0.length l0) (hc0 : l0.length ≤ c0) (h : palinoderef01_Row.f k l0 = some (r1, r2)) :
    Calls Try.prog 21 #[.slice A0 l0.length c0] w fun e w' => e = .returned (.tuple #[.string r1, .bool r2]) ∧ Below w.heap.size w w' := by
  have HR0 := Aside0.mk hr0
  have HC0 := Aside0.mk hc0
  clear hr0 hc0
  have HB := Aside0.mk (Below.refl w.heap.size w)
  have H : (if (l0.length : Int) > 1000 then (some ((⟨#[]⟩ : ByteArray), false)) else ((palinoderef01_Num.f k (l0.length : Int)).bind fun bt338 => (palinoderef01_Row.l0 k l0 bt338.1 0))) = some (r1, r2) := h
  clear h
  by_cases c2 : (l0.length : Int) > 1000
  · rw [if_pos c2] at H
    have c2b0 : decide (1000 < (l0.length : Int)) = true := decide_eq_true c2
    have c2b1 : decide (1000 < l0.length) = true := decide_eq_true (by omega)
    clear c2
    simp only [Option.some.injEq, Prod.mk.injEq] at H
    obtain ⟨rfl, rfl⟩ := H
    go_enter Try.func21, Try.ntmps21
    go_wp2
    go_ret2
    exact ⟨by first | rfl | (simp [errW_none, errW_some] <;> rfl) | (simp [*, errW_none, errW_some] <;> rfl), by repeat (first | (with_reducible first | exact HB.out | apply below_alloc | apply pw_below_drewN | apply below_drew1) | exact HB.out)⟩
  · rw [if_neg c2] at H
    have c2b0 : decide (1000 < (l0.length : Int)) = false := decide_eq_false c2
    have c2b1 : decide (1000 < l0.length) = false := decide_eq_false (by omega)
    clear c2
    replace H := Option.bind_eq_some_iff.mp H
    obtain ⟨⟨t338, t339⟩, A30, H⟩ := H
    replace H : (palinoderef01_Row.l0 k l0 t338 0) = some (r1, r2) := H
    have A3 := Aside0.mk A30
    clear A30
    have H' := Aside0.mk H
    clear H
    go_enter Try.func21, Try.ntmps21
    go_wp2_with (first | ((with_reducible refine gate_callee (f := 12) rfl ?_); refine goesL_ (some 15) rfl rfl Try.func12 (by kernel_rfl) rfl #[.int .i64 (l0.length : Int)] rfl (by (try simp only [List.map_toArray, List.map_cons, List.map_nil]); first | done | rfl | (simp only [List.length_drop, List.length_take]; rfl)) ?_; (with_reducible refine (palinoderef01_Num.calls k (l0.length : Int) t338 t339 _ A3.out).mono ?_); rintro e w4 ⟨rfl, hb⟩; refine ⟨_, rfl, ?_⟩; have n0_ := Aside0.mk (below_step (by repeat (first | (with_reducible first | exact HB.out | apply below_alloc | apply pw_below_drewN | apply below_drew1) | exact HB.out)) hb); clear HB; have HB := n0_; clear n0_; (try clear hb); (try clear hb2); (try clear hk); (try clear hi)))
    go_loopg [4, 6] k (fun kq v4 v6 w' => ∃ (x4_1 : ByteArray) (x6_1 : Int), v4 = .string x4_1 ∧ v6 = .int .i64 x6_1 ∧ Aside0 (palinoderef01_Row.l0 kq l0 x4_1 x6_1 = some (r1, r2)) ∧ Aside0 (kq ≤ k) ∧ Aside0 (Below w.heap.size w w'))
    case atStart => exact ⟨(t338), (0), (by first | rfl | (simp; done) | (simp [*]; done)), (by first | rfl | (simp; done) | (simp [*]; done)), H', ⟨Nat.le_refl _⟩, ⟨by repeat (first | (with_reducible first | exact HB.out | apply below_alloc | apply pw_below_drewN | apply below_drew1) | exact HB.out)⟩⟩
    case round =>
      clear H'
      try clear c1
      try clear c2
      try clear c2b0
      try clear c2b1
      try clear p2
      obtain ⟨x4_1, x6_1, rfl, rfl, HA, HK1, HB⟩ := hrel
      cases gk with
      | zero => exact absurd HA.out (by simp [palinoderef01_Row.l0])
      | succ k1 =>
        have H := HA.out
        clear HA
        simp only [palinoderef01_Row.l0] at H
        by_cases c5 : x6_1 < (l0.length : Int)
        · rw [if_pos c5] at H
          have c5b0 : decide (x6_1 < (l0.length : Int)) = true := decide_eq_true c5
          clear c5
          by_cases c6 : 0 ≤ x6_1
          · rw [if_pos c6] at H
            have c6b0 : decide (0 ≤ x6_1) = true := decide_eq_true c6
            clear c6
            replace H := Option.bind_eq_some_iff.mp H
            obtain ⟨⟨t341, t342⟩, A70, H⟩ := H
            replace H : (if t342 = true then (if (wrap64 ((x4_1.size : Int) + (t341.size : Int))) > 1048576 then (some ((⟨#[]⟩ : ByteArray), false)) else (if x4_1.size + t341.size ≤ 9223372036854775807 then (palinoderef01_Row.l0 k1 l0 (x4_1 ++ t341) (wrap64 (x6_1 + 1))) else (none))) else (some ((⟨#[]⟩ : ByteArray), false))) = some (r1, r2) := H
            have A7 := Aside0.mk A70
            clear A70
            by_cases c8 : t342 = true
            · subst c8
              have H1 : (if (wrap64 ((x4_1.size : Int) + (t341.size : Int))) > 1048576 then (some ((⟨#[]⟩ : ByteArray), false)) else (if x4_1.size + t341.size ≤ 9223372036854775807 then (palinoderef01_Row.l0 k1 l0 (x4_1 ++ t341) (wrap64 (x6_1 + 1))) else (none))) = some (r1, r2) := by rw [if_pos rfl] at H; exact H
              clear H
              have H := H1
              clear H1
              by_cases c9 : (wrap64 ((x4_1.size : Int) + (t341.size : Int))) > 1048576
              · rw [if_pos c9] at H
                have c9b0 : decide (1048576 < (wrap64 ((x4_1.size : Int) + (t341.size : Int)))) = true := decide_eq_true c9
                clear c9
                simp only [Option.some.injEq, Prod.mk.injEq] at H
                obtain ⟨rfl, rfl⟩ := H
                have p340 : 0 ≤ (x6_1 : Int) := of_decide_eq_true (by first | (with_reducible assumption) | assumption)
                have q340 : x6_1 < (l0.length : Int) := of_decide_eq_true (by first | (with_reducible assumption) | assumption)
                obtain ⟨ad340, e340, hx340_0⟩ := Kd.at_string HR0.out x6_1 p340 q340
                cases e340
                replace hx340_0 := (HB.out.cell (World.block_lt_of_cell? w _ hx340_0)).trans hx340_0
                replace p340 := eq_true p340
                replace q340 := eq_true q340
                go_wp2_with (first | ((with_reducible refine gate_callee (f := 17) rfl ?_); refine goesL_ (some 29) rfl rfl Try.func17 (by kernel_rfl) rfl #[.string (rdOf ByteArray.empty l0 x6_1)] rfl (by (try simp only [List.map_toArray, List.map_cons, List.map_nil]); first | done | rfl | (simp only [List.length_drop, List.length_take]; rfl)) ?_; (with_reducible refine (palinoderef01_Text.calls k1 (rdOf ByteArray.empty l0 x6_1) t341 true _ A7.out).mono ?_); rintro e w10 ⟨rfl, hb⟩; refine ⟨_, rfl, ?_⟩; have n0_ := Aside0.mk (below_step (by repeat (first | (with_reducible first | exact HB.out | apply below_alloc | apply pw_below_drewN | apply below_drew1) | exact HB.out)) hb); clear HB; have HB := n0_; clear n0_; (try clear hb); (try clear hb2); (try clear hk); (try clear hi)))
                go_ret2
                exact ⟨by first | rfl | (simp [errW_none, errW_some] <;> rfl) | (simp [*, errW_none, errW_some] <;> rfl), by repeat (first | (with_reducible first | exact HB.out | apply below_alloc | apply pw_below_drewN | apply below_drew1) | exact HB.out)⟩
              · rw [if_neg c9] at H
                have c9b0 : decide (1048576 < (wrap64 ((x4_1.size : Int) + (t341.size : Int)))) = false := decide_eq_false c9
                clear c9
                by_cases c11 : x4_1.size + t341.size ≤ 9223372036854775807
                · rw [if_pos c11] at H
                  have c11b0 := eq_true c11
                  have c11b1 : decide (x4_1.size + t341.size ≤ 9223372036854775807) = true := decide_eq_true c11
                  have wz_ : wrap64 ((x4_1.size : Int) + (t341.size : Int)) = (x4_1.size : Int) + (t341.size : Int) := by unfold wrap64; omega
                  try rw [wz_] at c9b0
                  clear wz_
                  try have c11b2 : (9223372036854775807 < x4_1.size + t341.size) = False := eq_false (Nat.not_lt.2 c11)
                  have H' := Aside0.mk H
                  clear H
                  have p340 : 0 ≤ (x6_1 : Int) := of_decide_eq_true (by first | (with_reducible assumption) | assumption)
                  have q340 : x6_1 < (l0.length : Int) := of_decide_eq_true (by first | (with_reducible assumption) | assumption)
                  obtain ⟨ad340, e340, hx340_0⟩ := Kd.at_string HR0.out x6_1 p340 q340
                  cases e340
                  replace hx340_0 := (HB.out.cell (World.block_lt_of_cell? w _ hx340_0)).trans hx340_0
                  replace p340 := eq_true p340
                  replace q340 := eq_true q340
                  go_wp2_with (first | ((with_reducible refine gate_callee (f := 17) rfl ?_); refine goesL_ (some 29) rfl rfl Try.func17 (by kernel_rfl) rfl #[.string (rdOf ByteArray.empty l0 x6_1)] rfl (by (try simp only [List.map_toArray, List.map_cons, List.map_nil]); first | done | rfl | (simp only [List.length_drop, List.length_take]; rfl)) ?_; (with_reducible refine (palinoderef01_Text.calls k1 (rdOf ByteArray.empty l0 x6_1) t341 true _ A7.out).mono ?_); rintro e w12 ⟨rfl, hb⟩; refine ⟨_, rfl, ?_⟩; have n0_ := Aside0.mk (below_step (by repeat (first | (with_reducible first | exact HB.out | apply below_alloc | apply pw_below_drewN | apply below_drew1) | exact HB.out)) hb); clear HB; have HB := n0_; clear n0_; (try clear hb); (try clear hb2); (try clear hk); (try clear hi)))
                  go_roundg k1
                  case measure => have := HK1.out; omega
                  case rel => exact ⟨(x4_1 ++ t341), (wrap64 (x6_1 + 1)), (by first | rfl | (simp; done) | (simp [*]; done)), (by first | rfl | (simp; done) | (simp [*]; done)), H', ⟨by have := HK1.out; omega⟩, ⟨by repeat (first | (with_reducible first | exact HB.out | apply below_alloc | apply pw_below_drewN | apply below_drew1) | exact HB.out)⟩⟩
                · rw [if_neg c11] at H
                  exact absurd H (by simp)
            · replace c8 := Bool.eq_false_iff.mpr c8
              subst c8
              have H1 : (some ((⟨#[]⟩ : ByteArray), false)) = some (r1, r2) := by rw [if_neg (show ¬ (false = true) by decide)] at H; exact H
              clear H
              have H := H1
              clear H1
              simp only [Option.some.injEq, Prod.mk.injEq] at H
              obtain ⟨rfl, rfl⟩ := H
              have p340 : 0 ≤ (x6_1 : Int) := of_decide_eq_true (by first | (with_reducible assumption) | assumption)
              have q340 : x6_1 < (l0.length : Int) := of_decide_eq_true (by first | (with_reducible assumption) | assumption)
              obtain ⟨ad340, e340, hx340_0⟩ := Kd.at_string HR0.out x6_1 p340 q340
              cases e340
              replace hx340_0 := (HB.out.cell (World.block_lt_of_cell? w _ hx340_0)).trans hx340_0
              replace p340 := eq_true p340
              replace q340 := eq_true q340
              go_wp2_with (first | ((with_reducible refine gate_callee (f := 17) rfl ?_); refine goesL_ (some 29) rfl rfl Try.func17 (by kernel_rfl) rfl #[.string (rdOf ByteArray.empty l0 x6_1)] rfl (by (try simp only [List.map_toArray, List.map_cons, List.map_nil]); first | done | rfl | (simp only [List.length_drop, List.length_take]; rfl)) ?_; (with_reducible refine (palinoderef01_Text.calls k1 (rdOf ByteArray.empty l0 x6_1) t341 false _ A7.out).mono ?_); rintro e w13 ⟨rfl, hb⟩; refine ⟨_, rfl, ?_⟩; have n0_ := Aside0.mk (below_step (by repeat (first | (with_reducible first | exact HB.out | apply below_alloc | apply pw_below_drewN | apply below_drew1) | exact HB.out)) hb); clear HB; have HB := n0_; clear n0_; (try clear hb); (try clear hb2); (try clear hk); (try clear hi)))
              go_ret2
              exact ⟨by first | rfl | (simp [errW_none, errW_some] <;> rfl) | (simp [*, errW_none, errW_some] <;> rfl), by repeat (first | (with_reducible first | exact HB.out | apply below_alloc | apply pw_below_drewN | apply below_drew1) | exact HB.out)⟩
          · rw [if_neg c6] at H
            exact absurd H (by simp)
        · rw [if_neg c5] at H
          have c5b0 : decide (x6_1 < (l0.length : Int)) = false := decide_eq_false c5
          clear c5
          simp only [Option.some.injEq, Prod.mk.injEq] at H
          obtain ⟨rfl, rfl⟩ := H
          go_wp2
          go_ret2
          exact ⟨by first | rfl | (simp [errW_none, errW_some] <;> rfl) | (simp [*, errW_none, errW_some] <;> rfl), by repeat (first | (with_reducible first | exact HB.out | apply below_alloc | apply pw_below_drewN | apply below_drew1) | exact HB.out)⟩

end Go.Proofs.Ythdjeekfnlagmaa.Print
