-- Printed out of the translation by a program of this session's own. Not trusted: Lean checks it.
import Derived.Test.YteljlfodjbgejaaPrint0
import Derived.Test.YteljlfodjbgejaaPrint6
import Derived.Test.YteljlfodjbgejaaPrint9
import Derived.Test.YteljlfodjbgejaaHMergeFold
namespace Go.Proofs.Yteljlfodjbgejaa.Print
open Go.RowKit Go.Proofs.YteljlfodjbgejaaW.PrintWords Go.Proofs.YteljlfodjbgejaaW.PrintLast Go.Proofs.YteljlfodjbgejaaW.PrintMore Go.Proofs.YteljlfodjbgejaaX
attribute [local go_sem] max2_int min2_int max_two min_two max_three min_three max_four min_four   -- for this text's walks alone
set_option linter.unusedVariables false
set_option linter.unusedSimpArgs false

/-! ### palinodelaw15_MergeAgain: function 7 -/
def palinodelaw15_MergeAgain.f (k : Nat) (l0 : List (S34)) (l1 : List Int) (a2 : Bool) : Option (Bool) := (palinodelaw15_examples.f).bind fun t361 => (if 0 ≤ (mn (l0.length : Int) 80) then (if (mn (l0.length : Int) 80) ≤ (l0.length : Int) then ((some (l0.take ((mn (l0.length : Int) 80) : Int).toNat : List (S34))).bind fun y362 => ((merge_Fold.f y362 l1 a2).bind fun bt366 => (if bt366.2.isNone = true then ((merge_Fold.f bt366.1 l1 a2).bind fun bt371 => ((merge_Fold.f y362 ([] : List Int) a2).bind fun bt375 => ((palinodelaw15_entries.f k bt366.1 bt371.1).bind fun t379 => (if t361 = true then (if bt371.2.isNone = true then (if bt375.2.isNone = true then (if t379 = true then (some (decide ((bt375.1.length : Int) ≤ (bt366.1.length : Int)))) else (some false)) else (some false)) else (some false)) else (some false))))) else (if t361 = true then (some ((bt366.1.length : Int) == 0)) else (some false))))) else (none)) else (none))
theorem palinodelaw15_MergeAgain.mono : ∀ a0 a1 a2 k, LeO (palinodelaw15_MergeAgain.f k a0 a1 a2) (palinodelaw15_MergeAgain.f (k + 1) a0 a1 a2) := by
 intro a0 a1 a2 k
 unfold palinodelaw15_MergeAgain.f
 repeat' first
   | (with_reducible exact palinodelaw15_entries.mono _ _ _)
   | (with_reducible exact LeO.refl _)
   | (with_reducible exact LeO.none _)
   | (with_reducible refine LeO.ite ?_ ?_)
   | (with_reducible refine LeO.bind ?_ (fun _ => ?_))
   | exact palinodelaw15_entries.mono _ _ _
   | exact LeO.none _
   | refine LeO.ite ?_ ?_
   | refine LeO.bind ?_ (fun _ => ?_)
set_option maxHeartbeats 8000000 in
set_option maxRecDepth 100000 in
theorem palinodelaw15_MergeAgain.calls (k : Nat) (A0 : Option Addr) (c0 : Nat) (l0 : List (S34)) (A1 : Option Addr) (c1 : Nat) (l1 : List Int) (a2 : Bool) (r : Bool) (w : World) (hr0 : Kd.C k34 w A0 l0.length l0) (hc0 : l0.length ≤ c0) (hr1 : Kd.C (Kd.int .i64) w A1 l1.length l1) (hc1 : l1.length ≤ c1) (h : palinodelaw15_MergeAgain.f k l0 l1 a2 = some r) (HEX_ : Aside0 (∀ r_, palinodelaw15_examples.f = some r_ → r_ = true)) (HRT_ : Aside0 (r = true) := by first | exact ⟨rfl⟩ | assumption) :
  Calls Try.prog 7 #[.slice A0 l0.length c0, .slice A1 l1.length c1, .bool a2] w fun e w' => e = .returned (.bool r) ∧ Below w.heap.size w w' := by
 have hu28 := Try.underlying28
 have hu50 := Try.underlying50
 have HR0 := Aside0.mk hr0
 have HC0 := Aside0.mk hc0
 clear hr0 hc0
 have HR1 := Aside0.mk hr1
 have HC1 := Aside0.mk hc1
 clear hr1 hc1
 have HB := Aside0.mk (Below.refl w.heap.size w)
 have H : ((palinodelaw15_examples.f).bind fun t361 => (if 0 ≤ (mn (l0.length : Int) 80) then (if (mn (l0.length : Int) 80) ≤ (l0.length : Int) then ((some (l0.take ((mn (l0.length : Int) 80) : Int).toNat : List (S34))).bind fun y362 => ((merge_Fold.f y362 l1 a2).bind fun bt366 => (if bt366.2.isNone = true then ((merge_Fold.f bt366.1 l1 a2).bind fun bt371 => ((merge_Fold.f y362 ([] : List Int) a2).bind fun bt375 => ((palinodelaw15_entries.f k bt366.1 bt371.1).bind fun t379 => (if t361 = true then (if bt371.2.isNone = true then (if bt375.2.isNone = true then (if t379 = true then (some (decide ((bt375.1.length : Int) ≤ (bt366.1.length : Int)))) else (some false)) else (some false)) else (some false)) else (some false))))) else (if t361 = true then (some ((bt366.1.length : Int) == 0)) else (some false))))) else (none)) else (none))) = some r := h
 clear h
 replace H := Option.bind_eq_some_iff.mp H
 obtain ⟨t361, A40, H⟩ := H
 replace H : (if 0 ≤ (mn (l0.length : Int) 80) then (if (mn (l0.length : Int) 80) ≤ (l0.length : Int) then ((some (l0.take ((mn (l0.length : Int) 80) : Int).toNat : List (S34))).bind fun y362 => ((merge_Fold.f y362 l1 a2).bind fun bt366 => (if bt366.2.isNone = true then ((merge_Fold.f bt366.1 l1 a2).bind fun bt371 => ((merge_Fold.f y362 ([] : List Int) a2).bind fun bt375 => ((palinodelaw15_entries.f k bt366.1 bt371.1).bind fun t379 => (if t361 = true then (if bt371.2.isNone = true then (if bt375.2.isNone = true then (if t379 = true then (some (decide ((bt375.1.length : Int) ≤ (bt366.1.length : Int)))) else (some false)) else (some false)) else (some false)) else (some false))))) else (if t361 = true then (some ((bt366.1.length : Int) == 0)) else (some false))))) else (none)) else (none)) = some r := H
 have A4 := Aside0.mk A40
 have HTA4_ : Aside0 (t361 = true) := ⟨HEX_.out _ A40⟩
 clear A40
 obtain ⟨ji5, hji5⟩ : ∃ j_ : Int, (mn (l0.length : Int) 80) = j_ := ⟨_, rfl⟩
 replace H : (if 0 ≤ (ji5) then (if (ji5) ≤ (l0.length : Int) then ((some (l0.take ((ji5) : Int).toNat : List (S34))).bind fun y362 => ((merge_Fold.f y362 l1 a2).bind fun bt366 => (if bt366.2.isNone = true then ((merge_Fold.f bt366.1 l1 a2).bind fun bt371 => ((merge_Fold.f y362 ([] : List Int) a2).bind fun bt375 => ((palinodelaw15_entries.f k bt366.1 bt371.1).bind fun t379 => (if t361 = true then (if bt371.2.isNone = true then (if bt375.2.isNone = true then (if t379 = true then (some (decide ((bt375.1.length : Int) ≤ (bt366.1.length : Int)))) else (some false)) else (some false)) else (some false)) else (some false))))) else (if t361 = true then (some ((bt366.1.length : Int) == 0)) else (some false))))) else (none)) else (none)) = some r := by first | (rw [hji5] at H; exact H) | (simp only [hji5] at H ⊢; exact H)
 (try rw [hji5] at A4)
 (try (have hji5h : ji5 ≤ 80 := by (rw [← hji5]; unfold mn; (repeat' split) <;> omega)))
 (try (have hji5g : ji5 ≤ 64 := by omega))
 (try (have hji5l : 0 ≤ ji5 := by (rw [← hji5]; unfold mn; (repeat' split) <;> omega)))
 (try (have hji5m : 0 ≤ ji5 := by omega))
 have hji5_ : (if 80 < (l0.length : Int) then 80 else (l0.length : Int)) = ji5 := hji5
 by_cases c6 : 0 ≤ (ji5)
 ·
  rw [if_pos c6] at H
  have c6b0 := eq_true c6
  have c6b1 : decide (0 ≤ (ji5)) = true := decide_eq_true c6
  clear c6
  by_cases c7 : (ji5) ≤ (l0.length : Int)
  ·
   rw [if_pos c7] at H
   have c7b0 := eq_true c7
   have c7b1 : decide ((ji5) ≤ (l0.length : Int)) = true := decide_eq_true c7
   clear c7
   obtain ⟨y362, hy362⟩ : ∃ y_ : List (S34), y_ = (l0.take ((ji5) : Int).toNat) := ⟨_, rfl⟩
   replace H : ((merge_Fold.f y362 l1 a2).bind fun bt366 => (if bt366.2.isNone = true then ((merge_Fold.f bt366.1 l1 a2).bind fun bt371 => ((merge_Fold.f y362 ([] : List Int) a2).bind fun bt375 => ((palinodelaw15_entries.f k bt366.1 bt371.1).bind fun t379 => (if t361 = true then (if bt371.2.isNone = true then (if bt375.2.isNone = true then (if t379 = true then (some (decide ((bt375.1.length : Int) ≤ (bt366.1.length : Int)))) else (some false)) else (some false)) else (some false)) else (some false))))) else (if t361 = true then (some ((bt366.1.length : Int) == 0)) else (some false)))) = some r := by first | (rw [hy362]; with_reducible exact H) | (have H2_ := (Option.bind_some _ _).symm.trans H; rw [hy362]; with_reducible exact H2_) | (have H2_ := (Option.bind_some _ _).symm.trans H; with_reducible exact H2_) | with_reducible exact H | (rw [hy362]; exact H) | exact H
   have Ny362 := Aside0.mk hy362
   clear hy362
   replace H := Option.bind_eq_some_iff.mp H
   obtain ⟨⟨t366, t367⟩, A80, H⟩ := H
   replace H : (if t367.isNone = true then ((merge_Fold.f t366 l1 a2).bind fun bt371 => ((merge_Fold.f y362 ([] : List Int) a2).bind fun bt375 => ((palinodelaw15_entries.f k t366 bt371.1).bind fun t379 => (if t361 = true then (if bt371.2.isNone = true then (if bt375.2.isNone = true then (if t379 = true then (some (decide ((bt375.1.length : Int) ≤ (t366.length : Int)))) else (some false)) else (some false)) else (some false)) else (some false))))) else (if t361 = true then (some ((t366.length : Int) == 0)) else (some false))) = some r := H
   have A8 := Aside0.mk A80
   clear A80
   rcases t367 with _ | q370
   ·
    have H1 : ((merge_Fold.f t366 l1 a2).bind fun bt371 => ((merge_Fold.f y362 ([] : List Int) a2).bind fun bt375 => ((palinodelaw15_entries.f k t366 bt371.1).bind fun t379 => (if t361 = true then (if bt371.2.isNone = true then (if bt375.2.isNone = true then (if t379 = true then (some (decide ((bt375.1.length : Int) ≤ (t366.length : Int)))) else (some false)) else (some false)) else (some false)) else (some false))))) = some r := by rw [if_pos (show (none : Option Int).isNone = true by rfl)] at H; exact H
    clear H
    have H := H1
    clear H1
    try simp only [errW_none, errW_some]
    replace H := Option.bind_eq_some_iff.mp H
    obtain ⟨⟨t371, t372⟩, A90, H⟩ := H
    replace H : ((merge_Fold.f y362 ([] : List Int) a2).bind fun bt375 => ((palinodelaw15_entries.f k t366 t371).bind fun t379 => (if t361 = true then (if t372.isNone = true then (if bt375.2.isNone = true then (if t379 = true then (some (decide ((bt375.1.length : Int) ≤ (t366.length : Int)))) else (some false)) else (some false)) else (some false)) else (some false)))) = some r := H
    have A9 := Aside0.mk A90
    clear A90
    replace H := Option.bind_eq_some_iff.mp H
    obtain ⟨⟨t375, t376⟩, A100, H⟩ := H
    replace H : ((palinodelaw15_entries.f k t366 t371).bind fun t379 => (if t361 = true then (if t372.isNone = true then (if t376.isNone = true then (if t379 = true then (some (decide ((t375.length : Int) ≤ (t366.length : Int)))) else (some false)) else (some false)) else (some false)) else (some false))) = some r := H
    have A10 := Aside0.mk A100
    clear A100
    replace H := Option.bind_eq_some_iff.mp H
    obtain ⟨t379, A110, H⟩ := H
    replace H : (if t361 = true then (if t372.isNone = true then (if t376.isNone = true then (if t379 = true then (some (decide ((t375.length : Int) ≤ (t366.length : Int)))) else (some false)) else (some false)) else (some false)) else (some false)) = some r := H
    have A11 := Aside0.mk A110
    clear A110
    by_cases c12 : t361 = true
    ·
     subst c12
     have H1 : (if t372.isNone = true then (if t376.isNone = true then (if t379 = true then (some (decide ((t375.length : Int) ≤ (t366.length : Int)))) else (some false)) else (some false)) else (some false)) = some r := by rw [if_pos rfl] at H; exact H
     clear H
     have H := H1
     clear H1
     rcases t372 with _ | q380
     ·
      have H1 : (if t376.isNone = true then (if t379 = true then (some (decide ((t375.length : Int) ≤ (t366.length : Int)))) else (some false)) else (some false)) = some r := by rw [if_pos (show (none : Option Int).isNone = true by rfl)] at H; exact H
      clear H
      have H := H1
      clear H1
      try simp only [errW_none, errW_some]
      rcases t376 with _ | q381
      ·
       have H1 : (if t379 = true then (some (decide ((t375.length : Int) ≤ (t366.length : Int)))) else (some false)) = some r := by rw [if_pos (show (none : Option Int).isNone = true by rfl)] at H; exact H
       clear H
       have H := H1
       clear H1
       try simp only [errW_none, errW_some]
       by_cases c13 : t379 = true
       ·
        subst c13
        have H1 : (some (decide ((t375.length : Int) ≤ (t366.length : Int)))) = some r := by rw [if_pos rfl] at H; exact H
        clear H
        have H := H1
        clear H1
        obtain rfl := Option.some.inj H
        go_enter Try.func7, Try.ntmps7
        go_wp2_with (first | ((with_reducible refine gate_callee (f := 10) rfl ?_); refine goesL_ (some 15) rfl rfl Try.func10 (by kernel_rfl) rfl #[] rfl (by (try simp only [List.map_toArray, List.map_cons, List.map_nil]); first | done | rfl | (simp only [List.length_drop, List.length_take]; rfl)) ?_; (with_reducible refine (palinodelaw15_examples.calls  true _ A4.out).mono ?_); rintro e w14 ⟨rfl, hb⟩; refine ⟨_, rfl, ?_⟩; have n0_ := Aside0.mk (Yv HB hb); clear HB; have HB := n0_; clear n0_; (try clear hb); (try clear hb2); (try clear hk); (try clear hi); have q15 : ((ji5) : Int) ≤ ((l0.length : Int) : Int) := of_decide_eq_true (by first | (with_reducible assumption) | assumption); obtain ⟨i015, hi015, _, hsz15, _⟩ := info_parts info34; have hroom15 : l0.length ≤ c0 := HC0.out; have hC15 : Kd.C k34 _ A0 l0.length l0 := HR0.out; have hcut15 := cut_to (P := Try.prog) 24 34 .i64 Try.underlying24 hi015 A0 l0.length c0 (ji5) (of_decide_eq_true (by first | (with_reducible assumption) | assumption)) q15 hroom15; have hr15 := Kd.C_take (m := ((ji5) : Int).toNat) hC15 (by omega); have hy15 : y362.length = ((ji5) : Int).toNat := (by rw [Ny362.out, List.length_take]; omega); rw [← Ny362.out] at hr15; rw [← hy15] at hcut15; have HR365 := Aside0.mk hr15; have HC365 := Aside0.mk (show y362.length ≤ c0 from by omega); clear hr15 hC15 hroom15 hi015 hsz15; have KY15 := Aside0.mk hy15; clear hy15; replace q15 := eq_true q15) | ((with_reducible refine gate_callee (f := 15) rfl ?_); refine goesL_ (some 25) rfl rfl Try.func15 (by kernel_rfl) rfl #[.slice A0 y362.length c0, .slice A1 l1.length c1, .bool a2] rfl (by (try simp only [List.map_toArray, List.map_cons, List.map_nil]); first | done | rfl | (simp only [List.length_drop, List.length_take]; rfl)) ?_; (with_reducible refine (merge_Fold.calls _ _ y362 _ _ l1 a2 t366 none _ ?side1 ?side2 ?side3 ?side4 A8.out).mono ?_); (case side1 => repeat (first | exact (Kd.C_below HR365.out HB.out) | (with_reducible refine Kd.C_alloc ?_ _) | (with_reducible refine Kd.C_drewN ?_ _) | (with_reducible refine Kd.C_drew ?_))); (case side2 => exact HC365.out); (case side3 => repeat (first | exact (Kd.C_below HR1.out HB.out) | (with_reducible refine Kd.C_alloc ?_ _) | (with_reducible refine Kd.C_drewN ?_ _) | (with_reducible refine Kd.C_drew ?_))); (case side4 => exact HC1.out); rintro e w16 ⟨v368, rfl, ho0, hb⟩; refine ⟨_, rfl, ?_⟩; have n0_ := Aside0.mk (Kd.R_lower ho0 (below_size (Yr HB))); have n1_ := Aside0.mk (Yv HB hb); clear HB; have HO369 := n0_; have HB := n1_; clear n0_ n1_; (try clear hb); (try clear hb2); (try clear hk); (try clear hi); (try clear ho0); (try simp only [errW_none, errW_some]); obtain ⟨Ao17, co17, eo17⟩ := Kd.R_slice HO369.out; subst eo17) | ((with_reducible refine gate_callee (f := 15) rfl ?_); refine goesL_ (some 40) rfl rfl Try.func15 (by kernel_rfl) rfl #[.slice Ao17 t366.length co17, .slice A1 l1.length c1, .bool a2] rfl (by (try simp only [List.map_toArray, List.map_cons, List.map_nil]); first | done | rfl | (simp only [List.length_drop, List.length_take]; rfl)) ?_; (with_reducible refine (merge_Fold.calls _ _ t366 _ _ l1 a2 t371 none _ ?side1 ?side2 ?side3 ?side4 A9.out).mono ?_); (case side1 => repeat (first | exact (Kd.R_reads' HO369.out).2.2 | (with_reducible refine Kd.C_alloc ?_ _) | (with_reducible refine Kd.C_drewN ?_ _) | (with_reducible refine Kd.C_drew ?_))); (case side2 => exact (Kd.R_reads' HO369.out).2.1); (case side3 => repeat (first | exact (Kd.C_below HR1.out HB.out) | (with_reducible refine Kd.C_alloc ?_ _) | (with_reducible refine Kd.C_drewN ?_ _) | (with_reducible refine Kd.C_drew ?_))); (case side4 => exact HC1.out); rintro e w18 ⟨v373, rfl, ho0, hb⟩; refine ⟨_, rfl, ?_⟩; have n0_ := Aside0.mk (Kd.R_elder' (by (with_reducible repeat (first | apply Kd.R_alloc | apply Kd.R_drewN | apply Kd.R_drew)); exact HO369.out) (Kd.R_base ho0) hb); have n1_ := Aside0.mk (Kd.R_lower (Kd.R_new' ho0 (Kd.R_lt (by (with_reducible repeat (first | apply Kd.R_alloc | apply Kd.R_drewN | apply Kd.R_drew)); exact HO369.out))) (below_size (Yr HB))); have n2_ := Aside0.mk (Yv HB hb); clear HO369; clear HB; have HO369 := n0_; have HO374 := n1_; have HB := n2_; clear n0_ n1_ n2_; (try clear hb); (try clear hb2); (try clear hk); (try clear hi); (try clear ho0); (try simp only [errW_none, errW_some])) | ((with_reducible refine gate_callee (f := 15) rfl ?_); refine goesL_ (some 46) rfl rfl Try.func15 (by kernel_rfl) rfl #[.slice A0 y362.length c0, .slice none 0 0, .bool a2] rfl (by (try simp only [List.map_toArray, List.map_cons, List.map_nil]); first | done | rfl | (simp only [List.length_drop, List.length_take]; rfl)) ?_; (refine (merge_Fold.calls _ _ y362 _ _ ([] : List Int) a2 t375 none _ ?side1 ?side2 ?side3 ?side4 A10.out).mono ?_); (case side1 => repeat (first | exact (Kd.C_below HR365.out HB.out) | (with_reducible refine Kd.C_alloc ?_ _) | (with_reducible refine Kd.C_drewN ?_ _) | (with_reducible refine Kd.C_drew ?_))); (case side2 => exact HC365.out); (case side3 => exact Kd.C_nil _ _); (case side4 => exact Nat.le_refl _); rintro e w19 ⟨v377, rfl, ho0, hb⟩; refine ⟨_, rfl, ?_⟩; have n0_ := Aside0.mk (Kd.R_elder' (by (with_reducible repeat (first | apply Kd.R_alloc | apply Kd.R_drewN | apply Kd.R_drew)); exact HO369.out) (Kd.R_base ho0) hb); have n1_ := Aside0.mk (Kd.R_elder' (by (with_reducible repeat (first | apply Kd.R_alloc | apply Kd.R_drewN | apply Kd.R_drew)); exact HO374.out) (Kd.R_base ho0) hb); have n2_ := Aside0.mk (Kd.R_lower (Kd.R_new' (Kd.R_new' ho0 (Kd.R_lt (by (with_reducible repeat (first | apply Kd.R_alloc | apply Kd.R_drewN | apply Kd.R_drew)); exact HO369.out))) (Kd.R_lt (by (with_reducible repeat (first | apply Kd.R_alloc | apply Kd.R_drewN | apply Kd.R_drew)); exact HO374.out))) (below_size (Yr HB))); have n3_ := Aside0.mk (Yv HB hb); clear HO369; clear HO374; clear HB; have HO369 := n0_; have HO374 := n1_; have HO378 := n2_; have HB := n3_; clear n0_ n1_ n2_ n3_; (try clear hb); (try clear hb2); (try clear hk); (try clear hi); (try clear ho0); (try simp only [errW_none, errW_some]); obtain ⟨Ao20, co20, eo20⟩ := Kd.R_slice HO374.out; subst eo20) | ((with_reducible refine gate_callee (f := 13) rfl ?_); refine goesL_ (some 51) rfl rfl Try.func13 (by kernel_rfl) rfl #[.slice Ao17 t366.length co17, .slice Ao20 t371.length co20] rfl (by (try simp only [List.map_toArray, List.map_cons, List.map_nil]); first | done | rfl | (simp only [List.length_drop, List.length_take]; rfl)) ?_; (with_reducible refine (palinodelaw15_entries.calls k _ _ t366 _ _ t371 true _ ?side1 ?side2 ?side3 ?side4 A11.out).mono ?_); (case side1 => repeat (first | exact (Kd.R_reads' HO369.out).2.2 | (with_reducible refine Kd.C_alloc ?_ _) | (with_reducible refine Kd.C_drewN ?_ _) | (with_reducible refine Kd.C_drew ?_))); (case side2 => exact (Kd.R_reads' HO369.out).2.1); (case side3 => repeat (first | exact (Kd.R_reads' HO374.out).2.2 | (with_reducible refine Kd.C_alloc ?_ _) | (with_reducible refine Kd.C_drewN ?_ _) | (with_reducible refine Kd.C_drew ?_))); (case side4 => exact (Kd.R_reads' HO374.out).2.1); rintro e w' ⟨rfl, ⟨nd, rfl⟩⟩; refine ⟨_, rfl, ?_⟩; obtain ⟨Ao21, co21, eo21⟩ := Kd.R_slice HO378.out; subst eo21))
        go_ret
        exact ⟨by first | rfl | (simp [errW_none, errW_some] <;> rfl) | (simp only [← hji5]; first | rfl | (simp [errW_none, errW_some] <;> rfl)) | (simp [*, errW_none, errW_some] <;> rfl), Yr HB⟩
       ·
        replace c13 := Bool.eq_false_iff.mpr c13
        subst c13
        have H1 : (some false) = some r := by rw [if_neg (show ¬ (false = true) by decide)] at H; exact H
        clear H
        have H := H1
        clear H1
        exact absurd ((Option.some.inj H).trans HRT_.out) (by decide)
      ·
       have H1 : (some false) = some r := by rw [if_neg (show ¬ (some q381).isNone = true by simp)] at H; exact H
       clear H
       have H := H1
       clear H1
       try simp only [errW_none, errW_some]
       exact absurd ((Option.some.inj H).trans HRT_.out) (by decide)
     ·
      have H1 : (some false) = some r := by rw [if_neg (show ¬ (some q380).isNone = true by simp)] at H; exact H
      clear H
      have H := H1
      clear H1
      try simp only [errW_none, errW_some]
      exact absurd ((Option.some.inj H).trans HRT_.out) (by decide)
    ·
     replace c12 := Bool.eq_false_iff.mpr c12
     subst c12
     have H1 : (some false) = some r := by rw [if_neg (show ¬ (false = true) by decide)] at H; exact H
     clear H
     have H := H1
     clear H1
     exact absurd ((Option.some.inj H).trans HRT_.out) (by decide)
   ·
    have H1 : (if t361 = true then (some ((t366.length : Int) == 0)) else (some false)) = some r := by rw [if_neg (show ¬ (some q370).isNone = true by simp)] at H; exact H
    clear H
    have H := H1
    clear H1
    try simp only [errW_none, errW_some]
    by_cases c22 : t361 = true
    ·
     subst c22
     have H1 : (some ((t366.length : Int) == 0)) = some r := by rw [if_pos rfl] at H; exact H
     clear H
     have H := H1
     clear H1
     obtain rfl := Option.some.inj H
     go_enter Try.func7, Try.ntmps7
     go_wp2_with (first | ((with_reducible refine gate_callee (f := 10) rfl ?_); refine goesL_ (some 15) rfl rfl Try.func10 (by kernel_rfl) rfl #[] rfl (by (try simp only [List.map_toArray, List.map_cons, List.map_nil]); first | done | rfl | (simp only [List.length_drop, List.length_take]; rfl)) ?_; (with_reducible refine (palinodelaw15_examples.calls  true _ A4.out).mono ?_); rintro e w23 ⟨rfl, hb⟩; refine ⟨_, rfl, ?_⟩; have n0_ := Aside0.mk (Yv HB hb); clear HB; have HB := n0_; clear n0_; (try clear hb); (try clear hb2); (try clear hk); (try clear hi); have q24 : ((ji5) : Int) ≤ ((l0.length : Int) : Int) := of_decide_eq_true (by first | (with_reducible assumption) | assumption); obtain ⟨i024, hi024, _, hsz24, _⟩ := info_parts info34; have hroom24 : l0.length ≤ c0 := HC0.out; have hC24 : Kd.C k34 _ A0 l0.length l0 := HR0.out; have hcut24 := cut_to (P := Try.prog) 24 34 .i64 Try.underlying24 hi024 A0 l0.length c0 (ji5) (of_decide_eq_true (by first | (with_reducible assumption) | assumption)) q24 hroom24; have hr24 := Kd.C_take (m := ((ji5) : Int).toNat) hC24 (by omega); have hy24 : y362.length = ((ji5) : Int).toNat := (by rw [Ny362.out, List.length_take]; omega); rw [← Ny362.out] at hr24; rw [← hy24] at hcut24; have HR365 := Aside0.mk hr24; have HC365 := Aside0.mk (show y362.length ≤ c0 from by omega); clear hr24 hC24 hroom24 hi024 hsz24; have KY24 := Aside0.mk hy24; clear hy24; replace q24 := eq_true q24) | ((with_reducible refine gate_callee (f := 15) rfl ?_); refine goesL_ (some 25) rfl rfl Try.func15 (by kernel_rfl) rfl #[.slice A0 y362.length c0, .slice A1 l1.length c1, .bool a2] rfl (by (try simp only [List.map_toArray, List.map_cons, List.map_nil]); first | done | rfl | (simp only [List.length_drop, List.length_take]; rfl)) ?_; (with_reducible refine (merge_Fold.calls _ _ y362 _ _ l1 a2 t366 (some q370) _ ?side1 ?side2 ?side3 ?side4 A8.out).mono ?_); (case side1 => repeat (first | exact (Kd.C_below HR365.out HB.out) | (with_reducible refine Kd.C_alloc ?_ _) | (with_reducible refine Kd.C_drewN ?_ _) | (with_reducible refine Kd.C_drew ?_))); (case side2 => exact HC365.out); (case side3 => repeat (first | exact (Kd.C_below HR1.out HB.out) | (with_reducible refine Kd.C_alloc ?_ _) | (with_reducible refine Kd.C_drewN ?_ _) | (with_reducible refine Kd.C_drew ?_))); (case side4 => exact HC1.out); rintro e w25 ⟨v368, rfl, ho0, hb⟩; refine ⟨_, rfl, ?_⟩; have n0_ := Aside0.mk (Kd.R_lower ho0 (below_size (Yr HB))); have n1_ := Aside0.mk (Yv HB hb); clear HB; have HO369 := n0_; have HB := n1_; clear n0_ n1_; (try clear hb); (try clear hb2); (try clear hk); (try clear hi); (try clear ho0); (try simp only [errW_none, errW_some]); obtain ⟨Ao26, co26, eo26⟩ := Kd.R_slice HO369.out; subst eo26))
     go_ret
     exact ⟨by first | rfl | (simp [errW_none, errW_some] <;> rfl) | (simp only [← hji5]; first | rfl | (simp [errW_none, errW_some] <;> rfl)) | (simp [*, errW_none, errW_some] <;> rfl), Yr HB⟩
    ·
     replace c22 := Bool.eq_false_iff.mpr c22
     subst c22
     have H1 : (some false) = some r := by rw [if_neg (show ¬ (false = true) by decide)] at H; exact H
     clear H
     have H := H1
     clear H1
     exact absurd ((Option.some.inj H).trans HRT_.out) (by decide)
  ·
   rw [if_neg c7] at H
   exact absurd H (by simp)
 ·
  rw [if_neg c6] at H
  exact absurd H (by simp)

/-- THE ONE PURE STATEMENT of palinodelaw15_MergeAgain. -/
def palinodelaw15_MergeAgain.Pure : Prop := (∀ r_, palinodelaw15_examples.f = some r_ → r_ = true) ∧ ∀ (l0 : List (S34)) (l1 : List Int) (a2 : Bool), (l0.length ≤ maxLen ∧ l0.length * 48 ≤ 140737488351232 ∧ ∀ x_ ∈ l0, V34 x_) → (l1.length ≤ maxLen ∧ l1.length * 8 ≤ 140737488351232 ∧ ∀ x_ ∈ l1, (Lit.int .i64 x_).wf = true) → ∃ k, palinodelaw15_MergeAgain.f k l0 l1 a2 = some true
theorem palinodelaw15_MergeAgain.walk (P : palinodelaw15_MergeAgain.Pure) (A0 : Option Addr) (c0 : Nat) (l0 : List (S34)) (A1 : Option Addr) (c1 : Nat) (l1 : List Int) (a2 : Bool) (w : World) (hr0 : Kd.C k34 w A0 l0.length l0) (hc0 : l0.length ≤ c0) (v0 : (l0.length ≤ maxLen ∧ l0.length * 48 ≤ 140737488351232 ∧ ∀ x_ ∈ l0, V34 x_)) (hr1 : Kd.C (Kd.int .i64) w A1 l1.length l1) (hc1 : l1.length ≤ c1) (v1 : (l1.length ≤ maxLen ∧ l1.length * 8 ≤ 140737488351232 ∧ ∀ x_ ∈ l1, (Lit.int .i64 x_).wf = true)) :
  Calls Try.prog 7 #[.slice A0 l0.length c0, .slice A1 l1.length c1, .bool a2] w fun e w' => e = .returned (.bool true) ∧ Below w.heap.size w w' := by
 obtain ⟨k, h⟩ := P.2 l0 l1 a2 v0 v1
 refine (palinodelaw15_MergeAgain.calls k A0 c0 l0 A1 c1 l1 a2 true w hr0 hc0 hr1 hc1 h ⟨P.1⟩).mono ?_
 rintro e w' ⟨rfl, hd⟩
 exact ⟨rfl, hd⟩

end Go.Proofs.Yteljlfodjbgejaa.Print
