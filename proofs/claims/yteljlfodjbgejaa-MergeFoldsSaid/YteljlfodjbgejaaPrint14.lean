-- Printed out of the translation by a program of this session's own. Not trusted: Lean checks it.
import Derived.Test.YteljlfodjbgejaaPrint0
import Derived.Test.YteljlfodjbgejaaPrint4
import Derived.Test.YteljlfodjbgejaaPrint6
import Derived.Test.YteljlfodjbgejaaPrint9
import Derived.Test.YteljlfodjbgejaaPrint12
import Derived.Test.YteljlfodjbgejaaPrint13
import Derived.Test.YteljlfodjbgejaaHMergeFold
import Derived.Test.YteljlfodjbgejaaHMergeSee
namespace Go.Proofs.Yteljlfodjbgejaa.Print
open Go.RowKit Go.Proofs.YteljlfodjbgejaaW.PrintWords Go.Proofs.YteljlfodjbgejaaW.PrintLast Go.Proofs.YteljlfodjbgejaaW.PrintMore Go.Proofs.YteljlfodjbgejaaX
attribute [local go_sem] max2_int min2_int max_two min_two max_three min_three max_four min_four   -- for this text's walks alone
set_option linter.unusedVariables false
set_option linter.unusedSimpArgs false

/-! ### palinodelaw15_MergeFolds: function 4 -/
def palinodelaw15_MergeFolds.f (k : Nat) (l0 : List (S34)) (l1 : List Int) (a2 : Bool) (a3 : Int) : Option (Bool) := (palinodelaw15_examples.f).bind fun t301 => (if 0 ≤ (mn (l0.length : Int) 100) then (if (mn (l0.length : Int) 100) ≤ (l0.length : Int) then ((some (l0.take ((mn (l0.length : Int) 100) : Int).toNat : List (S34))).bind fun y302 => ((merge_Fold.f y302 l1 a2).bind fun bt306 => ((palinoderef15_Fold.f k y302 l1 a2).bind fun bt310 => ((merge_See.f y302 a3).bind fun bt314 => ((palinoderef15_See.f k y302 a3).bind fun bt318 => ((palinodelaw15_entries.f k bt306.1 bt310.1).bind fun t322 => ((palinodelaw15_entries.f k bt314.1 bt318.1).bind fun t323 => (if t301 = true then (if t322 = true then (if t323 = true then (if bt310.2 = true then (if bt306.2.isNone = true then (if bt318.2 = true then (if bt314.2.isNone = true then (some true) else (some false)) else ((palinodelaw15_is.f bt314.2 1).bind fun t326 => (some t326))) else (some false)) else ((palinodelaw15_is.f bt306.2 1).bind fun t327 => (if t327 = true then (if bt318.2 = true then (if bt314.2.isNone = true then (some true) else (some false)) else ((palinodelaw15_is.f bt314.2 1).bind fun t329 => (some t329))) else (some false)))) else (some false)) else (some false)) else (some false))))))))) else (none)) else (none))
theorem palinodelaw15_MergeFolds.mono : ∀ a0 a1 a2 a3 k, LeO (palinodelaw15_MergeFolds.f k a0 a1 a2 a3) (palinodelaw15_MergeFolds.f (k + 1) a0 a1 a2 a3) := by
 intro a0 a1 a2 a3 k
 unfold palinodelaw15_MergeFolds.f
 repeat' first
   | (with_reducible exact palinodelaw15_entries.mono _ _ _)
   | (with_reducible exact palinoderef15_Fold.mono _ _ _ _)
   | (with_reducible exact palinoderef15_See.mono _ _ _)
   | (with_reducible exact LeO.refl _)
   | (with_reducible exact LeO.none _)
   | (with_reducible refine LeO.ite ?_ ?_)
   | (with_reducible refine LeO.bind ?_ (fun _ => ?_))
   | exact palinodelaw15_entries.mono _ _ _
   | exact palinoderef15_Fold.mono _ _ _ _
   | exact palinoderef15_See.mono _ _ _
   | exact LeO.none _
   | refine LeO.ite ?_ ?_
   | refine LeO.bind ?_ (fun _ => ?_)
set_option maxHeartbeats 8000000 in
set_option maxRecDepth 100000 in
theorem palinodelaw15_MergeFolds.calls (k : Nat) (A0 : Option Addr) (c0 : Nat) (l0 : List (S34)) (A1 : Option Addr) (c1 : Nat) (l1 : List Int) (a2 : Bool) (a3 : Int) (r : Bool) (w : World) (hr0 : Kd.C k34 w A0 l0.length l0) (hc0 : l0.length ≤ c0) (hr1 : Kd.C (Kd.int .i64) w A1 l1.length l1) (hc1 : l1.length ≤ c1) (h : palinodelaw15_MergeFolds.f k l0 l1 a2 a3 = some r) (HEX_ : Aside0 (∀ r_, palinodelaw15_examples.f = some r_ → r_ = true)) (HRT_ : Aside0 (r = true) := by first | exact ⟨rfl⟩ | assumption) :
  Calls Try.prog 4 #[.slice A0 l0.length c0, .slice A1 l1.length c1, .bool a2, .int .i64 a3] w fun e w' => e = .returned (.bool r) ∧ Below w.heap.size w w' := by
 have hu28 := Try.underlying28
 have hu50 := Try.underlying50
 have HR0 := Aside0.mk hr0
 have HC0 := Aside0.mk hc0
 clear hr0 hc0
 have HR1 := Aside0.mk hr1
 have HC1 := Aside0.mk hc1
 clear hr1 hc1
 have HB := Aside0.mk (Below.refl w.heap.size w)
 have H : ((palinodelaw15_examples.f).bind fun t301 => (if 0 ≤ (mn (l0.length : Int) 100) then (if (mn (l0.length : Int) 100) ≤ (l0.length : Int) then ((some (l0.take ((mn (l0.length : Int) 100) : Int).toNat : List (S34))).bind fun y302 => ((merge_Fold.f y302 l1 a2).bind fun bt306 => ((palinoderef15_Fold.f k y302 l1 a2).bind fun bt310 => ((merge_See.f y302 a3).bind fun bt314 => ((palinoderef15_See.f k y302 a3).bind fun bt318 => ((palinodelaw15_entries.f k bt306.1 bt310.1).bind fun t322 => ((palinodelaw15_entries.f k bt314.1 bt318.1).bind fun t323 => (if t301 = true then (if t322 = true then (if t323 = true then (if bt310.2 = true then (if bt306.2.isNone = true then (if bt318.2 = true then (if bt314.2.isNone = true then (some true) else (some false)) else ((palinodelaw15_is.f bt314.2 1).bind fun t326 => (some t326))) else (some false)) else ((palinodelaw15_is.f bt306.2 1).bind fun t327 => (if t327 = true then (if bt318.2 = true then (if bt314.2.isNone = true then (some true) else (some false)) else ((palinodelaw15_is.f bt314.2 1).bind fun t329 => (some t329))) else (some false)))) else (some false)) else (some false)) else (some false))))))))) else (none)) else (none))) = some r := h
 clear h
 replace H := Option.bind_eq_some_iff.mp H
 obtain ⟨t301, A50, H⟩ := H
 replace H : (if 0 ≤ (mn (l0.length : Int) 100) then (if (mn (l0.length : Int) 100) ≤ (l0.length : Int) then ((some (l0.take ((mn (l0.length : Int) 100) : Int).toNat : List (S34))).bind fun y302 => ((merge_Fold.f y302 l1 a2).bind fun bt306 => ((palinoderef15_Fold.f k y302 l1 a2).bind fun bt310 => ((merge_See.f y302 a3).bind fun bt314 => ((palinoderef15_See.f k y302 a3).bind fun bt318 => ((palinodelaw15_entries.f k bt306.1 bt310.1).bind fun t322 => ((palinodelaw15_entries.f k bt314.1 bt318.1).bind fun t323 => (if t301 = true then (if t322 = true then (if t323 = true then (if bt310.2 = true then (if bt306.2.isNone = true then (if bt318.2 = true then (if bt314.2.isNone = true then (some true) else (some false)) else ((palinodelaw15_is.f bt314.2 1).bind fun t326 => (some t326))) else (some false)) else ((palinodelaw15_is.f bt306.2 1).bind fun t327 => (if t327 = true then (if bt318.2 = true then (if bt314.2.isNone = true then (some true) else (some false)) else ((palinodelaw15_is.f bt314.2 1).bind fun t329 => (some t329))) else (some false)))) else (some false)) else (some false)) else (some false))))))))) else (none)) else (none)) = some r := H
 have A5 := Aside0.mk A50
 have HTA5_ : Aside0 (t301 = true) := ⟨HEX_.out _ A50⟩
 clear A50
 obtain ⟨ji6, hji6⟩ : ∃ j_ : Int, (mn (l0.length : Int) 100) = j_ := ⟨_, rfl⟩
 replace H : (if 0 ≤ (ji6) then (if (ji6) ≤ (l0.length : Int) then ((some (l0.take ((ji6) : Int).toNat : List (S34))).bind fun y302 => ((merge_Fold.f y302 l1 a2).bind fun bt306 => ((palinoderef15_Fold.f k y302 l1 a2).bind fun bt310 => ((merge_See.f y302 a3).bind fun bt314 => ((palinoderef15_See.f k y302 a3).bind fun bt318 => ((palinodelaw15_entries.f k bt306.1 bt310.1).bind fun t322 => ((palinodelaw15_entries.f k bt314.1 bt318.1).bind fun t323 => (if t301 = true then (if t322 = true then (if t323 = true then (if bt310.2 = true then (if bt306.2.isNone = true then (if bt318.2 = true then (if bt314.2.isNone = true then (some true) else (some false)) else ((palinodelaw15_is.f bt314.2 1).bind fun t326 => (some t326))) else (some false)) else ((palinodelaw15_is.f bt306.2 1).bind fun t327 => (if t327 = true then (if bt318.2 = true then (if bt314.2.isNone = true then (some true) else (some false)) else ((palinodelaw15_is.f bt314.2 1).bind fun t329 => (some t329))) else (some false)))) else (some false)) else (some false)) else (some false))))))))) else (none)) else (none)) = some r := by first | (rw [hji6] at H; exact H) | (simp only [hji6] at H ⊢; exact H)
 (try rw [hji6] at A5)
 (try (have hji6h : ji6 ≤ 100 := by (rw [← hji6]; unfold mn; (repeat' split) <;> omega)))
 (try (have hji6g : ji6 ≤ 64 := by omega))
 (try (have hji6l : 0 ≤ ji6 := by (rw [← hji6]; unfold mn; (repeat' split) <;> omega)))
 (try (have hji6m : 0 ≤ ji6 := by omega))
 have hji6_ : (if 100 < (l0.length : Int) then 100 else (l0.length : Int)) = ji6 := hji6
 by_cases c7 : 0 ≤ (ji6)
 ·
  rw [if_pos c7] at H
  have c7b0 := eq_true c7
  have c7b1 : decide (0 ≤ (ji6)) = true := decide_eq_true c7
  clear c7
  by_cases c8 : (ji6) ≤ (l0.length : Int)
  ·
   rw [if_pos c8] at H
   have c8b0 := eq_true c8
   have c8b1 : decide ((ji6) ≤ (l0.length : Int)) = true := decide_eq_true c8
   clear c8
   obtain ⟨y302, hy302⟩ : ∃ y_ : List (S34), y_ = (l0.take ((ji6) : Int).toNat) := ⟨_, rfl⟩
   replace H : ((merge_Fold.f y302 l1 a2).bind fun bt306 => ((palinoderef15_Fold.f k y302 l1 a2).bind fun bt310 => ((merge_See.f y302 a3).bind fun bt314 => ((palinoderef15_See.f k y302 a3).bind fun bt318 => ((palinodelaw15_entries.f k bt306.1 bt310.1).bind fun t322 => ((palinodelaw15_entries.f k bt314.1 bt318.1).bind fun t323 => (if t301 = true then (if t322 = true then (if t323 = true then (if bt310.2 = true then (if bt306.2.isNone = true then (if bt318.2 = true then (if bt314.2.isNone = true then (some true) else (some false)) else ((palinodelaw15_is.f bt314.2 1).bind fun t326 => (some t326))) else (some false)) else ((palinodelaw15_is.f bt306.2 1).bind fun t327 => (if t327 = true then (if bt318.2 = true then (if bt314.2.isNone = true then (some true) else (some false)) else ((palinodelaw15_is.f bt314.2 1).bind fun t329 => (some t329))) else (some false)))) else (some false)) else (some false)) else (some false)))))))) = some r := by first | (rw [hy302]; with_reducible exact H) | (have H2_ := (Option.bind_some _ _).symm.trans H; rw [hy302]; with_reducible exact H2_) | (have H2_ := (Option.bind_some _ _).symm.trans H; with_reducible exact H2_) | with_reducible exact H | (rw [hy302]; exact H) | exact H
   have Ny302 := Aside0.mk hy302
   clear hy302
   replace H := Option.bind_eq_some_iff.mp H
   obtain ⟨⟨t306, t307⟩, A90, H⟩ := H
   replace H : ((palinoderef15_Fold.f k y302 l1 a2).bind fun bt310 => ((merge_See.f y302 a3).bind fun bt314 => ((palinoderef15_See.f k y302 a3).bind fun bt318 => ((palinodelaw15_entries.f k t306 bt310.1).bind fun t322 => ((palinodelaw15_entries.f k bt314.1 bt318.1).bind fun t323 => (if t301 = true then (if t322 = true then (if t323 = true then (if bt310.2 = true then (if t307.isNone = true then (if bt318.2 = true then (if bt314.2.isNone = true then (some true) else (some false)) else ((palinodelaw15_is.f bt314.2 1).bind fun t326 => (some t326))) else (some false)) else ((palinodelaw15_is.f t307 1).bind fun t327 => (if t327 = true then (if bt318.2 = true then (if bt314.2.isNone = true then (some true) else (some false)) else ((palinodelaw15_is.f bt314.2 1).bind fun t329 => (some t329))) else (some false)))) else (some false)) else (some false)) else (some false))))))) = some r := H
   have A9 := Aside0.mk A90
   clear A90
   replace H := Option.bind_eq_some_iff.mp H
   obtain ⟨⟨t310, t311⟩, A100, H⟩ := H
   replace H : ((merge_See.f y302 a3).bind fun bt314 => ((palinoderef15_See.f k y302 a3).bind fun bt318 => ((palinodelaw15_entries.f k t306 t310).bind fun t322 => ((palinodelaw15_entries.f k bt314.1 bt318.1).bind fun t323 => (if t301 = true then (if t322 = true then (if t323 = true then (if t311 = true then (if t307.isNone = true then (if bt318.2 = true then (if bt314.2.isNone = true then (some true) else (some false)) else ((palinodelaw15_is.f bt314.2 1).bind fun t326 => (some t326))) else (some false)) else ((palinodelaw15_is.f t307 1).bind fun t327 => (if t327 = true then (if bt318.2 = true then (if bt314.2.isNone = true then (some true) else (some false)) else ((palinodelaw15_is.f bt314.2 1).bind fun t329 => (some t329))) else (some false)))) else (some false)) else (some false)) else (some false)))))) = some r := H
   have A10 := Aside0.mk A100
   clear A100
   replace H := Option.bind_eq_some_iff.mp H
   obtain ⟨⟨t314, t315⟩, A110, H⟩ := H
   replace H : ((palinoderef15_See.f k y302 a3).bind fun bt318 => ((palinodelaw15_entries.f k t306 t310).bind fun t322 => ((palinodelaw15_entries.f k t314 bt318.1).bind fun t323 => (if t301 = true then (if t322 = true then (if t323 = true then (if t311 = true then (if t307.isNone = true then (if bt318.2 = true then (if t315.isNone = true then (some true) else (some false)) else ((palinodelaw15_is.f t315 1).bind fun t326 => (some t326))) else (some false)) else ((palinodelaw15_is.f t307 1).bind fun t327 => (if t327 = true then (if bt318.2 = true then (if t315.isNone = true then (some true) else (some false)) else ((palinodelaw15_is.f t315 1).bind fun t329 => (some t329))) else (some false)))) else (some false)) else (some false)) else (some false))))) = some r := H
   have A11 := Aside0.mk A110
   clear A110
   replace H := Option.bind_eq_some_iff.mp H
   obtain ⟨⟨t318, t319⟩, A120, H⟩ := H
   replace H : ((palinodelaw15_entries.f k t306 t310).bind fun t322 => ((palinodelaw15_entries.f k t314 t318).bind fun t323 => (if t301 = true then (if t322 = true then (if t323 = true then (if t311 = true then (if t307.isNone = true then (if t319 = true then (if t315.isNone = true then (some true) else (some false)) else ((palinodelaw15_is.f t315 1).bind fun t326 => (some t326))) else (some false)) else ((palinodelaw15_is.f t307 1).bind fun t327 => (if t327 = true then (if t319 = true then (if t315.isNone = true then (some true) else (some false)) else ((palinodelaw15_is.f t315 1).bind fun t329 => (some t329))) else (some false)))) else (some false)) else (some false)) else (some false)))) = some r := H
   have A12 := Aside0.mk A120
   clear A120
   replace H := Option.bind_eq_some_iff.mp H
   obtain ⟨t322, A130, H⟩ := H
   replace H : ((palinodelaw15_entries.f k t314 t318).bind fun t323 => (if t301 = true then (if t322 = true then (if t323 = true then (if t311 = true then (if t307.isNone = true then (if t319 = true then (if t315.isNone = true then (some true) else (some false)) else ((palinodelaw15_is.f t315 1).bind fun t326 => (some t326))) else (some false)) else ((palinodelaw15_is.f t307 1).bind fun t327 => (if t327 = true then (if t319 = true then (if t315.isNone = true then (some true) else (some false)) else ((palinodelaw15_is.f t315 1).bind fun t329 => (some t329))) else (some false)))) else (some false)) else (some false)) else (some false))) = some r := H
   have A13 := Aside0.mk A130
   clear A130
   replace H := Option.bind_eq_some_iff.mp H
   obtain ⟨t323, A140, H⟩ := H
   replace H : (if t301 = true then (if t322 = true then (if t323 = true then (if t311 = true then (if t307.isNone = true then (if t319 = true then (if t315.isNone = true then (some true) else (some false)) else ((palinodelaw15_is.f t315 1).bind fun t326 => (some t326))) else (some false)) else ((palinodelaw15_is.f t307 1).bind fun t327 => (if t327 = true then (if t319 = true then (if t315.isNone = true then (some true) else (some false)) else ((palinodelaw15_is.f t315 1).bind fun t329 => (some t329))) else (some false)))) else (some false)) else (some false)) else (some false)) = some r := H
   have A14 := Aside0.mk A140
   clear A140
   by_cases c15 : t301 = true
   ·
    subst c15
    have H1 : (if t322 = true then (if t323 = true then (if t311 = true then (if t307.isNone = true then (if t319 = true then (if t315.isNone = true then (some true) else (some false)) else ((palinodelaw15_is.f t315 1).bind fun t326 => (some t326))) else (some false)) else ((palinodelaw15_is.f t307 1).bind fun t327 => (if t327 = true then (if t319 = true then (if t315.isNone = true then (some true) else (some false)) else ((palinodelaw15_is.f t315 1).bind fun t329 => (some t329))) else (some false)))) else (some false)) else (some false)) = some r := by rw [if_pos rfl] at H; exact H
    clear H
    have H := H1
    clear H1
    by_cases c16 : t322 = true
    ·
     subst c16
     have H1 : (if t323 = true then (if t311 = true then (if t307.isNone = true then (if t319 = true then (if t315.isNone = true then (some true) else (some false)) else ((palinodelaw15_is.f t315 1).bind fun t326 => (some t326))) else (some false)) else ((palinodelaw15_is.f t307 1).bind fun t327 => (if t327 = true then (if t319 = true then (if t315.isNone = true then (some true) else (some false)) else ((palinodelaw15_is.f t315 1).bind fun t329 => (some t329))) else (some false)))) else (some false)) = some r := by rw [if_pos rfl] at H; exact H
     clear H
     have H := H1
     clear H1
     by_cases c17 : t323 = true
     ·
      subst c17
      have H1 : (if t311 = true then (if t307.isNone = true then (if t319 = true then (if t315.isNone = true then (some true) else (some false)) else ((palinodelaw15_is.f t315 1).bind fun t326 => (some t326))) else (some false)) else ((palinodelaw15_is.f t307 1).bind fun t327 => (if t327 = true then (if t319 = true then (if t315.isNone = true then (some true) else (some false)) else ((palinodelaw15_is.f t315 1).bind fun t329 => (some t329))) else (some false)))) = some r := by rw [if_pos rfl] at H; exact H
      clear H
      have H := H1
      clear H1
      by_cases c18 : t311 = true
      ·
       subst c18
       have H1 : (if t307.isNone = true then (if t319 = true then (if t315.isNone = true then (some true) else (some false)) else ((palinodelaw15_is.f t315 1).bind fun t326 => (some t326))) else (some false)) = some r := by rw [if_pos rfl] at H; exact H
       clear H
       have H := H1
       clear H1
       rcases t307 with _ | q324
       ·
        have H1 : (if t319 = true then (if t315.isNone = true then (some true) else (some false)) else ((palinodelaw15_is.f t315 1).bind fun t326 => (some t326))) = some r := by rw [if_pos (show (none : Option Int).isNone = true by rfl)] at H; exact H
        clear H
        have H := H1
        clear H1
        try simp only [errW_none, errW_some]
        by_cases c19 : t319 = true
        ·
         subst c19
         have H1 : (if t315.isNone = true then (some true) else (some false)) = some r := by rw [if_pos rfl] at H; exact H
         clear H
         have H := H1
         clear H1
         rcases t315 with _ | q325
         ·
          have H1 : (some true) = some r := by rw [if_pos (show (none : Option Int).isNone = true by rfl)] at H; exact H
          clear H
          have H := H1
          clear H1
          try simp only [errW_none, errW_some]
          obtain rfl := Option.some.inj H
          go_enter Try.func4, Try.ntmps4
          go_wp2_with (first | ((with_reducible refine gate_callee (f := 10) rfl ?_); refine goesL_ (some 20) rfl rfl Try.func10 (by kernel_rfl) rfl #[] rfl (by (try simp only [List.map_toArray, List.map_cons, List.map_nil]); first | done | rfl | (simp only [List.length_drop, List.length_take]; rfl)) ?_; (with_reducible refine (palinodelaw15_examples.calls  true _ A5.out).mono ?_); rintro e w20 ⟨rfl, hb⟩; refine ⟨_, rfl, ?_⟩; have n0_ := Aside0.mk (Yv HB hb); clear HB; have HB := n0_; clear n0_; (try clear hb); (try clear hb2); (try clear hk); (try clear hi); have q21 : ((ji6) : Int) ≤ ((l0.length : Int) : Int) := of_decide_eq_true (by first | (with_reducible assumption) | assumption); obtain ⟨i021, hi021, _, hsz21, _⟩ := info_parts info34; have hroom21 : l0.length ≤ c0 := HC0.out; have hC21 : Kd.C k34 _ A0 l0.length l0 := HR0.out; have hcut21 := cut_to (P := Try.prog) 24 34 .i64 Try.underlying24 hi021 A0 l0.length c0 (ji6) (of_decide_eq_true (by first | (with_reducible assumption) | assumption)) q21 hroom21; have hr21 := Kd.C_take (m := ((ji6) : Int).toNat) hC21 (by omega); have hy21 : y302.length = ((ji6) : Int).toNat := (by rw [Ny302.out, List.length_take]; omega); rw [← Ny302.out] at hr21; rw [← hy21] at hcut21; have HR305 := Aside0.mk hr21; have HC305 := Aside0.mk (show y302.length ≤ c0 from by omega); clear hr21 hC21 hroom21 hi021 hsz21; have KY21 := Aside0.mk hy21; clear hy21; replace q21 := eq_true q21) | ((with_reducible refine gate_callee (f := 15) rfl ?_); refine goesL_ (some 30) rfl rfl Try.func15 (by kernel_rfl) rfl #[.slice A0 y302.length c0, .slice A1 l1.length c1, .bool a2] rfl (by (try simp only [List.map_toArray, List.map_cons, List.map_nil]); first | done | rfl | (simp only [List.length_drop, List.length_take]; rfl)) ?_; (with_reducible refine (merge_Fold.calls _ _ y302 _ _ l1 a2 t306 none _ ?side1 ?side2 ?side3 ?side4 A9.out).mono ?_); (case side1 => repeat (first | exact (Kd.C_below HR305.out HB.out) | (with_reducible refine Kd.C_alloc ?_ _) | (with_reducible refine Kd.C_drewN ?_ _) | (with_reducible refine Kd.C_drew ?_))); (case side2 => exact HC305.out); (case side3 => repeat (first | exact (Kd.C_below HR1.out HB.out) | (with_reducible refine Kd.C_alloc ?_ _) | (with_reducible refine Kd.C_drewN ?_ _) | (with_reducible refine Kd.C_drew ?_))); (case side4 => exact HC1.out); rintro e w22 ⟨v308, rfl, ho0, hb⟩; refine ⟨_, rfl, ?_⟩; have n0_ := Aside0.mk (Kd.R_lower ho0 (below_size (Yr HB))); have n1_ := Aside0.mk (Yv HB hb); clear HB; have HO309 := n0_; have HB := n1_; clear n0_ n1_; (try clear hb); (try clear hb2); (try clear hk); (try clear hi); (try clear ho0); (try simp only [errW_none, errW_some])) | ((with_reducible refine gate_callee (f := 16) rfl ?_); refine goesL_ (some 37) rfl rfl Try.func16 (by kernel_rfl) rfl #[.slice A0 y302.length c0, .slice A1 l1.length c1, .bool a2] rfl (by (try simp only [List.map_toArray, List.map_cons, List.map_nil]); first | done | rfl | (simp only [List.length_drop, List.length_take]; rfl)) ?_; (with_reducible refine (palinoderef15_Fold.calls k _ _ y302 _ _ l1 a2 t310 true _ ?side1 ?side2 ?side3 ?side4 A10.out).mono ?_); (case side1 => repeat (first | exact (Kd.C_below HR305.out HB.out) | (with_reducible refine Kd.C_alloc ?_ _) | (with_reducible refine Kd.C_drewN ?_ _) | (with_reducible refine Kd.C_drew ?_))); (case side2 => exact HC305.out); (case side3 => repeat (first | exact (Kd.C_below HR1.out HB.out) | (with_reducible refine Kd.C_alloc ?_ _) | (with_reducible refine Kd.C_drewN ?_ _) | (with_reducible refine Kd.C_drew ?_))); (case side4 => exact HC1.out); rintro e w23 ⟨v312, rfl, ho0, hb⟩; refine ⟨_, rfl, ?_⟩; have n0_ := Aside0.mk (Kd.R_elder' (by (with_reducible repeat (first | apply Kd.R_alloc | apply Kd.R_drewN | apply Kd.R_drew)); exact HO309.out) (Kd.R_base ho0) hb); have n1_ := Aside0.mk (Kd.R_lower (Kd.R_new' ho0 (Kd.R_lt (by (with_reducible repeat (first | apply Kd.R_alloc | apply Kd.R_drewN | apply Kd.R_drew)); exact HO309.out))) (below_size (Yr HB))); have n2_ := Aside0.mk (Yv HB hb); clear HO309; clear HB; have HO309 := n0_; have HO313 := n1_; have HB := n2_; clear n0_ n1_ n2_; (try clear hb); (try clear hb2); (try clear hk); (try clear hi); (try clear ho0)) | ((with_reducible refine gate_callee (f := 17) rfl ?_); refine goesL_ (some 43) rfl rfl Try.func17 (by kernel_rfl) rfl #[.slice A0 y302.length c0, .int .i64 a3] rfl (by (try simp only [List.map_toArray, List.map_cons, List.map_nil]); first | done | rfl | (simp only [List.length_drop, List.length_take]; rfl)) ?_; (with_reducible refine (merge_See.calls _ _ y302 a3 t314 none _ ?side1 ?side2 A11.out).mono ?_); (case side1 => repeat (first | exact (Kd.C_below HR305.out HB.out) | (with_reducible refine Kd.C_alloc ?_ _) | (with_reducible refine Kd.C_drewN ?_ _) | (with_reducible refine Kd.C_drew ?_))); (case side2 => exact HC305.out); rintro e w24 ⟨v316, rfl, ho0, hb⟩; refine ⟨_, rfl, ?_⟩; have n0_ := Aside0.mk (Kd.R_elder' (by (with_reducible repeat (first | apply Kd.R_alloc | apply Kd.R_drewN | apply Kd.R_drew)); exact HO309.out) (Kd.R_base ho0) hb); have n1_ := Aside0.mk (Kd.R_elder' (by (with_reducible repeat (first | apply Kd.R_alloc | apply Kd.R_drewN | apply Kd.R_drew)); exact HO313.out) (Kd.R_base ho0) hb); have n2_ := Aside0.mk (Kd.R_lower (Kd.R_new' (Kd.R_new' ho0 (Kd.R_lt (by (with_reducible repeat (first | apply Kd.R_alloc | apply Kd.R_drewN | apply Kd.R_drew)); exact HO309.out))) (Kd.R_lt (by (with_reducible repeat (first | apply Kd.R_alloc | apply Kd.R_drewN | apply Kd.R_drew)); exact HO313.out))) (below_size (Yr HB))); have n3_ := Aside0.mk (Yv HB hb); clear HO309; clear HO313; clear HB; have HO309 := n0_; have HO313 := n1_; have HO317 := n2_; have HB := n3_; clear n0_ n1_ n2_ n3_; (try clear hb); (try clear hb2); (try clear hk); (try clear hi); (try clear ho0); (try simp only [errW_none, errW_some])) | ((with_reducible refine gate_callee (f := 18) rfl ?_); refine goesL_ (some 49) rfl rfl Try.func18 (by kernel_rfl) rfl #[.slice A0 y302.length c0, .int .i64 a3] rfl (by (try simp only [List.map_toArray, List.map_cons, List.map_nil]); first | done | rfl | (simp only [List.length_drop, List.length_take]; rfl)) ?_; (with_reducible refine (palinoderef15_See.calls k _ _ y302 a3 t318 true _ ?side1 ?side2 A12.out).mono ?_); (case side1 => repeat (first | exact (Kd.C_below HR305.out HB.out) | (with_reducible refine Kd.C_alloc ?_ _) | (with_reducible refine Kd.C_drewN ?_ _) | (with_reducible refine Kd.C_drew ?_))); (case side2 => exact HC305.out); rintro e w25 ⟨v320, rfl, ho0, hb⟩; refine ⟨_, rfl, ?_⟩; have n0_ := Aside0.mk (Kd.R_elder' (by (with_reducible repeat (first | apply Kd.R_alloc | apply Kd.R_drewN | apply Kd.R_drew)); exact HO309.out) (Kd.R_base ho0) hb); have n1_ := Aside0.mk (Kd.R_elder' (by (with_reducible repeat (first | apply Kd.R_alloc | apply Kd.R_drewN | apply Kd.R_drew)); exact HO313.out) (Kd.R_base ho0) hb); have n2_ := Aside0.mk (Kd.R_elder' (by (with_reducible repeat (first | apply Kd.R_alloc | apply Kd.R_drewN | apply Kd.R_drew)); exact HO317.out) (Kd.R_base ho0) hb); have n3_ := Aside0.mk (Kd.R_lower (Kd.R_new' (Kd.R_new' (Kd.R_new' ho0 (Kd.R_lt (by (with_reducible repeat (first | apply Kd.R_alloc | apply Kd.R_drewN | apply Kd.R_drew)); exact HO309.out))) (Kd.R_lt (by (with_reducible repeat (first | apply Kd.R_alloc | apply Kd.R_drewN | apply Kd.R_drew)); exact HO313.out))) (Kd.R_lt (by (with_reducible repeat (first | apply Kd.R_alloc | apply Kd.R_drewN | apply Kd.R_drew)); exact HO317.out))) (below_size (Yr HB))); have n4_ := Aside0.mk (Yv HB hb); clear HO309; clear HO313; clear HO317; clear HB; have HO309 := n0_; have HO313 := n1_; have HO317 := n2_; have HO321 := n3_; have HB := n4_; clear n0_ n1_ n2_ n3_ n4_; (try clear hb); (try clear hb2); (try clear hk); (try clear hi); (try clear ho0); obtain ⟨Ao26, co26, eo26⟩ := Kd.R_slice HO309.out; subst eo26; obtain ⟨Ao27, co27, eo27⟩ := Kd.R_slice HO313.out; subst eo27) | ((with_reducible refine gate_callee (f := 13) rfl ?_); refine goesL_ (some 54) rfl rfl Try.func13 (by kernel_rfl) rfl #[.slice Ao26 t306.length co26, .slice Ao27 t310.length co27] rfl (by (try simp only [List.map_toArray, List.map_cons, List.map_nil]); first | done | rfl | (simp only [List.length_drop, List.length_take]; rfl)) ?_; (with_reducible refine (palinodelaw15_entries.calls k _ _ t306 _ _ t310 true _ ?side1 ?side2 ?side3 ?side4 A13.out).mono ?_); (case side1 => repeat (first | exact (Kd.R_reads' HO309.out).2.2 | (with_reducible refine Kd.C_alloc ?_ _) | (with_reducible refine Kd.C_drewN ?_ _) | (with_reducible refine Kd.C_drew ?_))); (case side2 => exact (Kd.R_reads' HO309.out).2.1); (case side3 => repeat (first | exact (Kd.R_reads' HO313.out).2.2 | (with_reducible refine Kd.C_alloc ?_ _) | (with_reducible refine Kd.C_drewN ?_ _) | (with_reducible refine Kd.C_drew ?_))); (case side4 => exact (Kd.R_reads' HO313.out).2.1); rintro e w' ⟨rfl, ⟨nd, rfl⟩⟩; refine ⟨_, rfl, ?_⟩; obtain ⟨Ao28, co28, eo28⟩ := Kd.R_slice HO317.out; subst eo28; obtain ⟨Ao29, co29, eo29⟩ := Kd.R_slice HO321.out; subst eo29) | ((with_reducible refine gate_callee (f := 13) rfl ?_); refine goesL_ (some 57) rfl rfl Try.func13 (by kernel_rfl) rfl #[.slice Ao28 t314.length co28, .slice Ao29 t318.length co29] rfl (by (try simp only [List.map_toArray, List.map_cons, List.map_nil]); first | done | rfl | (simp only [List.length_drop, List.length_take]; rfl)) ?_; (with_reducible refine (palinodelaw15_entries.calls k _ _ t314 _ _ t318 true _ ?side1 ?side2 ?side3 ?side4 A14.out).mono ?_); (case side1 => repeat (first | exact (Kd.R_reads' HO317.out).2.2 | (with_reducible refine Kd.C_alloc ?_ _) | (with_reducible refine Kd.C_drewN ?_ _) | (with_reducible refine Kd.C_drew ?_))); (case side2 => exact (Kd.R_reads' HO317.out).2.1); (case side3 => repeat (first | exact (Kd.R_reads' HO321.out).2.2 | (with_reducible refine Kd.C_alloc ?_ _) | (with_reducible refine Kd.C_drewN ?_ _) | (with_reducible refine Kd.C_drew ?_))); (case side4 => exact (Kd.R_reads' HO321.out).2.1); rintro e w' ⟨rfl, ⟨nd, rfl⟩⟩; refine ⟨_, rfl, ?_⟩))
          go_ret
          exact ⟨by first | rfl | (simp [errW_none, errW_some] <;> rfl) | (simp only [← hji6]; first | rfl | (simp [errW_none, errW_some] <;> rfl)) | (simp [*, errW_none, errW_some] <;> rfl), Yr HB⟩
         ·
          have H1 : (some false) = some r := by rw [if_neg (show ¬ (some q325).isNone = true by simp)] at H; exact H
          clear H
          have H := H1
          clear H1
          try simp only [errW_none, errW_some]
          exact absurd ((Option.some.inj H).trans HRT_.out) (by decide)
        ·
         replace c19 := Bool.eq_false_iff.mpr c19
         subst c19
         have H1 : ((palinodelaw15_is.f t315 1).bind fun t326 => (some t326)) = some r := by rw [if_neg (show ¬ (false = true) by decide)] at H; exact H
         clear H
         have H := H1
         clear H1
         replace H := Option.bind_eq_some_iff.mp H
         obtain ⟨t326, A300, H⟩ := H
         replace H : (some t326) = some r := H
         have A30 := Aside0.mk A300
         clear A300
         obtain rfl := Option.some.inj H
         go_enter Try.func4, Try.ntmps4
         go_wp2_with (first | ((with_reducible refine gate_callee (f := 10) rfl ?_); refine goesL_ (some 20) rfl rfl Try.func10 (by kernel_rfl) rfl #[] rfl (by (try simp only [List.map_toArray, List.map_cons, List.map_nil]); first | done | rfl | (simp only [List.length_drop, List.length_take]; rfl)) ?_; (with_reducible refine (palinodelaw15_examples.calls  true _ A5.out).mono ?_); rintro e w31 ⟨rfl, hb⟩; refine ⟨_, rfl, ?_⟩; have n0_ := Aside0.mk (Yv HB hb); clear HB; have HB := n0_; clear n0_; (try clear hb); (try clear hb2); (try clear hk); (try clear hi); have q32 : ((ji6) : Int) ≤ ((l0.length : Int) : Int) := of_decide_eq_true (by first | (with_reducible assumption) | assumption); obtain ⟨i032, hi032, _, hsz32, _⟩ := info_parts info34; have hroom32 : l0.length ≤ c0 := HC0.out; have hC32 : Kd.C k34 _ A0 l0.length l0 := HR0.out; have hcut32 := cut_to (P := Try.prog) 24 34 .i64 Try.underlying24 hi032 A0 l0.length c0 (ji6) (of_decide_eq_true (by first | (with_reducible assumption) | assumption)) q32 hroom32; have hr32 := Kd.C_take (m := ((ji6) : Int).toNat) hC32 (by omega); have hy32 : y302.length = ((ji6) : Int).toNat := (by rw [Ny302.out, List.length_take]; omega); rw [← Ny302.out] at hr32; rw [← hy32] at hcut32; have HR305 := Aside0.mk hr32; have HC305 := Aside0.mk (show y302.length ≤ c0 from by omega); clear hr32 hC32 hroom32 hi032 hsz32; have KY32 := Aside0.mk hy32; clear hy32; replace q32 := eq_true q32) | ((with_reducible refine gate_callee (f := 15) rfl ?_); refine goesL_ (some 30) rfl rfl Try.func15 (by kernel_rfl) rfl #[.slice A0 y302.length c0, .slice A1 l1.length c1, .bool a2] rfl (by (try simp only [List.map_toArray, List.map_cons, List.map_nil]); first | done | rfl | (simp only [List.length_drop, List.length_take]; rfl)) ?_; (with_reducible refine (merge_Fold.calls _ _ y302 _ _ l1 a2 t306 none _ ?side1 ?side2 ?side3 ?side4 A9.out).mono ?_); (case side1 => repeat (first | exact (Kd.C_below HR305.out HB.out) | (with_reducible refine Kd.C_alloc ?_ _) | (with_reducible refine Kd.C_drewN ?_ _) | (with_reducible refine Kd.C_drew ?_))); (case side2 => exact HC305.out); (case side3 => repeat (first | exact (Kd.C_below HR1.out HB.out) | (with_reducible refine Kd.C_alloc ?_ _) | (with_reducible refine Kd.C_drewN ?_ _) | (with_reducible refine Kd.C_drew ?_))); (case side4 => exact HC1.out); rintro e w33 ⟨v308, rfl, ho0, hb⟩; refine ⟨_, rfl, ?_⟩; have n0_ := Aside0.mk (Kd.R_lower ho0 (below_size (Yr HB))); have n1_ := Aside0.mk (Yv HB hb); clear HB; have HO309 := n0_; have HB := n1_; clear n0_ n1_; (try clear hb); (try clear hb2); (try clear hk); (try clear hi); (try clear ho0); (try simp only [errW_none, errW_some])) | ((with_reducible refine gate_callee (f := 16) rfl ?_); refine goesL_ (some 37) rfl rfl Try.func16 (by kernel_rfl) rfl #[.slice A0 y302.length c0, .slice A1 l1.length c1, .bool a2] rfl (by (try simp only [List.map_toArray, List.map_cons, List.map_nil]); first | done | rfl | (simp only [List.length_drop, List.length_take]; rfl)) ?_; (with_reducible refine (palinoderef15_Fold.calls k _ _ y302 _ _ l1 a2 t310 true _ ?side1 ?side2 ?side3 ?side4 A10.out).mono ?_); (case side1 => repeat (first | exact (Kd.C_below HR305.out HB.out) | (with_reducible refine Kd.C_alloc ?_ _) | (with_reducible refine Kd.C_drewN ?_ _) | (with_reducible refine Kd.C_drew ?_))); (case side2 => exact HC305.out); (case side3 => repeat (first | exact (Kd.C_below HR1.out HB.out) | (with_reducible refine Kd.C_alloc ?_ _) | (with_reducible refine Kd.C_drewN ?_ _) | (with_reducible refine Kd.C_drew ?_))); (case side4 => exact HC1.out); rintro e w34 ⟨v312, rfl, ho0, hb⟩; refine ⟨_, rfl, ?_⟩; have n0_ := Aside0.mk (Kd.R_elder' (by (with_reducible repeat (first | apply Kd.R_alloc | apply Kd.R_drewN | apply Kd.R_drew)); exact HO309.out) (Kd.R_base ho0) hb); have n1_ := Aside0.mk (Kd.R_lower (Kd.R_new' ho0 (Kd.R_lt (by (with_reducible repeat (first | apply Kd.R_alloc | apply Kd.R_drewN | apply Kd.R_drew)); exact HO309.out))) (below_size (Yr HB))); have n2_ := Aside0.mk (Yv HB hb); clear HO309; clear HB; have HO309 := n0_; have HO313 := n1_; have HB := n2_; clear n0_ n1_ n2_; (try clear hb); (try clear hb2); (try clear hk); (try clear hi); (try clear ho0)) | ((with_reducible refine gate_callee (f := 17) rfl ?_); refine goesL_ (some 43) rfl rfl Try.func17 (by kernel_rfl) rfl #[.slice A0 y302.length c0, .int .i64 a3] rfl (by (try simp only [List.map_toArray, List.map_cons, List.map_nil]); first | done | rfl | (simp only [List.length_drop, List.length_take]; rfl)) ?_; (with_reducible refine (merge_See.calls _ _ y302 a3 t314 t315 _ ?side1 ?side2 A11.out).mono ?_); (case side1 => repeat (first | exact (Kd.C_below HR305.out HB.out) | (with_reducible refine Kd.C_alloc ?_ _) | (with_reducible refine Kd.C_drewN ?_ _) | (with_reducible refine Kd.C_drew ?_))); (case side2 => exact HC305.out); rintro e w35 ⟨v316, rfl, ho0, hb⟩; refine ⟨_, rfl, ?_⟩; have n0_ := Aside0.mk (Kd.R_elder' (by (with_reducible repeat (first | apply Kd.R_alloc | apply Kd.R_drewN | apply Kd.R_drew)); exact HO309.out) (Kd.R_base ho0) hb); have n1_ := Aside0.mk (Kd.R_elder' (by (with_reducible repeat (first | apply Kd.R_alloc | apply Kd.R_drewN | apply Kd.R_drew)); exact HO313.out) (Kd.R_base ho0) hb); have n2_ := Aside0.mk (Kd.R_lower (Kd.R_new' (Kd.R_new' ho0 (Kd.R_lt (by (with_reducible repeat (first | apply Kd.R_alloc | apply Kd.R_drewN | apply Kd.R_drew)); exact HO309.out))) (Kd.R_lt (by (with_reducible repeat (first | apply Kd.R_alloc | apply Kd.R_drewN | apply Kd.R_drew)); exact HO313.out))) (below_size (Yr HB))); have n3_ := Aside0.mk (Yv HB hb); clear HO309; clear HO313; clear HB; have HO309 := n0_; have HO313 := n1_; have HO317 := n2_; have HB := n3_; clear n0_ n1_ n2_ n3_; (try clear hb); (try clear hb2); (try clear hk); (try clear hi); (try clear ho0); (try simp only [errW_none, errW_some])) | ((with_reducible refine gate_callee (f := 18) rfl ?_); refine goesL_ (some 49) rfl rfl Try.func18 (by kernel_rfl) rfl #[.slice A0 y302.length c0, .int .i64 a3] rfl (by (try simp only [List.map_toArray, List.map_cons, List.map_nil]); first | done | rfl | (simp only [List.length_drop, List.length_take]; rfl)) ?_; (with_reducible refine (palinoderef15_See.calls k _ _ y302 a3 t318 false _ ?side1 ?side2 A12.out).mono ?_); (case side1 => repeat (first | exact (Kd.C_below HR305.out HB.out) | (with_reducible refine Kd.C_alloc ?_ _) | (with_reducible refine Kd.C_drewN ?_ _) | (with_reducible refine Kd.C_drew ?_))); (case side2 => exact HC305.out); rintro e w36 ⟨v320, rfl, ho0, hb⟩; refine ⟨_, rfl, ?_⟩; have n0_ := Aside0.mk (Kd.R_elder' (by (with_reducible repeat (first | apply Kd.R_alloc | apply Kd.R_drewN | apply Kd.R_drew)); exact HO309.out) (Kd.R_base ho0) hb); have n1_ := Aside0.mk (Kd.R_elder' (by (with_reducible repeat (first | apply Kd.R_alloc | apply Kd.R_drewN | apply Kd.R_drew)); exact HO313.out) (Kd.R_base ho0) hb); have n2_ := Aside0.mk (Kd.R_elder' (by (with_reducible repeat (first | apply Kd.R_alloc | apply Kd.R_drewN | apply Kd.R_drew)); exact HO317.out) (Kd.R_base ho0) hb); have n3_ := Aside0.mk (Kd.R_lower (Kd.R_new' (Kd.R_new' (Kd.R_new' ho0 (Kd.R_lt (by (with_reducible repeat (first | apply Kd.R_alloc | apply Kd.R_drewN | apply Kd.R_drew)); exact HO309.out))) (Kd.R_lt (by (with_reducible repeat (first | apply Kd.R_alloc | apply Kd.R_drewN | apply Kd.R_drew)); exact HO313.out))) (Kd.R_lt (by (with_reducible repeat (first | apply Kd.R_alloc | apply Kd.R_drewN | apply Kd.R_drew)); exact HO317.out))) (below_size (Yr HB))); have n4_ := Aside0.mk (Yv HB hb); clear HO309; clear HO313; clear HO317; clear HB; have HO309 := n0_; have HO313 := n1_; have HO317 := n2_; have HO321 := n3_; have HB := n4_; clear n0_ n1_ n2_ n3_ n4_; (try clear hb); (try clear hb2); (try clear hk); (try clear hi); (try clear ho0); obtain ⟨Ao37, co37, eo37⟩ := Kd.R_slice HO309.out; subst eo37; obtain ⟨Ao38, co38, eo38⟩ := Kd.R_slice HO313.out; subst eo38) | ((with_reducible refine gate_callee (f := 13) rfl ?_); refine goesL_ (some 54) rfl rfl Try.func13 (by kernel_rfl) rfl #[.slice Ao37 t306.length co37, .slice Ao38 t310.length co38] rfl (by (try simp only [List.map_toArray, List.map_cons, List.map_nil]); first | done | rfl | (simp only [List.length_drop, List.length_take]; rfl)) ?_; (with_reducible refine (palinodelaw15_entries.calls k _ _ t306 _ _ t310 true _ ?side1 ?side2 ?side3 ?side4 A13.out).mono ?_); (case side1 => repeat (first | exact (Kd.R_reads' HO309.out).2.2 | (with_reducible refine Kd.C_alloc ?_ _) | (with_reducible refine Kd.C_drewN ?_ _) | (with_reducible refine Kd.C_drew ?_))); (case side2 => exact (Kd.R_reads' HO309.out).2.1); (case side3 => repeat (first | exact (Kd.R_reads' HO313.out).2.2 | (with_reducible refine Kd.C_alloc ?_ _) | (with_reducible refine Kd.C_drewN ?_ _) | (with_reducible refine Kd.C_drew ?_))); (case side4 => exact (Kd.R_reads' HO313.out).2.1); rintro e w' ⟨rfl, ⟨nd, rfl⟩⟩; refine ⟨_, rfl, ?_⟩; obtain ⟨Ao39, co39, eo39⟩ := Kd.R_slice HO317.out; subst eo39; obtain ⟨Ao40, co40, eo40⟩ := Kd.R_slice HO321.out; subst eo40) | ((with_reducible refine gate_callee (f := 13) rfl ?_); refine goesL_ (some 57) rfl rfl Try.func13 (by kernel_rfl) rfl #[.slice Ao39 t314.length co39, .slice Ao40 t318.length co40] rfl (by (try simp only [List.map_toArray, List.map_cons, List.map_nil]); first | done | rfl | (simp only [List.length_drop, List.length_take]; rfl)) ?_; (with_reducible refine (palinodelaw15_entries.calls k _ _ t314 _ _ t318 true _ ?side1 ?side2 ?side3 ?side4 A14.out).mono ?_); (case side1 => repeat (first | exact (Kd.R_reads' HO317.out).2.2 | (with_reducible refine Kd.C_alloc ?_ _) | (with_reducible refine Kd.C_drewN ?_ _) | (with_reducible refine Kd.C_drew ?_))); (case side2 => exact (Kd.R_reads' HO317.out).2.1); (case side3 => repeat (first | exact (Kd.R_reads' HO321.out).2.2 | (with_reducible refine Kd.C_alloc ?_ _) | (with_reducible refine Kd.C_drewN ?_ _) | (with_reducible refine Kd.C_drew ?_))); (case side4 => exact (Kd.R_reads' HO321.out).2.1); rintro e w' ⟨rfl, ⟨nd, rfl⟩⟩; refine ⟨_, rfl, ?_⟩; have CA30 := fun W => palinodelaw15_is.calls t315 1 t326 W A30.out; try simp only [errW_none, errW_some] at CA30) | (go_at_call 14; (with_reducible refine (CA30 _).mono ?_); rintro e w' ⟨rfl, ⟨nd, rfl⟩⟩))
         go_ret
         exact ⟨by first | rfl | (simp [errW_none, errW_some] <;> rfl) | (simp only [← hji6]; first | rfl | (simp [errW_none, errW_some] <;> rfl)) | (simp [*, errW_none, errW_some] <;> rfl), Yr HB⟩
       ·
        have H1 : (some false) = some r := by rw [if_neg (show ¬ (some q324).isNone = true by simp)] at H; exact H
        clear H
        have H := H1
        clear H1
        try simp only [errW_none, errW_some]
        exact absurd ((Option.some.inj H).trans HRT_.out) (by decide)
      ·
       replace c18 := Bool.eq_false_iff.mpr c18
       subst c18
       have H1 : ((palinodelaw15_is.f t307 1).bind fun t327 => (if t327 = true then (if t319 = true then (if t315.isNone = true then (some true) else (some false)) else ((palinodelaw15_is.f t315 1).bind fun t329 => (some t329))) else (some false))) = some r := by rw [if_neg (show ¬ (false = true) by decide)] at H; exact H
       clear H
       have H := H1
       clear H1
       replace H := Option.bind_eq_some_iff.mp H
       obtain ⟨t327, A410, H⟩ := H
       replace H : (if t327 = true then (if t319 = true then (if t315.isNone = true then (some true) else (some false)) else ((palinodelaw15_is.f t315 1).bind fun t329 => (some t329))) else (some false)) = some r := H
       have A41 := Aside0.mk A410
       clear A410
       by_cases c42 : t327 = true
       ·
        subst c42
        have H1 : (if t319 = true then (if t315.isNone = true then (some true) else (some false)) else ((palinodelaw15_is.f t315 1).bind fun t329 => (some t329))) = some r := by rw [if_pos rfl] at H; exact H
        clear H
        have H := H1
        clear H1
        by_cases c43 : t319 = true
        ·
         subst c43
         have H1 : (if t315.isNone = true then (some true) else (some false)) = some r := by rw [if_pos rfl] at H; exact H
         clear H
         have H := H1
         clear H1
         rcases t315 with _ | q328
         ·
          have H1 : (some true) = some r := by rw [if_pos (show (none : Option Int).isNone = true by rfl)] at H; exact H
          clear H
          have H := H1
          clear H1
          try simp only [errW_none, errW_some]
          obtain rfl := Option.some.inj H
          go_enter Try.func4, Try.ntmps4
          go_wp2_with (first | ((with_reducible refine gate_callee (f := 10) rfl ?_); refine goesL_ (some 20) rfl rfl Try.func10 (by kernel_rfl) rfl #[] rfl (by (try simp only [List.map_toArray, List.map_cons, List.map_nil]); first | done | rfl | (simp only [List.length_drop, List.length_take]; rfl)) ?_; (with_reducible refine (palinodelaw15_examples.calls  true _ A5.out).mono ?_); rintro e w44 ⟨rfl, hb⟩; refine ⟨_, rfl, ?_⟩; have n0_ := Aside0.mk (Yv HB hb); clear HB; have HB := n0_; clear n0_; (try clear hb); (try clear hb2); (try clear hk); (try clear hi); have q45 : ((ji6) : Int) ≤ ((l0.length : Int) : Int) := of_decide_eq_true (by first | (with_reducible assumption) | assumption); obtain ⟨i045, hi045, _, hsz45, _⟩ := info_parts info34; have hroom45 : l0.length ≤ c0 := HC0.out; have hC45 : Kd.C k34 _ A0 l0.length l0 := HR0.out; have hcut45 := cut_to (P := Try.prog) 24 34 .i64 Try.underlying24 hi045 A0 l0.length c0 (ji6) (of_decide_eq_true (by first | (with_reducible assumption) | assumption)) q45 hroom45; have hr45 := Kd.C_take (m := ((ji6) : Int).toNat) hC45 (by omega); have hy45 : y302.length = ((ji6) : Int).toNat := (by rw [Ny302.out, List.length_take]; omega); rw [← Ny302.out] at hr45; rw [← hy45] at hcut45; have HR305 := Aside0.mk hr45; have HC305 := Aside0.mk (show y302.length ≤ c0 from by omega); clear hr45 hC45 hroom45 hi045 hsz45; have KY45 := Aside0.mk hy45; clear hy45; replace q45 := eq_true q45) | ((with_reducible refine gate_callee (f := 15) rfl ?_); refine goesL_ (some 30) rfl rfl Try.func15 (by kernel_rfl) rfl #[.slice A0 y302.length c0, .slice A1 l1.length c1, .bool a2] rfl (by (try simp only [List.map_toArray, List.map_cons, List.map_nil]); first | done | rfl | (simp only [List.length_drop, List.length_take]; rfl)) ?_; (with_reducible refine (merge_Fold.calls _ _ y302 _ _ l1 a2 t306 t307 _ ?side1 ?side2 ?side3 ?side4 A9.out).mono ?_); (case side1 => repeat (first | exact (Kd.C_below HR305.out HB.out) | (with_reducible refine Kd.C_alloc ?_ _) | (with_reducible refine Kd.C_drewN ?_ _) | (with_reducible refine Kd.C_drew ?_))); (case side2 => exact HC305.out); (case side3 => repeat (first | exact (Kd.C_below HR1.out HB.out) | (with_reducible refine Kd.C_alloc ?_ _) | (with_reducible refine Kd.C_drewN ?_ _) | (with_reducible refine Kd.C_drew ?_))); (case side4 => exact HC1.out); rintro e w46 ⟨v308, rfl, ho0, hb⟩; refine ⟨_, rfl, ?_⟩; have n0_ := Aside0.mk (Kd.R_lower ho0 (below_size (Yr HB))); have n1_ := Aside0.mk (Yv HB hb); clear HB; have HO309 := n0_; have HB := n1_; clear n0_ n1_; (try clear hb); (try clear hb2); (try clear hk); (try clear hi); (try clear ho0); (try simp only [errW_none, errW_some])) | ((with_reducible refine gate_callee (f := 16) rfl ?_); refine goesL_ (some 37) rfl rfl Try.func16 (by kernel_rfl) rfl #[.slice A0 y302.length c0, .slice A1 l1.length c1, .bool a2] rfl (by (try simp only [List.map_toArray, List.map_cons, List.map_nil]); first | done | rfl | (simp only [List.length_drop, List.length_take]; rfl)) ?_; (with_reducible refine (palinoderef15_Fold.calls k _ _ y302 _ _ l1 a2 t310 false _ ?side1 ?side2 ?side3 ?side4 A10.out).mono ?_); (case side1 => repeat (first | exact (Kd.C_below HR305.out HB.out) | (with_reducible refine Kd.C_alloc ?_ _) | (with_reducible refine Kd.C_drewN ?_ _) | (with_reducible refine Kd.C_drew ?_))); (case side2 => exact HC305.out); (case side3 => repeat (first | exact (Kd.C_below HR1.out HB.out) | (with_reducible refine Kd.C_alloc ?_ _) | (with_reducible refine Kd.C_drewN ?_ _) | (with_reducible refine Kd.C_drew ?_))); (case side4 => exact HC1.out); rintro e w47 ⟨v312, rfl, ho0, hb⟩; refine ⟨_, rfl, ?_⟩; have n0_ := Aside0.mk (Kd.R_elder' (by (with_reducible repeat (first | apply Kd.R_alloc | apply Kd.R_drewN | apply Kd.R_drew)); exact HO309.out) (Kd.R_base ho0) hb); have n1_ := Aside0.mk (Kd.R_lower (Kd.R_new' ho0 (Kd.R_lt (by (with_reducible repeat (first | apply Kd.R_alloc | apply Kd.R_drewN | apply Kd.R_drew)); exact HO309.out))) (below_size (Yr HB))); have n2_ := Aside0.mk (Yv HB hb); clear HO309; clear HB; have HO309 := n0_; have HO313 := n1_; have HB := n2_; clear n0_ n1_ n2_; (try clear hb); (try clear hb2); (try clear hk); (try clear hi); (try clear ho0)) | ((with_reducible refine gate_callee (f := 17) rfl ?_); refine goesL_ (some 43) rfl rfl Try.func17 (by kernel_rfl) rfl #[.slice A0 y302.length c0, .int .i64 a3] rfl (by (try simp only [List.map_toArray, List.map_cons, List.map_nil]); first | done | rfl | (simp only [List.length_drop, List.length_take]; rfl)) ?_; (with_reducible refine (merge_See.calls _ _ y302 a3 t314 none _ ?side1 ?side2 A11.out).mono ?_); (case side1 => repeat (first | exact (Kd.C_below HR305.out HB.out) | (with_reducible refine Kd.C_alloc ?_ _) | (with_reducible refine Kd.C_drewN ?_ _) | (with_reducible refine Kd.C_drew ?_))); (case side2 => exact HC305.out); rintro e w48 ⟨v316, rfl, ho0, hb⟩; refine ⟨_, rfl, ?_⟩; have n0_ := Aside0.mk (Kd.R_elder' (by (with_reducible repeat (first | apply Kd.R_alloc | apply Kd.R_drewN | apply Kd.R_drew)); exact HO309.out) (Kd.R_base ho0) hb); have n1_ := Aside0.mk (Kd.R_elder' (by (with_reducible repeat (first | apply Kd.R_alloc | apply Kd.R_drewN | apply Kd.R_drew)); exact HO313.out) (Kd.R_base ho0) hb); have n2_ := Aside0.mk (Kd.R_lower (Kd.R_new' (Kd.R_new' ho0 (Kd.R_lt (by (with_reducible repeat (first | apply Kd.R_alloc | apply Kd.R_drewN | apply Kd.R_drew)); exact HO309.out))) (Kd.R_lt (by (with_reducible repeat (first | apply Kd.R_alloc | apply Kd.R_drewN | apply Kd.R_drew)); exact HO313.out))) (below_size (Yr HB))); have n3_ := Aside0.mk (Yv HB hb); clear HO309; clear HO313; clear HB; have HO309 := n0_; have HO313 := n1_; have HO317 := n2_; have HB := n3_; clear n0_ n1_ n2_ n3_; (try clear hb); (try clear hb2); (try clear hk); (try clear hi); (try clear ho0); (try simp only [errW_none, errW_some])) | ((with_reducible refine gate_callee (f := 18) rfl ?_); refine goesL_ (some 49) rfl rfl Try.func18 (by kernel_rfl) rfl #[.slice A0 y302.length c0, .int .i64 a3] rfl (by (try simp only [List.map_toArray, List.map_cons, List.map_nil]); first | done | rfl | (simp only [List.length_drop, List.length_take]; rfl)) ?_; (with_reducible refine (palinoderef15_See.calls k _ _ y302 a3 t318 true _ ?side1 ?side2 A12.out).mono ?_); (case side1 => repeat (first | exact (Kd.C_below HR305.out HB.out) | (with_reducible refine Kd.C_alloc ?_ _) | (with_reducible refine Kd.C_drewN ?_ _) | (with_reducible refine Kd.C_drew ?_))); (case side2 => exact HC305.out); rintro e w49 ⟨v320, rfl, ho0, hb⟩; refine ⟨_, rfl, ?_⟩; have n0_ := Aside0.mk (Kd.R_elder' (by (with_reducible repeat (first | apply Kd.R_alloc | apply Kd.R_drewN | apply Kd.R_drew)); exact HO309.out) (Kd.R_base ho0) hb); have n1_ := Aside0.mk (Kd.R_elder' (by (with_reducible repeat (first | apply Kd.R_alloc | apply Kd.R_drewN | apply Kd.R_drew)); exact HO313.out) (Kd.R_base ho0) hb); have n2_ := Aside0.mk (Kd.R_elder' (by (with_reducible repeat (first | apply Kd.R_alloc | apply Kd.R_drewN | apply Kd.R_drew)); exact HO317.out) (Kd.R_base ho0) hb); have n3_ := Aside0.mk (Kd.R_lower (Kd.R_new' (Kd.R_new' (Kd.R_new' ho0 (Kd.R_lt (by (with_reducible repeat (first | apply Kd.R_alloc | apply Kd.R_drewN | apply Kd.R_drew)); exact HO309.out))) (Kd.R_lt (by (with_reducible repeat (first | apply Kd.R_alloc | apply Kd.R_drewN | apply Kd.R_drew)); exact HO313.out))) (Kd.R_lt (by (with_reducible repeat (first | apply Kd.R_alloc | apply Kd.R_drewN | apply Kd.R_drew)); exact HO317.out))) (below_size (Yr HB))); have n4_ := Aside0.mk (Yv HB hb); clear HO309; clear HO313; clear HO317; clear HB; have HO309 := n0_; have HO313 := n1_; have HO317 := n2_; have HO321 := n3_; have HB := n4_; clear n0_ n1_ n2_ n3_ n4_; (try clear hb); (try clear hb2); (try clear hk); (try clear hi); (try clear ho0); obtain ⟨Ao50, co50, eo50⟩ := Kd.R_slice HO309.out; subst eo50; obtain ⟨Ao51, co51, eo51⟩ := Kd.R_slice HO313.out; subst eo51) | ((with_reducible refine gate_callee (f := 13) rfl ?_); refine goesL_ (some 54) rfl rfl Try.func13 (by kernel_rfl) rfl #[.slice Ao50 t306.length co50, .slice Ao51 t310.length co51] rfl (by (try simp only [List.map_toArray, List.map_cons, List.map_nil]); first | done | rfl | (simp only [List.length_drop, List.length_take]; rfl)) ?_; (with_reducible refine (palinodelaw15_entries.calls k _ _ t306 _ _ t310 true _ ?side1 ?side2 ?side3 ?side4 A13.out).mono ?_); (case side1 => repeat (first | exact (Kd.R_reads' HO309.out).2.2 | (with_reducible refine Kd.C_alloc ?_ _) | (with_reducible refine Kd.C_drewN ?_ _) | (with_reducible refine Kd.C_drew ?_))); (case side2 => exact (Kd.R_reads' HO309.out).2.1); (case side3 => repeat (first | exact (Kd.R_reads' HO313.out).2.2 | (with_reducible refine Kd.C_alloc ?_ _) | (with_reducible refine Kd.C_drewN ?_ _) | (with_reducible refine Kd.C_drew ?_))); (case side4 => exact (Kd.R_reads' HO313.out).2.1); rintro e w' ⟨rfl, ⟨nd, rfl⟩⟩; refine ⟨_, rfl, ?_⟩; obtain ⟨Ao52, co52, eo52⟩ := Kd.R_slice HO317.out; subst eo52; obtain ⟨Ao53, co53, eo53⟩ := Kd.R_slice HO321.out; subst eo53) | ((with_reducible refine gate_callee (f := 13) rfl ?_); refine goesL_ (some 57) rfl rfl Try.func13 (by kernel_rfl) rfl #[.slice Ao52 t314.length co52, .slice Ao53 t318.length co53] rfl (by (try simp only [List.map_toArray, List.map_cons, List.map_nil]); first | done | rfl | (simp only [List.length_drop, List.length_take]; rfl)) ?_; (with_reducible refine (palinodelaw15_entries.calls k _ _ t314 _ _ t318 true _ ?side1 ?side2 ?side3 ?side4 A14.out).mono ?_); (case side1 => repeat (first | exact (Kd.R_reads' HO317.out).2.2 | (with_reducible refine Kd.C_alloc ?_ _) | (with_reducible refine Kd.C_drewN ?_ _) | (with_reducible refine Kd.C_drew ?_))); (case side2 => exact (Kd.R_reads' HO317.out).2.1); (case side3 => repeat (first | exact (Kd.R_reads' HO321.out).2.2 | (with_reducible refine Kd.C_alloc ?_ _) | (with_reducible refine Kd.C_drewN ?_ _) | (with_reducible refine Kd.C_drew ?_))); (case side4 => exact (Kd.R_reads' HO321.out).2.1); rintro e w' ⟨rfl, ⟨nd, rfl⟩⟩; refine ⟨_, rfl, ?_⟩; have CA41 := fun W => palinodelaw15_is.calls t307 1 true W A41.out; try simp only [errW_none, errW_some] at CA41) | (go_at_call 14; (with_reducible refine (CA41 _).mono ?_); rintro e w' ⟨rfl, ⟨nd, rfl⟩⟩))
          go_ret
          exact ⟨by first | rfl | (simp [errW_none, errW_some] <;> rfl) | (simp only [← hji6]; first | rfl | (simp [errW_none, errW_some] <;> rfl)) | (simp [*, errW_none, errW_some] <;> rfl), Yr HB⟩
         ·
          have H1 : (some false) = some r := by rw [if_neg (show ¬ (some q328).isNone = true by simp)] at H; exact H
          clear H
          have H := H1
          clear H1
          try simp only [errW_none, errW_some]
          exact absurd ((Option.some.inj H).trans HRT_.out) (by decide)
        ·
         replace c43 := Bool.eq_false_iff.mpr c43
         subst c43
         have H1 : ((palinodelaw15_is.f t315 1).bind fun t329 => (some t329)) = some r := by rw [if_neg (show ¬ (false = true) by decide)] at H; exact H
         clear H
         have H := H1
         clear H1
         replace H := Option.bind_eq_some_iff.mp H
         obtain ⟨t329, A540, H⟩ := H
         replace H : (some t329) = some r := H
         have A54 := Aside0.mk A540
         clear A540
         obtain rfl := Option.some.inj H
         go_enter Try.func4, Try.ntmps4
         go_wp2_with (first | ((with_reducible refine gate_callee (f := 10) rfl ?_); refine goesL_ (some 20) rfl rfl Try.func10 (by kernel_rfl) rfl #[] rfl (by (try simp only [List.map_toArray, List.map_cons, List.map_nil]); first | done | rfl | (simp only [List.length_drop, List.length_take]; rfl)) ?_; (with_reducible refine (palinodelaw15_examples.calls  true _ A5.out).mono ?_); rintro e w55 ⟨rfl, hb⟩; refine ⟨_, rfl, ?_⟩; have n0_ := Aside0.mk (Yv HB hb); clear HB; have HB := n0_; clear n0_; (try clear hb); (try clear hb2); (try clear hk); (try clear hi); have q56 : ((ji6) : Int) ≤ ((l0.length : Int) : Int) := of_decide_eq_true (by first | (with_reducible assumption) | assumption); obtain ⟨i056, hi056, _, hsz56, _⟩ := info_parts info34; have hroom56 : l0.length ≤ c0 := HC0.out; have hC56 : Kd.C k34 _ A0 l0.length l0 := HR0.out; have hcut56 := cut_to (P := Try.prog) 24 34 .i64 Try.underlying24 hi056 A0 l0.length c0 (ji6) (of_decide_eq_true (by first | (with_reducible assumption) | assumption)) q56 hroom56; have hr56 := Kd.C_take (m := ((ji6) : Int).toNat) hC56 (by omega); have hy56 : y302.length = ((ji6) : Int).toNat := (by rw [Ny302.out, List.length_take]; omega); rw [← Ny302.out] at hr56; rw [← hy56] at hcut56; have HR305 := Aside0.mk hr56; have HC305 := Aside0.mk (show y302.length ≤ c0 from by omega); clear hr56 hC56 hroom56 hi056 hsz56; have KY56 := Aside0.mk hy56; clear hy56; replace q56 := eq_true q56) | ((with_reducible refine gate_callee (f := 15) rfl ?_); refine goesL_ (some 30) rfl rfl Try.func15 (by kernel_rfl) rfl #[.slice A0 y302.length c0, .slice A1 l1.length c1, .bool a2] rfl (by (try simp only [List.map_toArray, List.map_cons, List.map_nil]); first | done | rfl | (simp only [List.length_drop, List.length_take]; rfl)) ?_; (with_reducible refine (merge_Fold.calls _ _ y302 _ _ l1 a2 t306 t307 _ ?side1 ?side2 ?side3 ?side4 A9.out).mono ?_); (case side1 => repeat (first | exact (Kd.C_below HR305.out HB.out) | (with_reducible refine Kd.C_alloc ?_ _) | (with_reducible refine Kd.C_drewN ?_ _) | (with_reducible refine Kd.C_drew ?_))); (case side2 => exact HC305.out); (case side3 => repeat (first | exact (Kd.C_below HR1.out HB.out) | (with_reducible refine Kd.C_alloc ?_ _) | (with_reducible refine Kd.C_drewN ?_ _) | (with_reducible refine Kd.C_drew ?_))); (case side4 => exact HC1.out); rintro e w57 ⟨v308, rfl, ho0, hb⟩; refine ⟨_, rfl, ?_⟩; have n0_ := Aside0.mk (Kd.R_lower ho0 (below_size (Yr HB))); have n1_ := Aside0.mk (Yv HB hb); clear HB; have HO309 := n0_; have HB := n1_; clear n0_ n1_; (try clear hb); (try clear hb2); (try clear hk); (try clear hi); (try clear ho0); (try simp only [errW_none, errW_some])) | ((with_reducible refine gate_callee (f := 16) rfl ?_); refine goesL_ (some 37) rfl rfl Try.func16 (by kernel_rfl) rfl #[.slice A0 y302.length c0, .slice A1 l1.length c1, .bool a2] rfl (by (try simp only [List.map_toArray, List.map_cons, List.map_nil]); first | done | rfl | (simp only [List.length_drop, List.length_take]; rfl)) ?_; (with_reducible refine (palinoderef15_Fold.calls k _ _ y302 _ _ l1 a2 t310 false _ ?side1 ?side2 ?side3 ?side4 A10.out).mono ?_); (case side1 => repeat (first | exact (Kd.C_below HR305.out HB.out) | (with_reducible refine Kd.C_alloc ?_ _) | (with_reducible refine Kd.C_drewN ?_ _) | (with_reducible refine Kd.C_drew ?_))); (case side2 => exact HC305.out); (case side3 => repeat (first | exact (Kd.C_below HR1.out HB.out) | (with_reducible refine Kd.C_alloc ?_ _) | (with_reducible refine Kd.C_drewN ?_ _) | (with_reducible refine Kd.C_drew ?_))); (case side4 => exact HC1.out); rintro e w58 ⟨v312, rfl, ho0, hb⟩; refine ⟨_, rfl, ?_⟩; have n0_ := Aside0.mk (Kd.R_elder' (by (with_reducible repeat (first | apply Kd.R_alloc | apply Kd.R_drewN | apply Kd.R_drew)); exact HO309.out) (Kd.R_base ho0) hb); have n1_ := Aside0.mk (Kd.R_lower (Kd.R_new' ho0 (Kd.R_lt (by (with_reducible repeat (first | apply Kd.R_alloc | apply Kd.R_drewN | apply Kd.R_drew)); exact HO309.out))) (below_size (Yr HB))); have n2_ := Aside0.mk (Yv HB hb); clear HO309; clear HB; have HO309 := n0_; have HO313 := n1_; have HB := n2_; clear n0_ n1_ n2_; (try clear hb); (try clear hb2); (try clear hk); (try clear hi); (try clear ho0)) | ((with_reducible refine gate_callee (f := 17) rfl ?_); refine goesL_ (some 43) rfl rfl Try.func17 (by kernel_rfl) rfl #[.slice A0 y302.length c0, .int .i64 a3] rfl (by (try simp only [List.map_toArray, List.map_cons, List.map_nil]); first | done | rfl | (simp only [List.length_drop, List.length_take]; rfl)) ?_; (with_reducible refine (merge_See.calls _ _ y302 a3 t314 t315 _ ?side1 ?side2 A11.out).mono ?_); (case side1 => repeat (first | exact (Kd.C_below HR305.out HB.out) | (with_reducible refine Kd.C_alloc ?_ _) | (with_reducible refine Kd.C_drewN ?_ _) | (with_reducible refine Kd.C_drew ?_))); (case side2 => exact HC305.out); rintro e w59 ⟨v316, rfl, ho0, hb⟩; refine ⟨_, rfl, ?_⟩; have n0_ := Aside0.mk (Kd.R_elder' (by (with_reducible repeat (first | apply Kd.R_alloc | apply Kd.R_drewN | apply Kd.R_drew)); exact HO309.out) (Kd.R_base ho0) hb); have n1_ := Aside0.mk (Kd.R_elder' (by (with_reducible repeat (first | apply Kd.R_alloc | apply Kd.R_drewN | apply Kd.R_drew)); exact HO313.out) (Kd.R_base ho0) hb); have n2_ := Aside0.mk (Kd.R_lower (Kd.R_new' (Kd.R_new' ho0 (Kd.R_lt (by (with_reducible repeat (first | apply Kd.R_alloc | apply Kd.R_drewN | apply Kd.R_drew)); exact HO309.out))) (Kd.R_lt (by (with_reducible repeat (first | apply Kd.R_alloc | apply Kd.R_drewN | apply Kd.R_drew)); exact HO313.out))) (below_size (Yr HB))); have n3_ := Aside0.mk (Yv HB hb); clear HO309; clear HO313; clear HB; have HO309 := n0_; have HO313 := n1_; have HO317 := n2_; have HB := n3_; clear n0_ n1_ n2_ n3_; (try clear hb); (try clear hb2); (try clear hk); (try clear hi); (try clear ho0); (try simp only [errW_none, errW_some])) | ((with_reducible refine gate_callee (f := 18) rfl ?_); refine goesL_ (some 49) rfl rfl Try.func18 (by kernel_rfl) rfl #[.slice A0 y302.length c0, .int .i64 a3] rfl (by (try simp only [List.map_toArray, List.map_cons, List.map_nil]); first | done | rfl | (simp only [List.length_drop, List.length_take]; rfl)) ?_; (with_reducible refine (palinoderef15_See.calls k _ _ y302 a3 t318 false _ ?side1 ?side2 A12.out).mono ?_); (case side1 => repeat (first | exact (Kd.C_below HR305.out HB.out) | (with_reducible refine Kd.C_alloc ?_ _) | (with_reducible refine Kd.C_drewN ?_ _) | (with_reducible refine Kd.C_drew ?_))); (case side2 => exact HC305.out); rintro e w60 ⟨v320, rfl, ho0, hb⟩; refine ⟨_, rfl, ?_⟩; have n0_ := Aside0.mk (Kd.R_elder' (by (with_reducible repeat (first | apply Kd.R_alloc | apply Kd.R_drewN | apply Kd.R_drew)); exact HO309.out) (Kd.R_base ho0) hb); have n1_ := Aside0.mk (Kd.R_elder' (by (with_reducible repeat (first | apply Kd.R_alloc | apply Kd.R_drewN | apply Kd.R_drew)); exact HO313.out) (Kd.R_base ho0) hb); have n2_ := Aside0.mk (Kd.R_elder' (by (with_reducible repeat (first | apply Kd.R_alloc | apply Kd.R_drewN | apply Kd.R_drew)); exact HO317.out) (Kd.R_base ho0) hb); have n3_ := Aside0.mk (Kd.R_lower (Kd.R_new' (Kd.R_new' (Kd.R_new' ho0 (Kd.R_lt (by (with_reducible repeat (first | apply Kd.R_alloc | apply Kd.R_drewN | apply Kd.R_drew)); exact HO309.out))) (Kd.R_lt (by (with_reducible repeat (first | apply Kd.R_alloc | apply Kd.R_drewN | apply Kd.R_drew)); exact HO313.out))) (Kd.R_lt (by (with_reducible repeat (first | apply Kd.R_alloc | apply Kd.R_drewN | apply Kd.R_drew)); exact HO317.out))) (below_size (Yr HB))); have n4_ := Aside0.mk (Yv HB hb); clear HO309; clear HO313; clear HO317; clear HB; have HO309 := n0_; have HO313 := n1_; have HO317 := n2_; have HO321 := n3_; have HB := n4_; clear n0_ n1_ n2_ n3_ n4_; (try clear hb); (try clear hb2); (try clear hk); (try clear hi); (try clear ho0); obtain ⟨Ao61, co61, eo61⟩ := Kd.R_slice HO309.out; subst eo61; obtain ⟨Ao62, co62, eo62⟩ := Kd.R_slice HO313.out; subst eo62) | ((with_reducible refine gate_callee (f := 13) rfl ?_); refine goesL_ (some 54) rfl rfl Try.func13 (by kernel_rfl) rfl #[.slice Ao61 t306.length co61, .slice Ao62 t310.length co62] rfl (by (try simp only [List.map_toArray, List.map_cons, List.map_nil]); first | done | rfl | (simp only [List.length_drop, List.length_take]; rfl)) ?_; (with_reducible refine (palinodelaw15_entries.calls k _ _ t306 _ _ t310 true _ ?side1 ?side2 ?side3 ?side4 A13.out).mono ?_); (case side1 => repeat (first | exact (Kd.R_reads' HO309.out).2.2 | (with_reducible refine Kd.C_alloc ?_ _) | (with_reducible refine Kd.C_drewN ?_ _) | (with_reducible refine Kd.C_drew ?_))); (case side2 => exact (Kd.R_reads' HO309.out).2.1); (case side3 => repeat (first | exact (Kd.R_reads' HO313.out).2.2 | (with_reducible refine Kd.C_alloc ?_ _) | (with_reducible refine Kd.C_drewN ?_ _) | (with_reducible refine Kd.C_drew ?_))); (case side4 => exact (Kd.R_reads' HO313.out).2.1); rintro e w' ⟨rfl, ⟨nd, rfl⟩⟩; refine ⟨_, rfl, ?_⟩; obtain ⟨Ao63, co63, eo63⟩ := Kd.R_slice HO317.out; subst eo63; obtain ⟨Ao64, co64, eo64⟩ := Kd.R_slice HO321.out; subst eo64) | ((with_reducible refine gate_callee (f := 13) rfl ?_); refine goesL_ (some 57) rfl rfl Try.func13 (by kernel_rfl) rfl #[.slice Ao63 t314.length co63, .slice Ao64 t318.length co64] rfl (by (try simp only [List.map_toArray, List.map_cons, List.map_nil]); first | done | rfl | (simp only [List.length_drop, List.length_take]; rfl)) ?_; (with_reducible refine (palinodelaw15_entries.calls k _ _ t314 _ _ t318 true _ ?side1 ?side2 ?side3 ?side4 A14.out).mono ?_); (case side1 => repeat (first | exact (Kd.R_reads' HO317.out).2.2 | (with_reducible refine Kd.C_alloc ?_ _) | (with_reducible refine Kd.C_drewN ?_ _) | (with_reducible refine Kd.C_drew ?_))); (case side2 => exact (Kd.R_reads' HO317.out).2.1); (case side3 => repeat (first | exact (Kd.R_reads' HO321.out).2.2 | (with_reducible refine Kd.C_alloc ?_ _) | (with_reducible refine Kd.C_drewN ?_ _) | (with_reducible refine Kd.C_drew ?_))); (case side4 => exact (Kd.R_reads' HO321.out).2.1); rintro e w' ⟨rfl, ⟨nd, rfl⟩⟩; refine ⟨_, rfl, ?_⟩; have CA41 := fun W => palinodelaw15_is.calls t307 1 true W A41.out; try simp only [errW_none, errW_some] at CA41) | (go_at_call 14; (with_reducible refine (CA41 _).mono ?_); rintro e w' ⟨rfl, ⟨nd, rfl⟩⟩; have CA54 := fun W => palinodelaw15_is.calls t315 1 t329 W A54.out; try simp only [errW_none, errW_some] at CA54) | (go_at_call 14; (with_reducible refine (CA54 _).mono ?_); rintro e w' ⟨rfl, ⟨nd, rfl⟩⟩))
         go_ret
         exact ⟨by first | rfl | (simp [errW_none, errW_some] <;> rfl) | (simp only [← hji6]; first | rfl | (simp [errW_none, errW_some] <;> rfl)) | (simp [*, errW_none, errW_some] <;> rfl), Yr HB⟩
       ·
        replace c42 := Bool.eq_false_iff.mpr c42
        subst c42
        have H1 : (some false) = some r := by rw [if_neg (show ¬ (false = true) by decide)] at H; exact H
        clear H
        have H := H1
        clear H1
        exact absurd ((Option.some.inj H).trans HRT_.out) (by decide)
     ·
      replace c17 := Bool.eq_false_iff.mpr c17
      subst c17
      have H1 : (some false) = some r := by rw [if_neg (show ¬ (false = true) by decide)] at H; exact H
      clear H
      have H := H1
      clear H1
      exact absurd ((Option.some.inj H).trans HRT_.out) (by decide)
    ·
     replace c16 := Bool.eq_false_iff.mpr c16
     subst c16
     have H1 : (some false) = some r := by rw [if_neg (show ¬ (false = true) by decide)] at H; exact H
     clear H
     have H := H1
     clear H1
     exact absurd ((Option.some.inj H).trans HRT_.out) (by decide)
   ·
    replace c15 := Bool.eq_false_iff.mpr c15
    subst c15
    have H1 : (some false) = some r := by rw [if_neg (show ¬ (false = true) by decide)] at H; exact H
    clear H
    have H := H1
    clear H1
    exact absurd ((Option.some.inj H).trans HRT_.out) (by decide)
  ·
   rw [if_neg c8] at H
   exact absurd H (by simp)
 ·
  rw [if_neg c7] at H
  exact absurd H (by simp)

/-- THE ONE PURE STATEMENT of palinodelaw15_MergeFolds. -/
def palinodelaw15_MergeFolds.Pure : Prop := (∀ r_, palinodelaw15_examples.f = some r_ → r_ = true) ∧ ∀ (l0 : List (S34)) (l1 : List Int) (a2 : Bool) (a3 : Int), (l0.length ≤ maxLen ∧ l0.length * 48 ≤ 140737488351232 ∧ ∀ x_ ∈ l0, V34 x_) → (l1.length ≤ maxLen ∧ l1.length * 8 ≤ 140737488351232 ∧ ∀ x_ ∈ l1, (Lit.int .i64 x_).wf = true) → (Lit.int .i64 a3).wf = true → ∃ k, palinodelaw15_MergeFolds.f k l0 l1 a2 a3 = some true
theorem palinodelaw15_MergeFolds.walk (P : palinodelaw15_MergeFolds.Pure) (A0 : Option Addr) (c0 : Nat) (l0 : List (S34)) (A1 : Option Addr) (c1 : Nat) (l1 : List Int) (a2 : Bool) (a3 : Int) (w : World) (hr0 : Kd.C k34 w A0 l0.length l0) (hc0 : l0.length ≤ c0) (v0 : (l0.length ≤ maxLen ∧ l0.length * 48 ≤ 140737488351232 ∧ ∀ x_ ∈ l0, V34 x_)) (hr1 : Kd.C (Kd.int .i64) w A1 l1.length l1) (hc1 : l1.length ≤ c1) (v1 : (l1.length ≤ maxLen ∧ l1.length * 8 ≤ 140737488351232 ∧ ∀ x_ ∈ l1, (Lit.int .i64 x_).wf = true)) (v3 : (Lit.int .i64 a3).wf = true) :
  Calls Try.prog 4 #[.slice A0 l0.length c0, .slice A1 l1.length c1, .bool a2, .int .i64 a3] w fun e w' => e = .returned (.bool true) ∧ Below w.heap.size w w' := by
 obtain ⟨k, h⟩ := P.2 l0 l1 a2 a3 v0 v1 v3
 refine (palinodelaw15_MergeFolds.calls k A0 c0 l0 A1 c1 l1 a2 a3 true w hr0 hc0 hr1 hc1 h ⟨P.1⟩).mono ?_
 rintro e w' ⟨rfl, hd⟩
 exact ⟨rfl, hd⟩

-- NOT PRINTED: function 5 (palinodelaw15_MergeAll)

/-! ### palinodelaw15_MergeKept: function 6 -/
mutual
def palinodelaw15_MergeKept.j0 : Nat → List (S34) → List Int → Int → Bool → List (S34) → Int → Option (Bool)
 | 0, _, _, _, _, _, _ => none
 | k + 1, x0, x1, x3, x9, x10, x12 => if (x1.length : Int) > 0 then (palinodelaw15_MergeKept.j1 k x0 x1 x3 x9 x10 x12 ((Int.tmod x3 2) == 1)) else (palinodelaw15_MergeKept.j1 k x0 x1 x3 x9 x10 x12 false)
def palinodelaw15_MergeKept.j1 : Nat → List (S34) → List Int → Int → Bool → List (S34) → Int → Bool → Option (Bool)
 | 0, _, _, _, _, _, _, _ => none
 | k + 1, x0, x1, x3, x9, x10, x12, x51 => if x51 = true then (if (x1.length : Int) = 0 then (none) else (if 0 ≤ (Int.tmod (wrap64 (Int.tdiv x3 2)) (x1.length : Int)) then (if (Int.tmod (wrap64 (Int.tdiv x3 2)) (x1.length : Int)) < (x1.length : Int) then (palinodelaw15_MergeKept.j2 k x0 x9 x10 (rd x1 (Int.tmod (wrap64 (Int.tdiv x3 2)) (x1.length : Int)))) else (none)) else (none))) else (palinodelaw15_MergeKept.j2 k x0 x9 x10 x12)
def palinodelaw15_MergeKept.j2 : Nat → List (S34) → Bool → List (S34) → Int → Option (Bool)
 | 0, _, _, _, _ => none
 | k + 1, x0, x9, x10, x12 => (merge_See.f x0 x12).bind fun bt348 => ((merge_See.f x10 x12).bind fun bt352 => ((palinodelaw15_entries.f k bt348.1 bt352.1).bind fun t356 => (if x9 = true then (if bt348.2.isNone = true then (if bt352.2.isNone = true then (if t356 = true then ((block_Sorted.f k x10).bind fun t359 => (if t359 = true then (some (decide ((x10.length : Int) ≤ (x0.length : Int)))) else (some false))) else (some false)) else (some false)) else (some false)) else (some false))))
end
def palinodelaw15_MergeKept.f (k : Nat) (l0 : List (S34)) (l1 : List Int) (a2 : Bool) (a3 : Int) : Option (Bool) := (palinodelaw15_examples.f).bind fun t337 => (if 0 ≤ (mn (l0.length : Int) 80) then (if (mn (l0.length : Int) 80) ≤ (l0.length : Int) then ((some (l0.take ((mn (l0.length : Int) 80) : Int).toNat : List (S34))).bind fun y338 => ((merge_Fold.f y338 l1 a2).bind fun bt342 => (if bt342.2.isNone = true then (if a3 < 0 then (palinodelaw15_MergeKept.j0 k y338 l1 (wrap64 (-(wrap64 (a3 + 1)))) t337 bt342.1 9007199254740991) else (palinodelaw15_MergeKept.j0 k y338 l1 a3 t337 bt342.1 9007199254740991)) else (if t337 = true then ((block_Sorted.f k y338).bind fun t360 => (some (!t360))) else (some false))))) else (none)) else (none))
theorem palinodelaw15_MergeKept.mono_l : ∀ k, (∀ y0 y1 y2 y3 y4 y5, LeO (palinodelaw15_MergeKept.j0 k y0 y1 y2 y3 y4 y5) (palinodelaw15_MergeKept.j0 (k + 1) y0 y1 y2 y3 y4 y5)) ∧ (∀ y0 y1 y2 y3 y4 y5 y6, LeO (palinodelaw15_MergeKept.j1 k y0 y1 y2 y3 y4 y5 y6) (palinodelaw15_MergeKept.j1 (k + 1) y0 y1 y2 y3 y4 y5 y6)) ∧ (∀ y0 y1 y2 y3, LeO (palinodelaw15_MergeKept.j2 k y0 y1 y2 y3) (palinodelaw15_MergeKept.j2 (k + 1) y0 y1 y2 y3))
 | 0 => ⟨fun _ _ _ _ _ _ r h => by simp [palinodelaw15_MergeKept.j0] at h, fun _ _ _ _ _ _ _ r h => by simp [palinodelaw15_MergeKept.j1] at h, fun _ _ _ _ r h => by simp [palinodelaw15_MergeKept.j2] at h⟩
 | k + 1 => by
  obtain ⟨ih0, ih1, ih2⟩ := palinodelaw15_MergeKept.mono_l k
  refine ⟨?_, ?_, ?_⟩
  ·
   intro y0 y1 y2 y3 y4 y5
   unfold palinodelaw15_MergeKept.j0
   repeat' first
   | (with_reducible exact ih0 _ _ _ _ _ _)
   | (with_reducible exact ih1 _ _ _ _ _ _ _)
   | (with_reducible exact ih2 _ _ _ _)
   | (with_reducible exact block_Sorted.mono _ _)
   | (with_reducible exact palinodelaw15_entries.mono _ _ _)
   | (with_reducible exact LeO.refl _)
   | (with_reducible exact LeO.none _)
   | (with_reducible refine LeO.ite ?_ ?_)
   | (with_reducible refine LeO.bind ?_ (fun _ => ?_))
   | exact ih0 _ _ _ _ _ _
   | exact ih1 _ _ _ _ _ _ _
   | exact ih2 _ _ _ _
   | exact block_Sorted.mono _ _
   | exact palinodelaw15_entries.mono _ _ _
   | exact LeO.none _
   | refine LeO.ite ?_ ?_
   | refine LeO.bind ?_ (fun _ => ?_)
  ·
   intro y0 y1 y2 y3 y4 y5 y6
   unfold palinodelaw15_MergeKept.j1
   repeat' first
   | (with_reducible exact ih0 _ _ _ _ _ _)
   | (with_reducible exact ih1 _ _ _ _ _ _ _)
   | (with_reducible exact ih2 _ _ _ _)
   | (with_reducible exact block_Sorted.mono _ _)
   | (with_reducible exact palinodelaw15_entries.mono _ _ _)
   | (with_reducible exact LeO.refl _)
   | (with_reducible exact LeO.none _)
   | (with_reducible refine LeO.ite ?_ ?_)
   | (with_reducible refine LeO.bind ?_ (fun _ => ?_))
   | exact ih0 _ _ _ _ _ _
   | exact ih1 _ _ _ _ _ _ _
   | exact ih2 _ _ _ _
   | exact block_Sorted.mono _ _
   | exact palinodelaw15_entries.mono _ _ _
   | exact LeO.none _
   | refine LeO.ite ?_ ?_
   | refine LeO.bind ?_ (fun _ => ?_)
  ·
   intro y0 y1 y2 y3
   unfold palinodelaw15_MergeKept.j2
   repeat' first
   | (with_reducible exact ih0 _ _ _ _ _ _)
   | (with_reducible exact ih1 _ _ _ _ _ _ _)
   | (with_reducible exact ih2 _ _ _ _)
   | (with_reducible exact block_Sorted.mono _ _)
   | (with_reducible exact palinodelaw15_entries.mono _ _ _)
   | (with_reducible exact LeO.refl _)
   | (with_reducible exact LeO.none _)
   | (with_reducible refine LeO.ite ?_ ?_)
   | (with_reducible refine LeO.bind ?_ (fun _ => ?_))
   | exact ih0 _ _ _ _ _ _
   | exact ih1 _ _ _ _ _ _ _
   | exact ih2 _ _ _ _
   | exact block_Sorted.mono _ _
   | exact palinodelaw15_entries.mono _ _ _
   | exact LeO.none _
   | refine LeO.ite ?_ ?_
   | refine LeO.bind ?_ (fun _ => ?_)
theorem palinodelaw15_MergeKept.mono : ∀ a0 a1 a2 a3 k, LeO (palinodelaw15_MergeKept.f k a0 a1 a2 a3) (palinodelaw15_MergeKept.f (k + 1) a0 a1 a2 a3) := by
 intro a0 a1 a2 a3 k
 obtain ⟨ih0, ih1, ih2⟩ := palinodelaw15_MergeKept.mono_l k
 unfold palinodelaw15_MergeKept.f
 repeat' first
   | (with_reducible exact ih0 _ _ _ _ _ _)
   | (with_reducible exact ih1 _ _ _ _ _ _ _)
   | (with_reducible exact ih2 _ _ _ _)
   | (with_reducible exact block_Sorted.mono _ _)
   | (with_reducible exact palinodelaw15_entries.mono _ _ _)
   | (with_reducible exact LeO.refl _)
   | (with_reducible exact LeO.none _)
   | (with_reducible refine LeO.ite ?_ ?_)
   | (with_reducible refine LeO.bind ?_ (fun _ => ?_))
   | exact ih0 _ _ _ _ _ _
   | exact ih1 _ _ _ _ _ _ _
   | exact ih2 _ _ _ _
   | exact block_Sorted.mono _ _
   | exact palinodelaw15_entries.mono _ _ _
   | exact LeO.none _
   | refine LeO.ite ?_ ?_
   | refine LeO.bind ?_ (fun _ => ?_)
set_option maxHeartbeats 8000000 in
set_option maxRecDepth 100000 in
theorem palinodelaw15_MergeKept.calls (k : Nat) (A0 : Option Addr) (c0 : Nat) (l0 : List (S34)) (A1 : Option Addr) (c1 : Nat) (l1 : List Int) (a2 : Bool) (a3 : Int) (r : Bool) (w : World) (hr0 : Kd.C k34 w A0 l0.length l0) (hc0 : l0.length ≤ c0) (hr1 : Kd.C (Kd.int .i64) w A1 l1.length l1) (hc1 : l1.length ≤ c1) (h : palinodelaw15_MergeKept.f k l0 l1 a2 a3 = some r) (HEX_ : Aside0 (∀ r_, palinodelaw15_examples.f = some r_ → r_ = true)) (HRT_ : Aside0 (r = true) := by first | exact ⟨rfl⟩ | assumption) :
  Calls Try.prog 6 #[.slice A0 l0.length c0, .slice A1 l1.length c1, .bool a2, .int .i64 a3] w fun e w' => e = .returned (.bool r) ∧ Below w.heap.size w w' := by
 have hu28 := Try.underlying28
 have hu50 := Try.underlying50
 have HR0 := Aside0.mk hr0
 have HC0 := Aside0.mk hc0
 clear hr0 hc0
 have HR1 := Aside0.mk hr1
 have HC1 := Aside0.mk hc1
 clear hr1 hc1
 have HB := Aside0.mk (Below.refl w.heap.size w)
 have H : ((palinodelaw15_examples.f).bind fun t337 => (if 0 ≤ (mn (l0.length : Int) 80) then (if (mn (l0.length : Int) 80) ≤ (l0.length : Int) then ((some (l0.take ((mn (l0.length : Int) 80) : Int).toNat : List (S34))).bind fun y338 => ((merge_Fold.f y338 l1 a2).bind fun bt342 => (if bt342.2.isNone = true then (if a3 < 0 then (palinodelaw15_MergeKept.j0 k y338 l1 (wrap64 (-(wrap64 (a3 + 1)))) t337 bt342.1 9007199254740991) else (palinodelaw15_MergeKept.j0 k y338 l1 a3 t337 bt342.1 9007199254740991)) else (if t337 = true then ((block_Sorted.f k y338).bind fun t360 => (some (!t360))) else (some false))))) else (none)) else (none))) = some r := h
 clear h
 replace H := Option.bind_eq_some_iff.mp H
 obtain ⟨t337, A50, H⟩ := H
 replace H : (if 0 ≤ (mn (l0.length : Int) 80) then (if (mn (l0.length : Int) 80) ≤ (l0.length : Int) then ((some (l0.take ((mn (l0.length : Int) 80) : Int).toNat : List (S34))).bind fun y338 => ((merge_Fold.f y338 l1 a2).bind fun bt342 => (if bt342.2.isNone = true then (if a3 < 0 then (palinodelaw15_MergeKept.j0 k y338 l1 (wrap64 (-(wrap64 (a3 + 1)))) t337 bt342.1 9007199254740991) else (palinodelaw15_MergeKept.j0 k y338 l1 a3 t337 bt342.1 9007199254740991)) else (if t337 = true then ((block_Sorted.f k y338).bind fun t360 => (some (!t360))) else (some false))))) else (none)) else (none)) = some r := H
 have A5 := Aside0.mk A50
 have HTA5_ : Aside0 (t337 = true) := ⟨HEX_.out _ A50⟩
 clear A50
 obtain ⟨ji6, hji6⟩ : ∃ j_ : Int, (mn (l0.length : Int) 80) = j_ := ⟨_, rfl⟩
 replace H : (if 0 ≤ (ji6) then (if (ji6) ≤ (l0.length : Int) then ((some (l0.take ((ji6) : Int).toNat : List (S34))).bind fun y338 => ((merge_Fold.f y338 l1 a2).bind fun bt342 => (if bt342.2.isNone = true then (if a3 < 0 then (palinodelaw15_MergeKept.j0 k y338 l1 (wrap64 (-(wrap64 (a3 + 1)))) t337 bt342.1 9007199254740991) else (palinodelaw15_MergeKept.j0 k y338 l1 a3 t337 bt342.1 9007199254740991)) else (if t337 = true then ((block_Sorted.f k y338).bind fun t360 => (some (!t360))) else (some false))))) else (none)) else (none)) = some r := by first | (rw [hji6] at H; exact H) | (simp only [hji6] at H ⊢; exact H)
 (try rw [hji6] at A5)
 (try (have hji6h : ji6 ≤ 80 := by (rw [← hji6]; unfold mn; (repeat' split) <;> omega)))
 (try (have hji6g : ji6 ≤ 64 := by omega))
 (try (have hji6l : 0 ≤ ji6 := by (rw [← hji6]; unfold mn; (repeat' split) <;> omega)))
 (try (have hji6m : 0 ≤ ji6 := by omega))
 have hji6_ : (if 80 < (l0.length : Int) then 80 else (l0.length : Int)) = ji6 := hji6
 by_cases c7 : 0 ≤ (ji6)
 ·
  rw [if_pos c7] at H
  have c7b0 := eq_true c7
  have c7b1 : decide (0 ≤ (ji6)) = true := decide_eq_true c7
  clear c7
  by_cases c8 : (ji6) ≤ (l0.length : Int)
  ·
   rw [if_pos c8] at H
   have c8b0 := eq_true c8
   have c8b1 : decide ((ji6) ≤ (l0.length : Int)) = true := decide_eq_true c8
   clear c8
   obtain ⟨y338, hy338⟩ : ∃ y_ : List (S34), y_ = (l0.take ((ji6) : Int).toNat) := ⟨_, rfl⟩
   replace H : ((merge_Fold.f y338 l1 a2).bind fun bt342 => (if bt342.2.isNone = true then (if a3 < 0 then (palinodelaw15_MergeKept.j0 k y338 l1 (wrap64 (-(wrap64 (a3 + 1)))) t337 bt342.1 9007199254740991) else (palinodelaw15_MergeKept.j0 k y338 l1 a3 t337 bt342.1 9007199254740991)) else (if t337 = true then ((block_Sorted.f k y338).bind fun t360 => (some (!t360))) else (some false)))) = some r := by first | (rw [hy338]; with_reducible exact H) | (have H2_ := (Option.bind_some _ _).symm.trans H; rw [hy338]; with_reducible exact H2_) | (have H2_ := (Option.bind_some _ _).symm.trans H; with_reducible exact H2_) | with_reducible exact H | (rw [hy338]; exact H) | exact H
   have Ny338 := Aside0.mk hy338
   clear hy338
   replace H := Option.bind_eq_some_iff.mp H
   obtain ⟨⟨t342, t343⟩, A90, H⟩ := H
   replace H : (if t343.isNone = true then (if a3 < 0 then (palinodelaw15_MergeKept.j0 k y338 l1 (wrap64 (-(wrap64 (a3 + 1)))) t337 t342 9007199254740991) else (palinodelaw15_MergeKept.j0 k y338 l1 a3 t337 t342 9007199254740991)) else (if t337 = true then ((block_Sorted.f k y338).bind fun t360 => (some (!t360))) else (some false))) = some r := H
   have A9 := Aside0.mk A90
   clear A90
   rcases t343 with _ | q346
   ·
    have H1 : (if a3 < 0 then (palinodelaw15_MergeKept.j0 k y338 l1 (wrap64 (-(wrap64 (a3 + 1)))) t337 t342 9007199254740991) else (palinodelaw15_MergeKept.j0 k y338 l1 a3 t337 t342 9007199254740991)) = some r := by rw [if_pos (show (none : Option Int).isNone = true by rfl)] at H; exact H
    clear H
    have H := H1
    clear H1
    try simp only [errW_none, errW_some]
    have HC10 := Aside0.mk H
    clear H
    go_enter Try.func6, Try.ntmps6
    go_upto_if 40 with (first | ((with_reducible refine gate_callee (f := 10) rfl ?_); refine goesL_ (some 18) rfl rfl Try.func10 (by kernel_rfl) rfl #[] rfl (by (try simp only [List.map_toArray, List.map_cons, List.map_nil]); first | done | rfl | (simp only [List.length_drop, List.length_take]; rfl)) ?_; (with_reducible refine (palinodelaw15_examples.calls  t337 _ A5.out).mono ?_); rintro e w11 ⟨rfl, hb⟩; refine ⟨_, rfl, ?_⟩; have n0_ := Aside0.mk (Yv HB hb); clear HB; have HB := n0_; clear n0_; (try clear hb); (try clear hb2); (try clear hk); (try clear hi); have q12 : ((ji6) : Int) ≤ ((l0.length : Int) : Int) := of_decide_eq_true (by first | (with_reducible assumption) | assumption); obtain ⟨i012, hi012, _, hsz12, _⟩ := info_parts info34; have hroom12 : l0.length ≤ c0 := HC0.out; have hC12 : Kd.C k34 _ A0 l0.length l0 := HR0.out; have hcut12 := cut_to (P := Try.prog) 24 34 .i64 Try.underlying24 hi012 A0 l0.length c0 (ji6) (of_decide_eq_true (by first | (with_reducible assumption) | assumption)) q12 hroom12; have hr12 := Kd.C_take (m := ((ji6) : Int).toNat) hC12 (by omega); have hy12 : y338.length = ((ji6) : Int).toNat := (by rw [Ny338.out, List.length_take]; omega); rw [← Ny338.out] at hr12; rw [← hy12] at hcut12; have HR341 := Aside0.mk hr12; have HC341 := Aside0.mk (show y338.length ≤ c0 from by omega); clear hr12 hC12 hroom12 hi012 hsz12; have KY12 := Aside0.mk hy12; clear hy12; replace q12 := eq_true q12) | ((with_reducible refine gate_callee (f := 15) rfl ?_); refine goesL_ (some 28) rfl rfl Try.func15 (by kernel_rfl) rfl #[.slice A0 y338.length c0, .slice A1 l1.length c1, .bool a2] rfl (by (try simp only [List.map_toArray, List.map_cons, List.map_nil]); first | done | rfl | (simp only [List.length_drop, List.length_take]; rfl)) ?_; (with_reducible refine (merge_Fold.calls _ _ y338 _ _ l1 a2 t342 none _ ?side1 ?side2 ?side3 ?side4 A9.out).mono ?_); (case side1 => repeat (first | exact (Kd.C_below HR341.out HB.out) | (with_reducible refine Kd.C_alloc ?_ _) | (with_reducible refine Kd.C_drewN ?_ _) | (with_reducible refine Kd.C_drew ?_))); (case side2 => exact HC341.out); (case side3 => repeat (first | exact (Kd.C_below HR1.out HB.out) | (with_reducible refine Kd.C_alloc ?_ _) | (with_reducible refine Kd.C_drewN ?_ _) | (with_reducible refine Kd.C_drew ?_))); (case side4 => exact HC1.out); rintro e w13 ⟨v344, rfl, ho0, hb⟩; refine ⟨_, rfl, ?_⟩; have n0_ := Aside0.mk (Kd.R_lower ho0 (below_size (Yr HB))); have n1_ := Aside0.mk (Yv HB hb); clear HB; have HO345 := n0_; have HB := n1_; clear n0_ n1_; (try clear hb); (try clear hb2); (try clear hk); (try clear hi); (try clear ho0); (try simp only [errW_none, errW_some])))
    (try simp only [Act.put, List.setIfInBounds_toArray, List.set_cons_zero, List.set_cons_succ])
    go_cut [3] (fun v3 wc => ∃ (kq : Nat) (x3_9 : Int), v3 = .int .i64 x3_9 ∧ Aside0 (palinodelaw15_MergeKept.j0 kq y338 l1 x3_9 t337 t342 9007199254740991 = some r) ∧ Aside0 (kq ≤ k) ∧ Aside0 (Kd.R k34 34 wc w.heap.size (fun _ => True) v344 t342) ∧ Aside0 (Below w.heap.size w wc))
    case first =>
     have H := HC10.out
     clear HC10
     by_cases c14 : a3 < 0
     ·
      rw [if_pos c14] at H
      have c14b0 : decide (a3 < 0) = true := decide_eq_true c14
      clear c14
      (first | rw [c14b0] | (simp only [i64_w, i32_w]; rw [c14b0]) | skip)
      have H' := Aside0.mk H
      clear H
      go_wp2
      go_meet
      case rel => exact ⟨_, (wrap64 (-(wrap64 (a3 + 1)))), (by first | rfl | (simp; done) | (simp [*]; done)), H', ⟨by first | omega | exact Nat.le_refl _⟩, ⟨by (with_reducible repeat (first | apply Kd.R_alloc | apply Kd.R_drewN | apply Kd.R_drew)); exact HO345.out⟩, ⟨Yr HB⟩⟩
     ·
      rw [if_neg c14] at H
      have c14b0 : decide (a3 < 0) = false := decide_eq_false c14
      clear c14
      (first | rw [c14b0] | (simp only [i64_w, i32_w]; rw [c14b0]) | skip)
      have H' := Aside0.mk H
      clear H
      go_wp2
      go_meet
      case rel => exact ⟨_, (a3), (by first | rfl | (simp; done) | (simp [*]; done)), H', ⟨by first | omega | exact Nat.le_refl _⟩, ⟨by (with_reducible repeat (first | apply Kd.R_alloc | apply Kd.R_drewN | apply Kd.R_drew)); exact HO345.out⟩, ⟨Yr HB⟩⟩
    case rest =>
     clear HC10
     try clear c1
     try clear q1
     try clear p2
     try clear q3
     try clear c6
     try clear p6
     try clear c7
     try clear c7b0
     try clear c7b1
     try clear c8
     try clear c8b0
     try clear c8b1
     try clear c10
     try clear q12
     try clear c14
     try clear c14b0
     try clear q12
     try clear q346
     obtain ⟨kq, x3_9, rfl, HA, HJ9, HO_10, HB⟩ := hcut
     cases kq with
     | zero => exact absurd HA.out (by simp [palinodelaw15_MergeKept.j0])
     | succ kj9 =>
      have H := HA.out
      clear HA
      simp only [palinodelaw15_MergeKept.j0] at H
      have HC15 := Aside0.mk H
      clear H
      go_upto_region 9 with (fail)
      go_cut [51] (fun v51 wc => ∃ (kq : Nat) (x51_14 : Bool), v51 = .bool x51_14 ∧ Aside0 (palinodelaw15_MergeKept.j1 kq y338 l1 x3_9 t337 t342 9007199254740991 x51_14 = some r) ∧ Aside0 (kq ≤ kj9) ∧ Aside0 (Kd.R k34 34 wc w.heap.size (fun _ => True) v344 t342) ∧ Aside0 (Below w.heap.size w wc))
      case first =>
       have H := HC15.out
       clear HC15
       by_cases c16 : (l1.length : Int) > 0
       ·
        rw [if_pos c16] at H
        have c16b0 : decide (0 < (l1.length : Int)) = true := decide_eq_true c16
        have c16b1 : decide (0 < l1.length) = true := decide_eq_true (by omega)
        clear c16
        (first | rw [c16b0] | (simp only [i64_w, i32_w]; rw [c16b0]) | skip)
        have H' := Aside0.mk H
        clear H
        go_wp2
        go_meet
        case rel => exact ⟨_, (((Int.tmod x3_9 2) == 1)), (by first | rfl | (simp; done) | (simp [*]; done)), H', ⟨by have := HJ9.out; first | omega | exact Nat.le_refl _⟩, ⟨by (with_reducible repeat (first | apply Kd.R_alloc | apply Kd.R_drewN | apply Kd.R_drew)); exact HO_10.out⟩, ⟨Yr HB⟩⟩
       ·
        rw [if_neg c16] at H
        have c16b0 : decide (0 < (l1.length : Int)) = false := decide_eq_false c16
        have c16b1 : decide (0 < l1.length) = false := decide_eq_false (by omega)
        clear c16
        (first | rw [c16b0] | (simp only [i64_w, i32_w]; rw [c16b0]) | skip)
        have H' := Aside0.mk H
        clear H
        go_wp2
        go_meet
        case rel => exact ⟨_, (false), (by first | rfl | (simp; done) | (simp [*]; done)), H', ⟨by have := HJ9.out; first | omega | exact Nat.le_refl _⟩, ⟨by (with_reducible repeat (first | apply Kd.R_alloc | apply Kd.R_drewN | apply Kd.R_drew)); exact HO_10.out⟩, ⟨Yr HB⟩⟩
      case rest =>
       clear HC15
       try clear c1
       try clear q1
       try clear p2
       try clear q3
       try clear c6
       try clear p6
       try clear c7
       try clear c7b0
       try clear c7b1
       try clear c8
       try clear c8b0
       try clear c8b1
       try clear c10
       try clear q12
       try clear c14
       try clear c14b0
       try clear c15
       try clear c16
       try clear c16b0
       try clear c16b1
       try clear p2
       try clear p6
       try clear q1
       try clear q12
       try clear q3
       try clear q346
       obtain ⟨kq, x51_14, rfl, HA, HJ14, HO_10, HB⟩ := hcut
       cases kq with
       | zero => exact absurd HA.out (by simp [palinodelaw15_MergeKept.j1])
       | succ kj14 =>
        have H := HA.out
        clear HA
        simp only [palinodelaw15_MergeKept.j1] at H
        have HC17 := Aside0.mk H
        clear H
        go_upto_if 51 with (fail)
        go_cut [12] (fun v12 wc => ∃ (kq : Nat) (x12_16 : Int), v12 = .int .i64 x12_16 ∧ Aside0 (palinodelaw15_MergeKept.j2 kq y338 t337 t342 x12_16 = some r) ∧ Aside0 (kq ≤ kj14) ∧ Aside0 (Kd.R k34 34 wc w.heap.size (fun _ => True) v344 t342) ∧ Aside0 (Below w.heap.size w wc))
        case first =>
         have H := HC17.out
         clear HC17
         by_cases c18 : x51_14 = true
         ·
          subst c18
          have H1 : (if (l1.length : Int) = 0 then (none) else (if 0 ≤ (Int.tmod (wrap64 (Int.tdiv x3_9 2)) (l1.length : Int)) then (if (Int.tmod (wrap64 (Int.tdiv x3_9 2)) (l1.length : Int)) < (l1.length : Int) then (palinodelaw15_MergeKept.j2 kj14 y338 t337 t342 (rd l1 (Int.tmod (wrap64 (Int.tdiv x3_9 2)) (l1.length : Int)))) else (none)) else (none))) = some r := by rw [if_pos rfl] at H; exact H
          clear H
          have H := H1
          clear H1
          by_cases c19 : (l1.length : Int) = 0
          ·
           rw [if_pos c19] at H
           exact absurd H (by simp)
          ·
           rw [if_neg c19] at H
           have c19b0 : ((l1.length : Int) == 0) = false := beq_eq_false_iff_ne.mpr c19
           have c19b1 : ((l1.length : Int) != 0) = true := bne_iff_ne.mpr c19
           have c19b2 : ¬ (l1 = []) := fun h_ => c19 (by rw [h_]; rfl)
           (first | rw [c19b0] | (simp only [i64_w, i32_w]; rw [c19b0]) | skip)
           obtain ⟨ji20, hji20⟩ : ∃ j_ : Int, (Int.tmod (wrap64 (Int.tdiv x3_9 2)) (l1.length : Int)) = j_ := ⟨_, rfl⟩
           replace H : (if 0 ≤ (ji20) then (if (ji20) < (l1.length : Int) then (palinodelaw15_MergeKept.j2 kj14 y338 t337 t342 (rd l1 (ji20))) else (none)) else (none)) = some r := by first | (rw [hji20] at H; exact H) | (simp only [hji20] at H ⊢; exact H)
           by_cases c21 : 0 ≤ (ji20)
           ·
            rw [if_pos c21] at H
            have c21b0 : decide (0 ≤ (ji20)) = true := decide_eq_true c21
            clear c21
            by_cases c22 : (ji20) < (l1.length : Int)
            ·
             rw [if_pos c22] at H
             have c22b0 : decide ((ji20) < (l1.length : Int)) = true := decide_eq_true c22
             clear c22
             have H' := Aside0.mk H
             clear H
             have p347 : 0 ≤ ((ji20) : Int) := of_decide_eq_true (by first | (with_reducible assumption) | assumption)
             have q347 : (ji20) < (l1.length : Int) := of_decide_eq_true (by first | (with_reducible assumption) | assumption)
             obtain ⟨ad347, e347, hx347_0⟩ := Kd.at_int HR1.out (ji20) p347 q347
             cases e347
             replace hx347_0 := (HB.out.cell (World.block_lt_of_cell? w _ hx347_0)).trans hx347_0
             replace p347 := eq_true p347
             replace q347 := eq_true q347
             go_wp2
             go_meet
             case rel => exact ⟨_, (rd l1 (ji20)), (by first | rfl | (simp; done) | (simp only [← hji20] <;> (first | rfl | simp)) | (simp [*]; done)), H', ⟨by have := HJ9.out; have := HJ14.out; first | omega | exact Nat.le_refl _⟩, ⟨by (with_reducible repeat (first | apply Kd.R_alloc | apply Kd.R_drewN | apply Kd.R_drew)); exact HO_10.out⟩, ⟨Yr HB⟩⟩
            ·
             rw [if_neg c22] at H
             exact absurd H (by simp)
           ·
            rw [if_neg c21] at H
            exact absurd H (by simp)
         ·
          replace c18 := Bool.eq_false_iff.mpr c18
          subst c18
          have H1 : (palinodelaw15_MergeKept.j2 kj14 y338 t337 t342 9007199254740991) = some r := by rw [if_neg (show ¬ (false = true) by decide)] at H; exact H
          clear H
          have H := H1
          clear H1
          have H' := Aside0.mk H
          clear H
          go_wp2
          go_meet
          case rel => exact ⟨_, (9007199254740991), (by first | rfl | (simp; done) | (simp [*]; done)), H', ⟨by have := HJ9.out; have := HJ14.out; first | omega | exact Nat.le_refl _⟩, ⟨by (with_reducible repeat (first | apply Kd.R_alloc | apply Kd.R_drewN | apply Kd.R_drew)); exact HO_10.out⟩, ⟨Yr HB⟩⟩
        case rest =>
         clear HC17
         try clear c1
         try clear q1
         try clear c2
         try clear p2
         try clear p3
         try clear q3
         try clear hx3
         try clear c6
         try clear p6
         try clear c7
         try clear c7b0
         try clear c7b1
         try clear c8
         try clear c8b0
         try clear c8b1
         try clear c10
         try clear q12
         try clear c14
         try clear c14b0
         try clear c15
         try clear c16
         try clear c16b0
         try clear c16b1
         try clear c18
         try clear c19
         try clear c19b0
         try clear c19b1
         try clear c19b2
         try clear c21
         try clear c21b0
         try clear c22
         try clear c22b0
         try clear hx347_0
         try clear p2
         try clear p347
         try clear p6
         try clear q1
         try clear q12
         try clear q3
         try clear q346
         try clear q347
         obtain ⟨kq, x12_16, rfl, HA, HJ16, HO_10, HB⟩ := hcut
         cases kq with
         | zero => exact absurd HA.out (by simp [palinodelaw15_MergeKept.j2])
         | succ kj16 =>
          have H := HA.out
          clear HA
          simp only [palinodelaw15_MergeKept.j2] at H
          replace H := Option.bind_eq_some_iff.mp H
          obtain ⟨⟨t348, t349⟩, A230, H⟩ := H
          replace H : ((merge_See.f t342 x12_16).bind fun bt352 => ((palinodelaw15_entries.f kj16 t348 bt352.1).bind fun t356 => (if t337 = true then (if t349.isNone = true then (if bt352.2.isNone = true then (if t356 = true then ((block_Sorted.f kj16 t342).bind fun t359 => (if t359 = true then (some (decide ((t342.length : Int) ≤ (y338.length : Int)))) else (some false))) else (some false)) else (some false)) else (some false)) else (some false)))) = some r := H
          have A23 := Aside0.mk A230
          clear A230
          replace H := Option.bind_eq_some_iff.mp H
          obtain ⟨⟨t352, t353⟩, A240, H⟩ := H
          replace H : ((palinodelaw15_entries.f kj16 t348 t352).bind fun t356 => (if t337 = true then (if t349.isNone = true then (if t353.isNone = true then (if t356 = true then ((block_Sorted.f kj16 t342).bind fun t359 => (if t359 = true then (some (decide ((t342.length : Int) ≤ (y338.length : Int)))) else (some false))) else (some false)) else (some false)) else (some false)) else (some false))) = some r := H
          have A24 := Aside0.mk A240
          clear A240
          replace H := Option.bind_eq_some_iff.mp H
          obtain ⟨t356, A250, H⟩ := H
          replace H : (if t337 = true then (if t349.isNone = true then (if t353.isNone = true then (if t356 = true then ((block_Sorted.f kj16 t342).bind fun t359 => (if t359 = true then (some (decide ((t342.length : Int) ≤ (y338.length : Int)))) else (some false))) else (some false)) else (some false)) else (some false)) else (some false)) = some r := H
          have A25 := Aside0.mk A250
          clear A250
          by_cases c26 : t337 = true
          ·
           subst c26
           have H1 : (if t349.isNone = true then (if t353.isNone = true then (if t356 = true then ((block_Sorted.f kj16 t342).bind fun t359 => (if t359 = true then (some (decide ((t342.length : Int) ≤ (y338.length : Int)))) else (some false))) else (some false)) else (some false)) else (some false)) = some r := by rw [if_pos rfl] at H; exact H
           clear H
           have H := H1
           clear H1
           rcases t349 with _ | q357
           ·
            have H1 : (if t353.isNone = true then (if t356 = true then ((block_Sorted.f kj16 t342).bind fun t359 => (if t359 = true then (some (decide ((t342.length : Int) ≤ (y338.length : Int)))) else (some false))) else (some false)) else (some false)) = some r := by rw [if_pos (show (none : Option Int).isNone = true by rfl)] at H; exact H
            clear H
            have H := H1
            clear H1
            try simp only [errW_none, errW_some]
            rcases t353 with _ | q358
            ·
             have H1 : (if t356 = true then ((block_Sorted.f kj16 t342).bind fun t359 => (if t359 = true then (some (decide ((t342.length : Int) ≤ (y338.length : Int)))) else (some false))) else (some false)) = some r := by rw [if_pos (show (none : Option Int).isNone = true by rfl)] at H; exact H
             clear H
             have H := H1
             clear H1
             try simp only [errW_none, errW_some]
             by_cases c27 : t356 = true
             ·
              subst c27
              have H1 : ((block_Sorted.f kj16 t342).bind fun t359 => (if t359 = true then (some (decide ((t342.length : Int) ≤ (y338.length : Int)))) else (some false))) = some r := by rw [if_pos rfl] at H; exact H
              clear H
              have H := H1
              clear H1
              replace H := Option.bind_eq_some_iff.mp H
              obtain ⟨t359, A280, H⟩ := H
              replace H : (if t359 = true then (some (decide ((t342.length : Int) ≤ (y338.length : Int)))) else (some false)) = some r := H
              have A28 := Aside0.mk A280
              clear A280
              by_cases c29 : t359 = true
              ·
               subst c29
               have H1 : (some (decide ((t342.length : Int) ≤ (y338.length : Int)))) = some r := by rw [if_pos rfl] at H; exact H
               clear H
               have H := H1
               clear H1
               obtain rfl := Option.some.inj H
               go_wp2_with (first | ((with_reducible refine gate_callee (f := 17) rfl ?_); refine goesL_ (some 63) rfl rfl Try.func17 (by kernel_rfl) rfl #[.slice A0 y338.length c0, .int .i64 x12_16] rfl (by (try simp only [List.map_toArray, List.map_cons, List.map_nil]); first | done | rfl | (simp only [List.length_drop, List.length_take]; rfl)) ?_; (with_reducible refine (merge_See.calls _ _ y338 x12_16 t348 none _ ?side1 ?side2 A23.out).mono ?_); (case side1 => repeat (first | exact (Kd.C_below HR341.out HB.out) | (with_reducible refine Kd.C_alloc ?_ _) | (with_reducible refine Kd.C_drewN ?_ _) | (with_reducible refine Kd.C_drew ?_))); (case side2 => exact HC341.out); rintro e w30 ⟨v350, rfl, ho0, hb⟩; refine ⟨_, rfl, ?_⟩; have n0_ := Aside0.mk (Kd.R_elder' (by (with_reducible repeat (first | apply Kd.R_alloc | apply Kd.R_drewN | apply Kd.R_drew)); exact HO_10.out) (Kd.R_base ho0) hb); have n1_ := Aside0.mk (Kd.R_lower (Kd.R_new' ho0 (Kd.R_lt (by (with_reducible repeat (first | apply Kd.R_alloc | apply Kd.R_drewN | apply Kd.R_drew)); exact HO_10.out))) (below_size (Yr HB))); have n2_ := Aside0.mk (Yv HB hb); clear HO_10; clear HB; have HO_10 := n0_; have HO351 := n1_; have HB := n2_; clear n0_ n1_ n2_; (try clear hb); (try clear hb2); (try clear hk); (try clear hi); (try clear ho0); (try simp only [errW_none, errW_some]); obtain ⟨Ao31, co31, eo31⟩ := Kd.R_slice HO_10.out; subst eo31) | ((with_reducible refine gate_callee (f := 17) rfl ?_); refine goesL_ (some 69) rfl rfl Try.func17 (by kernel_rfl) rfl #[.slice Ao31 t342.length co31, .int .i64 x12_16] rfl (by (try simp only [List.map_toArray, List.map_cons, List.map_nil]); first | done | rfl | (simp only [List.length_drop, List.length_take]; rfl)) ?_; (with_reducible refine (merge_See.calls _ _ t342 x12_16 t352 none _ ?side1 ?side2 A24.out).mono ?_); (case side1 => repeat (first | exact (Kd.R_reads' HO_10.out).2.2 | (with_reducible refine Kd.C_alloc ?_ _) | (with_reducible refine Kd.C_drewN ?_ _) | (with_reducible refine Kd.C_drew ?_))); (case side2 => exact (Kd.R_reads' HO_10.out).2.1); rintro e w32 ⟨v354, rfl, ho0, hb⟩; refine ⟨_, rfl, ?_⟩; have n0_ := Aside0.mk (Kd.R_elder' (by (with_reducible repeat (first | apply Kd.R_alloc | apply Kd.R_drewN | apply Kd.R_drew)); exact HO_10.out) (Kd.R_base ho0) hb); have n1_ := Aside0.mk (Kd.R_elder' (by (with_reducible repeat (first | apply Kd.R_alloc | apply Kd.R_drewN | apply Kd.R_drew)); exact HO351.out) (Kd.R_base ho0) hb); have n2_ := Aside0.mk (Kd.R_lower (Kd.R_new' (Kd.R_new' ho0 (Kd.R_lt (by (with_reducible repeat (first | apply Kd.R_alloc | apply Kd.R_drewN | apply Kd.R_drew)); exact HO_10.out))) (Kd.R_lt (by (with_reducible repeat (first | apply Kd.R_alloc | apply Kd.R_drewN | apply Kd.R_drew)); exact HO351.out))) (below_size (Yr HB))); have n3_ := Aside0.mk (Yv HB hb); clear HO_10; clear HO351; clear HB; have HO_10 := n0_; have HO351 := n1_; have HO355 := n2_; have HB := n3_; clear n0_ n1_ n2_ n3_; (try clear hb); (try clear hb2); (try clear hk); (try clear hi); (try clear ho0); (try simp only [errW_none, errW_some]); obtain ⟨Ao33, co33, eo33⟩ := Kd.R_slice HO351.out; subst eo33; obtain ⟨Ao34, co34, eo34⟩ := Kd.R_slice HO355.out; subst eo34) | ((with_reducible refine gate_callee (f := 13) rfl ?_); refine goesL_ (some 74) rfl rfl Try.func13 (by kernel_rfl) rfl #[.slice Ao33 t348.length co33, .slice Ao34 t352.length co34] rfl (by (try simp only [List.map_toArray, List.map_cons, List.map_nil]); first | done | rfl | (simp only [List.length_drop, List.length_take]; rfl)) ?_; (with_reducible refine (palinodelaw15_entries.calls kj16 _ _ t348 _ _ t352 true _ ?side1 ?side2 ?side3 ?side4 A25.out).mono ?_); (case side1 => repeat (first | exact (Kd.R_reads' HO351.out).2.2 | (with_reducible refine Kd.C_alloc ?_ _) | (with_reducible refine Kd.C_drewN ?_ _) | (with_reducible refine Kd.C_drew ?_))); (case side2 => exact (Kd.R_reads' HO351.out).2.1); (case side3 => repeat (first | exact (Kd.R_reads' HO355.out).2.2 | (with_reducible refine Kd.C_alloc ?_ _) | (with_reducible refine Kd.C_drewN ?_ _) | (with_reducible refine Kd.C_drew ?_))); (case side4 => exact (Kd.R_reads' HO355.out).2.1); rintro e w' ⟨rfl, ⟨nd, rfl⟩⟩; refine ⟨_, rfl, ?_⟩) | (go_at_call 19; (with_reducible refine (block_Sorted.calls kj16 _ _ t342 true _ ?side1 ?side2 A28.out).mono ?_); (case side1 => repeat (first | exact (Kd.R_reads' HO_10.out).2.2 | (with_reducible refine Kd.C_alloc ?_ _) | (with_reducible refine Kd.C_drewN ?_ _) | (with_reducible refine Kd.C_drew ?_))); (case side2 => exact (Kd.R_reads' HO_10.out).2.1); rintro e w35 ⟨rfl, hb⟩; have n0_ := Aside0.mk (Kd.R_below (by (with_reducible repeat (first | apply Kd.R_alloc | apply Kd.R_drewN | apply Kd.R_drew)); exact HO_10.out) hb); have n1_ := Aside0.mk (Kd.R_below (by (with_reducible repeat (first | apply Kd.R_alloc | apply Kd.R_drewN | apply Kd.R_drew)); exact HO351.out) hb); have n2_ := Aside0.mk (Kd.R_below (by (with_reducible repeat (first | apply Kd.R_alloc | apply Kd.R_drewN | apply Kd.R_drew)); exact HO355.out) hb); have n3_ := Aside0.mk (Yv HB hb); clear HO_10; clear HO351; clear HO355; clear HB; have HO_10 := n0_; have HO351 := n1_; have HO355 := n2_; have HB := n3_; clear n0_ n1_ n2_ n3_; (try clear hb); (try clear hb2); (try clear hk); (try clear hi)))
               go_ret
               exact ⟨by first | rfl | (simp [errW_none, errW_some] <;> rfl) | (simp only [← hji6]; first | rfl | (simp [errW_none, errW_some] <;> rfl)) | (simp [*, errW_none, errW_some] <;> rfl), Yr HB⟩
              ·
               replace c29 := Bool.eq_false_iff.mpr c29
               subst c29
               have H1 : (some false) = some r := by rw [if_neg (show ¬ (false = true) by decide)] at H; exact H
               clear H
               have H := H1
               clear H1
               exact absurd ((Option.some.inj H).trans HRT_.out) (by decide)
             ·
              replace c27 := Bool.eq_false_iff.mpr c27
              subst c27
              have H1 : (some false) = some r := by rw [if_neg (show ¬ (false = true) by decide)] at H; exact H
              clear H
              have H := H1
              clear H1
              exact absurd ((Option.some.inj H).trans HRT_.out) (by decide)
            ·
             have H1 : (some false) = some r := by rw [if_neg (show ¬ (some q358).isNone = true by simp)] at H; exact H
             clear H
             have H := H1
             clear H1
             try simp only [errW_none, errW_some]
             exact absurd ((Option.some.inj H).trans HRT_.out) (by decide)
           ·
            have H1 : (some false) = some r := by rw [if_neg (show ¬ (some q357).isNone = true by simp)] at H; exact H
            clear H
            have H := H1
            clear H1
            try simp only [errW_none, errW_some]
            exact absurd ((Option.some.inj H).trans HRT_.out) (by decide)
          ·
           replace c26 := Bool.eq_false_iff.mpr c26
           subst c26
           have H1 : (some false) = some r := by rw [if_neg (show ¬ (false = true) by decide)] at H; exact H
           clear H
           have H := H1
           clear H1
           exact absurd ((Option.some.inj H).trans HRT_.out) (by decide)
   ·
    have H1 : (if t337 = true then ((block_Sorted.f k y338).bind fun t360 => (some (!t360))) else (some false)) = some r := by rw [if_neg (show ¬ (some q346).isNone = true by simp)] at H; exact H
    clear H
    have H := H1
    clear H1
    try simp only [errW_none, errW_some]
    by_cases c36 : t337 = true
    ·
     subst c36
     have H1 : ((block_Sorted.f k y338).bind fun t360 => (some (!t360))) = some r := by rw [if_pos rfl] at H; exact H
     clear H
     have H := H1
     clear H1
     replace H := Option.bind_eq_some_iff.mp H
     obtain ⟨t360, A370, H⟩ := H
     replace H : (some (!t360)) = some r := H
     have A37 := Aside0.mk A370
     clear A370
     obtain rfl := Option.some.inj H
     go_enter Try.func6, Try.ntmps6
     go_wp2_with (first | ((with_reducible refine gate_callee (f := 10) rfl ?_); refine goesL_ (some 18) rfl rfl Try.func10 (by kernel_rfl) rfl #[] rfl (by (try simp only [List.map_toArray, List.map_cons, List.map_nil]); first | done | rfl | (simp only [List.length_drop, List.length_take]; rfl)) ?_; (with_reducible refine (palinodelaw15_examples.calls  true _ A5.out).mono ?_); rintro e w38 ⟨rfl, hb⟩; refine ⟨_, rfl, ?_⟩; have n0_ := Aside0.mk (Yv HB hb); clear HB; have HB := n0_; clear n0_; (try clear hb); (try clear hb2); (try clear hk); (try clear hi); have q39 : ((ji6) : Int) ≤ ((l0.length : Int) : Int) := of_decide_eq_true (by first | (with_reducible assumption) | assumption); obtain ⟨i039, hi039, _, hsz39, _⟩ := info_parts info34; have hroom39 : l0.length ≤ c0 := HC0.out; have hC39 : Kd.C k34 _ A0 l0.length l0 := HR0.out; have hcut39 := cut_to (P := Try.prog) 24 34 .i64 Try.underlying24 hi039 A0 l0.length c0 (ji6) (of_decide_eq_true (by first | (with_reducible assumption) | assumption)) q39 hroom39; have hr39 := Kd.C_take (m := ((ji6) : Int).toNat) hC39 (by omega); have hy39 : y338.length = ((ji6) : Int).toNat := (by rw [Ny338.out, List.length_take]; omega); rw [← Ny338.out] at hr39; rw [← hy39] at hcut39; have HR341 := Aside0.mk hr39; have HC341 := Aside0.mk (show y338.length ≤ c0 from by omega); clear hr39 hC39 hroom39 hi039 hsz39; have KY39 := Aside0.mk hy39; clear hy39; replace q39 := eq_true q39) | ((with_reducible refine gate_callee (f := 15) rfl ?_); refine goesL_ (some 28) rfl rfl Try.func15 (by kernel_rfl) rfl #[.slice A0 y338.length c0, .slice A1 l1.length c1, .bool a2] rfl (by (try simp only [List.map_toArray, List.map_cons, List.map_nil]); first | done | rfl | (simp only [List.length_drop, List.length_take]; rfl)) ?_; (with_reducible refine (merge_Fold.calls _ _ y338 _ _ l1 a2 t342 (some q346) _ ?side1 ?side2 ?side3 ?side4 A9.out).mono ?_); (case side1 => repeat (first | exact (Kd.C_below HR341.out HB.out) | (with_reducible refine Kd.C_alloc ?_ _) | (with_reducible refine Kd.C_drewN ?_ _) | (with_reducible refine Kd.C_drew ?_))); (case side2 => exact HC341.out); (case side3 => repeat (first | exact (Kd.C_below HR1.out HB.out) | (with_reducible refine Kd.C_alloc ?_ _) | (with_reducible refine Kd.C_drewN ?_ _) | (with_reducible refine Kd.C_drew ?_))); (case side4 => exact HC1.out); rintro e w40 ⟨v344, rfl, ho0, hb⟩; refine ⟨_, rfl, ?_⟩; have n0_ := Aside0.mk (Kd.R_lower ho0 (below_size (Yr HB))); have n1_ := Aside0.mk (Yv HB hb); clear HB; have HO345 := n0_; have HB := n1_; clear n0_ n1_; (try clear hb); (try clear hb2); (try clear hk); (try clear hi); (try clear ho0); (try simp only [errW_none, errW_some])) | (go_at_call 19; (with_reducible refine (block_Sorted.calls k _ _ y338 t360 _ ?side1 ?side2 A37.out).mono ?_); (case side1 => repeat (first | exact (Kd.C_below HR341.out HB.out) | (with_reducible refine Kd.C_alloc ?_ _) | (with_reducible refine Kd.C_drewN ?_ _) | (with_reducible refine Kd.C_drew ?_))); (case side2 => exact HC341.out); rintro e w41 ⟨rfl, hb⟩; have n0_ := Aside0.mk (Kd.R_below (by (with_reducible repeat (first | apply Kd.R_alloc | apply Kd.R_drewN | apply Kd.R_drew)); exact HO345.out) hb); have n1_ := Aside0.mk (Yv HB hb); clear HO345; clear HB; have HO345 := n0_; have HB := n1_; clear n0_ n1_; (try clear hb); (try clear hb2); (try clear hk); (try clear hi)))
     go_ret
     exact ⟨by first | rfl | (simp [errW_none, errW_some] <;> rfl) | (simp only [← hji6]; first | rfl | (simp [errW_none, errW_some] <;> rfl)) | (simp [*, errW_none, errW_some] <;> rfl), Yr HB⟩
    ·
     replace c36 := Bool.eq_false_iff.mpr c36
     subst c36
     have H1 : (some false) = some r := by rw [if_neg (show ¬ (false = true) by decide)] at H; exact H
     clear H
     have H := H1
     clear H1
     exact absurd ((Option.some.inj H).trans HRT_.out) (by decide)
  ·
   rw [if_neg c8] at H
   exact absurd H (by simp)
 ·
  rw [if_neg c7] at H
  exact absurd H (by simp)

/-- THE ONE PURE STATEMENT of palinodelaw15_MergeKept. -/
def palinodelaw15_MergeKept.Pure : Prop := (∀ r_, palinodelaw15_examples.f = some r_ → r_ = true) ∧ ∀ (l0 : List (S34)) (l1 : List Int) (a2 : Bool) (a3 : Int), (l0.length ≤ maxLen ∧ l0.length * 48 ≤ 140737488351232 ∧ ∀ x_ ∈ l0, V34 x_) → (l1.length ≤ maxLen ∧ l1.length * 8 ≤ 140737488351232 ∧ ∀ x_ ∈ l1, (Lit.int .i64 x_).wf = true) → (Lit.int .i64 a3).wf = true → ∃ k, palinodelaw15_MergeKept.f k l0 l1 a2 a3 = some true
theorem palinodelaw15_MergeKept.walk (P : palinodelaw15_MergeKept.Pure) (A0 : Option Addr) (c0 : Nat) (l0 : List (S34)) (A1 : Option Addr) (c1 : Nat) (l1 : List Int) (a2 : Bool) (a3 : Int) (w : World) (hr0 : Kd.C k34 w A0 l0.length l0) (hc0 : l0.length ≤ c0) (v0 : (l0.length ≤ maxLen ∧ l0.length * 48 ≤ 140737488351232 ∧ ∀ x_ ∈ l0, V34 x_)) (hr1 : Kd.C (Kd.int .i64) w A1 l1.length l1) (hc1 : l1.length ≤ c1) (v1 : (l1.length ≤ maxLen ∧ l1.length * 8 ≤ 140737488351232 ∧ ∀ x_ ∈ l1, (Lit.int .i64 x_).wf = true)) (v3 : (Lit.int .i64 a3).wf = true) :
  Calls Try.prog 6 #[.slice A0 l0.length c0, .slice A1 l1.length c1, .bool a2, .int .i64 a3] w fun e w' => e = .returned (.bool true) ∧ Below w.heap.size w w' := by
 obtain ⟨k, h⟩ := P.2 l0 l1 a2 a3 v0 v1 v3
 refine (palinodelaw15_MergeKept.calls k A0 c0 l0 A1 c1 l1 a2 a3 true w hr0 hc0 hr1 hc1 h ⟨P.1⟩).mono ?_
 rintro e w' ⟨rfl, hd⟩
 exact ⟨rfl, hd⟩

end Go.Proofs.Yteljlfodjbgejaa.Print
