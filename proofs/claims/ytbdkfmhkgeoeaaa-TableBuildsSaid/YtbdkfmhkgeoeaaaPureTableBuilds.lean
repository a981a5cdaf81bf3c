/- Any entries are built to the bytes that the chapter says, or refused: for all arguments that the row lets in. -/
import Derived.Test.YtbdkfmhkgeoeaaaTabRefB
import Derived.Test.YtbdkfmhkgeoeaaaTabC
namespace Go.Proofs.Ytbdkfmhkgeoeaaa.Pure
open Go.RowKit Go.Proofs.Ytbdkfmhkgeoeaaa.Print Go.Proofs.YtbdkfmhkgeoeaaaX Go.Proofs.YtbdkfmhkgeoeaaaW.PrintWords Go.Proofs.YtbdkfmhkgeoeaaaW.PrintLast Go.Proofs.YtbdkfmhkgeoeaaaW.PrintMore
set_option linter.unusedVariables false
set_option linter.unusedSimpArgs false

theorem refbuild_calls (A0 : Option Addr) (c0 : Nat) (l : List Ent) (m q : Int) (w : World) (hr0 : Kd.C k36 w A0 l.length l) (hc0 : l.length ≤ c0) (hl : l.length ≤ 400) :
    Calls Try.prog 10 #[.slice A0 l.length c0, .int .i64 m, .int .i64 q] w fun e w' => e = .returned (.tuple #[.string (buildR l m q).1, .int .i64 ((buildR l m q).2.getD 0)]) ∧ Below w.heap.size w w' := by
  by_cases hb : m < 1 ∨ 50 < m ∨ q < 1 ∨ 20 < q ∨ l.length = 0 ∨ sortedB l = false
  · have e : buildR l m q = (⟨#[]⟩, some 1) := by
      unfold buildR
      by_cases h1 : m < 1 ∨ 50 < m ∨ q < 1 ∨ 20 < q
      · rw [if_pos h1]
      · rw [if_neg h1, if_pos (by rcases hb with h | h | h | h | h <;> first | exact h | (exfalso; omega))]
    rw [e]
    exact refbuild_no A0 c0 l m q w hr0 hc0 hl hb
  · have hs : sortedB l = true := by
      cases h : sortedB l with
      | true => rfl
      | false => exact absurd (.inr (.inr (.inr (.inr (.inr h))))) hb
    obtain ⟨mn, rfl⟩ := Int.eq_ofNat_of_zero_le (show 0 ≤ m by omega)
    obtain ⟨qn, rfl⟩ := Int.eq_ofNat_of_zero_le (show 0 ≤ q by omega)
    rw [buildR_yes l mn qn (by omega) (by omega) (by omega) (by omega) hs (by omega), Int.toNat_natCast, Int.toNat_natCast]
    exact refbuild_yes A0 c0 l mn qn w hr0 hc0 hl (by omega) (by omega) (by omega) (by omega) (by omega) hs
theorem is_zero (w : World) : Calls Try.prog 11 #[.nilIface, .int .i64 0] w fun e w' => e = .returned (.bool true) ∧ Below w.heap.size w w' :=
  (palinodelaw13_is.calls none 0 true w (by unfold palinodelaw13_is.f; rw [if_pos rfl]; rfl)).mono (fun e w' hh => ⟨hh.1, hh.2.below⟩)
theorem is_of (l : List Ent) (m q : Int) (w : World) : Calls Try.prog 11 #[errW (buildR l m q).2, .int .i64 ((buildR l m q).2.getD 0)] w fun e w' => e = .returned (.bool true) ∧ Below w.heap.size w w' := by
  have h : (buildR l m q).2 = none ∨ (buildR l m q).2 = some 1 := by
    unfold buildR
    split
    · exact .inr rfl
    · split
      · exact .inr rfl
      · exact .inl rfl
  rcases h with h | h
  · rw [h]
    exact is_zero w
  · rw [h]
    exact is_calls (some 1) 1 (by decide) w
set_option maxHeartbeats 4000000 in
set_option maxRecDepth 100000 in
theorem tableBuildsWalk (A0 : Option Addr) (c0 : Nat) (l0 : List Ent) (a1 a2 : Int) (w : World) (hr0 : Kd.C k36 w A0 l0.length l0) (hc0 : l0.length ≤ c0)
    (v0 : l0.length ≤ maxLen ∧ l0.length * 48 ≤ 140737488351232 ∧ ∀ x ∈ l0, V36 x) (v1 : (Lit.int .i64 a1).wf = true) (v2 : (Lit.int .i64 a2).wf = true) :
    Calls Try.prog 3 #[.slice A0 l0.length c0, .int .i64 a1, .int .i64 a2] w fun e w' => e = .returned (.bool true) ∧ Below w.heap.size w w' := by
  have hu25 := Try.underlying25
  have hu48 := Try.underlying48
  have hex := examples_calls w
  obtain ⟨d, hd⟩ : ∃ d, min l0.length 400 = d := ⟨_, rfl⟩
  have hdl : d ≤ l0.length ∧ d ≤ 400 := by omega
  have hmin : min (l0.length : Int) 400 = (d : Int) := by omega
  have hmn : (if (400 : Int) < (l0.length : Int) then (400 : Int) else (l0.length : Int)) = (d : Int) := by split <;> omega
  have hCd := Kd.C_take hr0 hdl.1
  have hld : (l0.take d).length = d := by rw [List.length_take]; omega
  have hcd : d ≤ c0 := by omega
  rw [hld] at hCd
  generalize l0.take d = l at hCd hld
  have hL0 := v0.2.1
  have hl0z : d ≤ l0.length := hdl.1
  have hd2 : d ≤ 400 := hdl.2
  clear hd hdl hr0 v0
  go_enter Try.func3, Try.ntmps3
  go_upto_region 3 with (go_at_call 8; refine hex.mono ?_; clear hex; rintro e w1 ⟨rfl, b1⟩)
  have hCd1 := Kd.C_below hCd b1
  clear hmn hmin
  have hA := build_calls A0 c0 l a1 a2 w1 (by rw [hld]; exact hCd1) (by rw [hld]; exact hcd) (by omega)
  have hR := fun W (h : Below w.heap.size w W) => refbuild_calls A0 c0 l a1 a2 W (by rw [hld]; exact Kd.C_below hCd h) (by rw [hld]; exact hcd) (by omega)
  have hI := is_of l a1 a2
  rw [hld] at hA hR
  generalize (buildR l a1 a2).1 = bs at hA hR
  generalize hE : (buildR l a1 a2).2.getD 0 = en at hR hI
  generalize errW (buildR l a1 a2).2 = ew at hA hI
  clear hE
  go_wp2_with (first
    | (go_at_call 9; refine hA.mono ?_; clear hA; rintro e w2 ⟨rfl, b2⟩; have hw2 := b1.trans (b2.mono b1.size); replace hR := hR w2 hw2)
    | (go_at_call 10; refine hR.mono ?_; clear hR; rintro e w3 ⟨rfl, b3⟩; have hw3 := hw2.trans (b3.mono hw2.size))
    | (go_at_call 11; refine (hI _).mono ?_; clear hI; rintro e w4 ⟨rfl, b4⟩))
  go_ret
  exact ⟨rfl, hw3.trans (b4.mono hw3.size)⟩
end Go.Proofs.Ytbdkfmhkgeoeaaa.Pure
