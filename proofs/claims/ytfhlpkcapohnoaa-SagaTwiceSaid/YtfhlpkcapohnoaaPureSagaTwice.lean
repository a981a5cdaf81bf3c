/- A reply that was taken, given once more, is not taken, unless the command is tried again: for all arguments that the row lets in. -/
import Derived.Test.YtfhlpkcapohnoaaSagaNext
import Derived.Test.YtfhlpkcapohnoaaPrint15
namespace Go.Proofs.Ytfhlpkcapohnoaa.Pure
open Go.RowKit Go.Proofs.Ytfhlpkcapohnoaa.Print Go.Proofs.YtfhlpkcapohnoaaX Go.Proofs.YtfhlpkcapohnoaaW.PrintWords
set_option linter.unusedVariables false
set_option linter.unusedSimpArgs false

theorem twice_j0 (l : List S53) (nm id df cid : ByteArray) (st at_ tr due : Int) (out : Bool) (what now : Int) (yst yat ytr ydue : Int) (yout : Bool) (k : Nat) (c2 : Bool)
    (hc2 : c2 = true ↔ (yst = 1 ∨ yst = 2) ∧ at_ = yat ∧ st = yst) (h2 : saga_Reply.f k nm l id df yst yat ytr ydue yout at_ st what now = some (replyR c2 l id df yst yat ytr ydue yout what now))
    (hst : st = 1 ∨ st = 2) (hw : what = 1 ∨ what = 2 ∨ what = 3) (hsame : (yst = 1 ∨ yst = 2) → yat = at_ → yst = st → ytr = wrap64 (tr + 1)) :
    palinodelaw19_SagaTwice.j0 (k + 1) what now true false nm l id df st at_ tr due out cid at_ st tr id df yst yat ytr ydue yout = some true := by
  obtain ⟨z, hz⟩ := nextX_some (l := l) (id := id) (df := df) (st := yst) (at_ := yat) (tr := ytr) (now := now) hw
  simp only [palinodelaw19_SagaTwice.j0]
  rw [if_neg (by decide), command_eq, h2]
  simp only [Option.bind_some]
  by_cases hyl : yst = 1 ∨ yst = 2
  · rw [if_pos hyl]
    simp only [if_true]
    by_cases e1 : yat = at_
    · by_cases e2 : yst = st
      · have : c2 = true := hc2.2 ⟨hyl, e1.symm, e2.symm⟩
        subst this
        have ht := hsame hyl e1 e2
        clear h2 hsame hc2
        subst e1 e2
        rw [replyR_some hz]
        simp [flat, ht]
      · have : c2 = false := by
          cases c2 with
          | false => rfl
          | true => exact absurd (hc2.1 rfl).2.2.symm e2
        subst this
        clear h2 hsame hc2
        rw [replyR_false]
        simp [e1, e2]
    · have : c2 = false := by
        cases c2 with
        | false => rfl
        | true => exact absurd (hc2.1 rfl).2.1.symm e1
      subst this
      clear h2 hsame hc2
      rw [replyR_false]
      simp [e1]
  · have : c2 = false := by
      cases c2 with
      | false => rfl
      | true => exact absurd (hc2.1 rfl).1 hyl
    subst this
    clear h2 hsame hc2
    rw [if_neg hyl, replyR_false]
    simp

theorem SagaTwice : palinodelaw19_SagaTwice.Pure := by
  refine ⟨examples_true, ?_⟩
  intro nm l id df st at_ tr due out what now v1 v2 v3 v4 v5 v6 v7 v8 v9 v10
  obtain ⟨K0, h0⟩ := examples_ev
  have hl : l.length ≤ 140737488351232 := by have := v2.2.1; omega
  by_cases hL : ¬ (st = 1 ∨ st = 2)
  · obtain ⟨c, hc, K1, h1⟩ := reply_ev nm l id df st at_ tr due out 0 0 what now v1 hl v3
    have hcf : c = false := by
      cases c with
      | false => rfl
      | true => exact absurd (hc.1 rfl).1 hL
    subst hcf
    refine ⟨K0 + K1 + 1, ?_⟩
    unfold palinodelaw19_SagaTwice.f
    rw [h0 _ (by omega), command_eq, if_neg hL]
    simp only [Option.bind_some]
    rw [h1 _ (by omega), replyR_false]
    simp [palinodelaw19_SagaTwice.j0]
  have hL := Classical.not_not.1 hL
  obtain ⟨c, hc, K1, h1⟩ := reply_ev nm l id df st at_ tr due out at_ st what now v1 hl v3
  rcases replyR_cases c l id df st at_ tr due out what now with hr | ⟨hct, y, hy, hr⟩
  · refine ⟨K0 + K1 + 3, ?_⟩
    unfold palinodelaw19_SagaTwice.f
    rw [h0 _ (by omega), command_eq, if_pos hL]
    simp only [Option.bind_some]
    rw [h1 _ (by omega), hr]
    simp [palinodelaw19_SagaTwice.j0]
  · have hcc := hc.1 hct
    obtain ⟨q1, q2, q3, q4, q5, q6, q7⟩ := hcc.bounds
    have h6 := q1.six
    obtain ⟨z1, z2, _, _⟩ := q1.at at_ q2 q3
    obtain ⟨yid, ydf, yst, yat, ytr, ydue, yout⟩ := y
    obtain ⟨hyr, hyi, hyd⟩ := next_right hcc hy
    simp only at hyr hyi hyd
    subst hyi hyd
    obtain ⟨c2, hc2, K2, h2⟩ := reply_ev nm l yid ydf yst yat ytr ydue yout at_ st what now v1 hl v3
    refine ⟨K0 + K1 + K2 + 1, ?_⟩
    unfold palinodelaw19_SagaTwice.f
    rw [h0 _ (by omega), command_eq, if_pos hL]
    simp only [Option.bind_some]
    rw [h1 _ (by omega), hr]
    simp only [flat, Option.bind_some, if_true, Bool.not_true]
    refine twice_j0 l nm yid ydf yid st at_ tr due out what now yst yat ytr ydue yout (K0 + K1 + K2) c2 ?_ (h2 _ (by omega)) hL (nextX_what hy) ?_
    · rw [hc2]
      exact ⟨fun h => ⟨h.1, h.2.2.1, h.2.2.2.1⟩, fun h => ⟨h.1, hyr, h.2.1, h.2.2, q6, q7⟩⟩
    · intro hyl e1 e2
      rw [wrap_of _ (by omega) (by omega)]
      rcases nextX_cases hL hy with ⟨_, _, _, hy2⟩ | ⟨_, _, _, hy2⟩ | ⟨hw, hy2⟩ | ⟨_, _, hy2⟩ | ⟨_, s1, _, hy2⟩ | ⟨_, _, _, hy2⟩
      · simp only [finX, Prod.mk.injEq] at hy2
        omega
      · simp only [goX, Prod.mk.injEq] at hy2
        omega
      · unfold backX at hy2
        by_cases e : at_ = 0
        · rw [if_pos e] at hy2
          simp only [finX, Prod.mk.injEq] at hy2
          omega
        · rw [if_neg e] at hy2
          simp only [goX, Prod.mk.injEq] at hy2
          omega
      · simp only [goX, Prod.mk.injEq] at hy2
        omega
      · simp only [goX, Prod.mk.injEq] at hy2
        omega
      · simp only [finX, Prod.mk.injEq] at hy2
        omega

end Go.Proofs.Ytfhlpkcapohnoaa.Pure
