/- What goes on waits from then on as long as its step may take, and expires just from then on: for all arguments that the row lets in. -/
import Derived.Test.YtfhlpkcapohnoaaSagaNext
import Derived.Test.YtfhlpkcapohnoaaPrint18
namespace Go.Proofs.Ytfhlpkcapohnoaa.Pure
open Go.RowKit Go.Proofs.Ytfhlpkcapohnoaa.Print Go.Proofs.YtfhlpkcapohnoaaX Go.Proofs.YtfhlpkcapohnoaaW.PrintWords
set_option linter.unusedVariables false
set_option linter.unusedSimpArgs false

theorem SagaDue : palinodelaw19_SagaDue.Pure := by
  refine ⟨examples_true, ?_⟩
  intro nm l id df st at_ tr due out what now later v1 v2 v3 v4 v5 v6 v7 v8 v9 v10 v11
  obtain ⟨K0, h0⟩ := examples_ev
  have hl : l.length ≤ 140737488351232 := by have := v2.2.1; omega
  by_cases hL : ¬ (st = 1 ∨ st = 2)
  · obtain ⟨c, hc, K1, h1⟩ := reply_ev nm l id df st at_ tr due out 0 0 what now v1 hl v3
    have hcf : c = false := by
      cases c with
      | false => rfl
      | true => exact absurd (hc.1 rfl).1 hL
    subst hcf
    refine ⟨K0 + K1 + 1, ?_⟩
    unfold palinodelaw19_SagaDue.f
    rw [h0 _ (by omega), command_eq, if_neg hL]
    simp only [Option.bind_some]
    rw [h1 _ (by omega), replyR_false]
    simp [palinodelaw19_SagaDue.j0]
  have hL := Classical.not_not.1 hL
  obtain ⟨c, hc, K1, h1⟩ := reply_ev nm l id df st at_ tr due out at_ st what now v1 hl v3
  rcases replyR_cases c l id df st at_ tr due out what now with hr | ⟨hct, y, hy, hr⟩
  · refine ⟨K0 + K1 + 3, ?_⟩
    unfold palinodelaw19_SagaDue.f
    rw [h0 _ (by omega), command_eq, if_pos hL]
    simp only [Option.bind_some]
    rw [h1 _ (by omega), hr]
    simp [palinodelaw19_SagaDue.j0]
  · have hcc := hc.1 hct
    obtain ⟨q1, q2, q3, q4, q5, q6, q7⟩ := hcc.bounds
    obtain ⟨yid, ydf, yst, yat, ytr, ydue, yout⟩ := y
    obtain ⟨hyr, hyi, _⟩ := next_right hcc hy
    simp only at hyr hyi
    subst hyi
    by_cases hyl : ¬ (yst = 1 ∨ yst = 2)
    · refine ⟨K0 + K1 + 3, ?_⟩
      unfold palinodelaw19_SagaDue.f
      rw [h0 _ (by omega), command_eq, if_pos hL]
      simp only [Option.bind_some]
      rw [h1 _ (by omega), hr]
      simp only [flat, Option.bind_some, if_true, live_eq, hyl, decide_false, Bool.not_false]
      simp [palinodelaw19_SagaDue.j0]
    have hyl := Classical.not_not.1 hyl
    obtain ⟨hdue, hout⟩ := next_live hL hy hyl
    simp only at hdue hout
    have hyr2 := hyr.2.2.2
    rw [if_pos hyl] at hyr2
    obtain ⟨z1, z2, z3, z4⟩ := q1.at yat hyr2.1 hyr2.2.1
    obtain ⟨c2, hc2, K2, h2⟩ := expire_ev nm l yid ydf yst yat ytr ydue yout later v1 hl v3
    refine ⟨K0 + K1 + K2 + 3, ?_⟩
    unfold palinodelaw19_SagaDue.f
    rw [h0 _ (by omega), command_eq, if_pos hL]
    simp only [Option.bind_some]
    rw [h1 _ (by omega), hr]
    simp only [flat, Option.bind_some, if_true, live_eq, hyl, decide_true, Bool.not_true]
    simp only [palinodelaw19_SagaDue.j0, command_eq, hyl, if_true]
    rw [if_neg (by simp)]
    simp only [Option.bind_some]
    rw [if_neg (by omega), if_neg (by omega), if_pos hyr2.1, if_pos hyr2.2.1, wrap_of _ (by omega) (by omega), if_pos hdue, hout]
    simp only [palinodelaw19_SagaDue.j1, Bool.not_true]
    rw [if_neg (by simp)]
    by_cases l0 : later < 0
    · rw [if_pos l0]
    rw [if_neg l0]
    by_cases l1 : later > 1099511627776
    · rw [if_pos l1]
    rw [if_neg l1, ← hout, h2 _ (by omega)]
    simp only [Option.bind_some, if_true]
    have hcond : c2 = decide (ydue ≤ later) := by
      rw [Bool.eq_iff_iff, hc2, decide_eq_true_iff]
      exact ⟨fun h => h.2, fun h => ⟨⟨hyl, hyr, rfl, rfl, by omega, by omega⟩, h⟩⟩
    obtain ⟨z, hz⟩ := nextX_some (l := l) (id := yid) (df := ydf) (st := yst) (at_ := yat) (tr := ytr) (what := 3) (now := later) (.inr (.inr rfl))
    by_cases hge : ydue ≤ later
    · have : c2 = true := by rw [hcond]; exact decide_eq_true hge
      rw [this, replyR_some hz]
      simp [flat, hge, hout]
    · have : c2 = false := by rw [hcond]; exact decide_eq_false hge
      rw [this, replyR_false]
      simp [hge, hout]

end Go.Proofs.Ytfhlpkcapohnoaa.Pure
