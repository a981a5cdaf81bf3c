/- An ack is taken once, changes nothing but Out, and no answer of Reply: for all arguments that the row lets in. -/
import Derived.Test.YtfhlpkcapohnoaaSagaNext
import Derived.Test.YtfhlpkcapohnoaaPrint20
namespace Go.Proofs.Ytfhlpkcapohnoaa.Pure
open Go.RowKit Go.Proofs.Ytfhlpkcapohnoaa.Print Go.Proofs.YtfhlpkcapohnoaaX Go.Proofs.YtfhlpkcapohnoaaW.PrintWords
set_option linter.unusedVariables false
set_option linter.unusedSimpArgs false

theorem SagaAck : palinodelaw19_SagaAck.Pure := by
  refine ⟨examples_true, ?_⟩
  intro nm l id df st at_ tr due out what now v1 v2 v3 v4 v5 v6 v7 v8 v9 v10
  obtain ⟨K0, h0⟩ := examples_ev
  have hl : l.length ≤ 140737488351232 := by have := v2.2.1; omega
  by_cases hL : ¬ (st = 1 ∨ st = 2)
  · refine ⟨K0 + 1, ?_⟩
    unfold palinodelaw19_SagaAck.f
    rw [h0 _ (by omega), command_eq, if_neg hL]
    simp only [Option.bind_some, ack_eq, hL, false_and, if_false]
    simp [palinodelaw19_SagaAck.j0]
  have hL := Classical.not_not.1 hL
  cases out with
  | false =>
    refine ⟨K0 + 1, ?_⟩
    unfold palinodelaw19_SagaAck.f
    rw [h0 _ (by omega), command_eq, if_pos hL]
    simp only [Option.bind_some, ack_eq, hL, true_and]
    simp [palinodelaw19_SagaAck.j0]
  | true =>
    obtain ⟨c, hc, K1, h1⟩ := reply_ev nm l id df st at_ tr due true at_ st what now v1 hl v3
    obtain ⟨c2, hc2, K2, h2⟩ := reply_ev nm l id df st at_ tr due false at_ st what now v1 hl v3
    have hcc : c = c2 := by
      rw [Bool.eq_iff_iff, hc, hc2]
      unfold CondP RightP
      rw [if_pos hL, if_pos hL]
    subst hcc
    refine ⟨K0 + K1 + K2 + 1, ?_⟩
    unfold palinodelaw19_SagaAck.f
    rw [h0 _ (by omega), command_eq, if_pos hL]
    simp only [Option.bind_some, ack_eq, hL, true_and]
    simp only [palinodelaw19_SagaAck.j0, ack_eq, hL, true_and]
    simp only [if_true, Bool.not_true, Option.bind_some]
    rw [h1 _ (by omega), h2 _ (by omega)]
    simp only [Option.bind_some]
    cases c with
    | false =>
      rw [replyR_false, replyR_false]
      simp
    | true =>
      cases hn : nextX l id df st at_ tr what now with
      | none =>
        rw [replyR_none hn, replyR_none hn]
        simp
      | some y =>
        rw [replyR_some hn, replyR_some hn]
        simp [flat]

end Go.Proofs.Ytfhlpkcapohnoaa.Pure
