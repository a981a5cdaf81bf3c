/- Any reply makes of any instance what the chapter says, or is not taken: for all arguments that the row lets in. -/
import Derived.Test.YtfhlpkcapohnoaaSagaRefReply
import Derived.Test.YtfhlpkcapohnoaaPrint14
namespace Go.Proofs.Ytfhlpkcapohnoaa.Pure
open Go.RowKit Go.Proofs.Ytfhlpkcapohnoaa.Print Go.Proofs.YtfhlpkcapohnoaaX Go.Proofs.YtfhlpkcapohnoaaW.PrintWords
set_option linter.unusedVariables false
set_option linter.unusedSimpArgs false

theorem SagaReplies : palinodelaw19_SagaReplies.Pure := by
  refine ⟨examples_true, ?_⟩
  intro nm l id df st at_ tr due out step dir what now v1 v2 v3 v4 v5 v6 v7 v8 v9 v10 v11 v12
  obtain ⟨K0, h0⟩ := examples_ev
  have hl : l.length ≤ 140737488351232 := by have := v2.2.1; omega
  obtain ⟨c, hc, K1, h1⟩ := reply_ev nm l id df st at_ tr due out step dir what now v1 hl v3
  obtain ⟨K2, h2⟩ := refreply_ev nm l id df st at_ tr due out step dir what now c hc v1 hl v3
  refine ⟨K0 + K1 + K2, ?_⟩
  unfold palinodelaw19_SagaReplies.f
  rw [h0 _ (by omega), h1 _ (by omega), h2 _ (by omega)]
  simp

end Go.Proofs.Ytfhlpkcapohnoaa.Pure
