/- Of any definition and instance it is told whether it is right, live, what its command is, and how one begins, as the chapter says: for all arguments that the row lets in. -/
import Derived.Test.YtfhlpkcapohnoaaSagaRef
import Derived.Test.YtfhlpkcapohnoaaPrint10
import Derived.Test.YtfhlpkcapohnoaaPrint11
namespace Go.Proofs.Ytfhlpkcapohnoaa.Pure
open Go.RowKit Go.Proofs.Ytfhlpkcapohnoaa.Print Go.Proofs.YtfhlpkcapohnoaaX Go.Proofs.YtfhlpkcapohnoaaW.PrintWords
set_option linter.unusedVariables false
set_option linter.unusedSimpArgs false

theorem SagaTells : palinodelaw19_SagaTells.Pure := by
  refine ⟨examples_true, ?_⟩
  intro nm l id df st at_ tr due out id2 now v1 v2 v3 v4 v5 v6 v7 v8 v9 v10
  obtain ⟨K0, h0⟩ := examples_ev
  have hl : l.length ≤ 140737488351232 := by have := v2.2.1; omega
  obtain ⟨b, hb, K1, h1⟩ := begin_ev nm l id2 now v1 hl v9
  obtain ⟨K2, h2⟩ := refbegin_ev nm l id2 now b hb v1 v9
  obtain ⟨b3, hb3, K3, h3⟩ := right_ev nm l id df st at_ tr due out v1 hl v3
  obtain ⟨K4, h4⟩ := refright_ev nm l id df st at_ tr due out b3 hb3 v1 hl v3
  refine ⟨K0 + K1 + K2 + K3 + K4, ?_⟩
  unfold palinodelaw19_SagaTells.f
  rw [h0 _ (by omega), h1 _ (by omega), h2 _ (by omega), command_eq, refcommand_eq, h3 _ (by omega), h4 _ (by omega), reflive_eq, live_eq]
  have hi : palinodelaw19_is.f (some 1) 1 = some true := rfl
  clear h1 h2 h3 h4 hb hb3
  cases b with
  | true => simp
  | false => simp [hi]

end Go.Proofs.Ytfhlpkcapohnoaa.Pure
