/- Any time and any ack make of any instance what the chapter says, or are not taken: for all arguments that the row lets in. -/
import Derived.Test.YtfhlpkcapohnoaaSagaRefReply
import Derived.Test.YtfhlpkcapohnoaaPrint21
namespace Go.Proofs.Ytfhlpkcapohnoaa.Pure
open Go.RowKit Go.Proofs.Ytfhlpkcapohnoaa.Print Go.Proofs.YtfhlpkcapohnoaaX Go.Proofs.YtfhlpkcapohnoaaW.PrintWords
set_option linter.unusedVariables false
set_option linter.unusedSimpArgs false

theorem refack_eq (id df : ByteArray) (st at_ tr due : Int) (out : Bool) (step dir : Int) : palinoderef19_Ack.f id df st at_ tr due out step dir = saga_Ack.f id df st at_ tr due out step dir := by
  unfold palinoderef19_Ack.f saga_Ack.f
  rw [refcommand_eq, command_eq]
theorem SagaExpires : palinodelaw19_SagaExpires.Pure := by
  refine ⟨examples_true, ?_⟩
  intro nm l id df st at_ tr due out now step dir v1 v2 v3 v4 v5 v6 v7 v8 v9 v10 v11
  obtain ⟨K0, h0⟩ := examples_ev
  have hl : l.length ≤ 140737488351232 := by have := v2.2.1; omega
  obtain ⟨c, hc, K1, h1⟩ := reply_ev nm l id df st at_ tr due out at_ st 3 now v1 hl v3
  obtain ⟨K2, h2⟩ := refreply_ev nm l id df st at_ tr due out at_ st 3 now c hc v1 hl v3
  have he : ∀ k, K0 + K1 + K2 ≤ k → palinoderef19_Expire.f k nm l id df st at_ tr due out now = saga_Expire.f k nm l id df st at_ tr due out now := by
    intro k hk
    unfold palinoderef19_Expire.f saga_Expire.f
    rw [command_eq, refcommand_eq]
    simp only [Option.bind_some]
    by_cases hL : st = 1 ∨ st = 2
    · rw [if_pos hL]
      simp only [if_true]
      rw [h1 k (by omega), h2 k (by omega)]
      by_cases hd : now < due
      · rw [if_pos hd, if_neg (by omega)]
      · rw [if_neg hd, if_pos (by omega)]
    · rw [if_neg hL]
      rfl
  obtain ⟨c3, _, K3, h3⟩ := expire_ev nm l id df st at_ tr due out now v1 hl v3
  refine ⟨K0 + K1 + K2 + K3, ?_⟩
  unfold palinodelaw19_SagaExpires.f
  rw [h0 _ (by omega), he _ (by omega), h3 _ (by omega), refack_eq, ack_eq]
  simp

end Go.Proofs.Ytfhlpkcapohnoaa.Pure
