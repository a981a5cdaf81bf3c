/- Any number is written, and any bytes are read as one, as the chapter says, or refused: for all arguments that the row lets in. -/
import Derived.Test.YthdjeekfnlagmaaPackRef
import Derived.Test.YthdjeekfnlagmaaPrint3
namespace Go.Proofs.Ythdjeekfnlagmaa.Pure
open Go.RowKit Go.Proofs.Ythdjeekfnlagmaa.Print Go.Proofs.YthdjeekfnlagmaaX Go.Proofs.YthdjeekfnlagmaaW.PrintWords Go.Proofs.YthdjeekfnlagmaaW.PrintLast
set_option linter.unusedVariables false
set_option linter.unusedSimpArgs false

theorem PackNumbers : palinodelaw01_PackNumbers.Pure := by
  intro a0 a1 w0 w1
  obtain ⟨K0, h0⟩ := examples_ev
  obtain ⟨K1, h1⟩ := num_ev a0
  obtain ⟨K2, h2⟩ := refnum_ev a0
  obtain ⟨K3, h3⟩ := refread_ev a1 w1
  refine ⟨K0 + K1 + K2 + K3, ?_⟩
  generalize hk : K0 + K1 + K2 + K3 = k
  have h0 := h0 k (by omega)
  have h1 := h1 k (by omega)
  have h2 := h2 k (by omega)
  have h3 := h3 k (by omega)
  have he := is_of _ (readNum_err a1)
  unfold palinodelaw01_PackNumbers.f pack_ReadNum.f
  simp only [h0, h1, h2, h3, Option.bind_some, refRead, if_true, he]
  have n1 : (numR a0).2 = some 1 ∨ (numR a0).2 = none := by
    unfold numR
    split
    · exact .inl rfl
    · exact .inr rfl
  rcases n1 with n1 | n1 <;> simp [n1, is_some_iff]

end Go.Proofs.Ythdjeekfnlagmaa.Pure
