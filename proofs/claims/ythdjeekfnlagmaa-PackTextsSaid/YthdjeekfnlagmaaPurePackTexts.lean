/- Any text is written, and any bytes are read as one, as the chapter says, or refused: for all arguments that the row lets in. -/
import Derived.Test.YthdjeekfnlagmaaPackRef
import Derived.Test.YthdjeekfnlagmaaPrint4
namespace Go.Proofs.Ythdjeekfnlagmaa.Pure
open Go.RowKit Go.Proofs.Ythdjeekfnlagmaa.Print Go.Proofs.YthdjeekfnlagmaaX Go.Proofs.YthdjeekfnlagmaaW.PrintWords Go.Proofs.YthdjeekfnlagmaaW.PrintLast
set_option linter.unusedVariables false
set_option linter.unusedSimpArgs false

theorem PackTexts : palinodelaw01_PackTexts.Pure := by
  intro a0 a1 w0 w1
  obtain ⟨K0, h0⟩ := examples_ev
  obtain ⟨K1, h1⟩ := text_ev a0
  obtain ⟨K2, h2⟩ := reftext_ev a0
  obtain ⟨K3, h3⟩ := refreadtext_ev a1 w1
  refine ⟨K0 + K1 + K2 + K3, ?_⟩
  generalize hk : K0 + K1 + K2 + K3 = k
  have h0 := h0 k (by omega)
  have h1 := h1 k (by omega)
  have h2 := h2 k (by omega)
  have h3 := h3 k (by omega)
  have he := is_of _ (readText_err a1)
  unfold palinodelaw01_PackTexts.f
  simp only [h0, h1, h2, h3, readText_eq, Option.bind_some, refReadText, if_true, he]
  have n1 : (textR a0).2 = some 5 ∨ (textR a0).2 = none := by
    unfold textR
    split
    · exact .inl rfl
    · exact .inr rfl
  rcases n1 with n1 | n1 <;> simp [n1, is_some_iff]

end Go.Proofs.Ythdjeekfnlagmaa.Pure
