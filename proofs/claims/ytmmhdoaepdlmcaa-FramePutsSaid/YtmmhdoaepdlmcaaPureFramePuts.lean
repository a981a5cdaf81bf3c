/- Any text has the sum, and the frame, that the chapter says, or is refused: for all arguments that the row lets in. -/
import Derived.Test.YtmmhdoaepdlmcaaFrameRef
import Derived.Test.YtmmhdoaepdlmcaaPrint5
namespace Go.Proofs.Ytmmhdoaepdlmcaa.Pure
open Go.RowKit Go.Proofs.Ytmmhdoaepdlmcaa.Print Go.Proofs.YtmmhdoaepdlmcaaX Go.Proofs.YtmmhdoaepdlmcaaW.PrintWords Go.Proofs.YtmmhdoaepdlmcaaW.PrintLast
set_option linter.unusedVariables false
set_option linter.unusedSimpArgs false

theorem FramePuts : palinodelaw03_FramePuts.Pure := by
  refine ⟨examples_true, ?_⟩
  intro s v1
  obtain ⟨K0, h0⟩ := examples_ev
  obtain ⟨K1, h1⟩ := put_ev s v1
  obtain ⟨K2, h2⟩ := refput_ev s v1
  obtain ⟨K3, h3⟩ := refsum_ev s v1
  refine ⟨K0 + K1 + K2 + K3, ?_⟩
  unfold palinodelaw03_FramePuts.f
  rw [h0 _ (by omega), h1 _ (by omega), h2 _ (by omega), h3 _ (by omega), sum_eq s (by omega)]
  unfold putR
  by_cases c : 1048576 < s.size
  · rw [if_pos c]
    simp [is_some_iff]
  · rw [if_neg c]
    simp
end Go.Proofs.Ytmmhdoaepdlmcaa.Pure
