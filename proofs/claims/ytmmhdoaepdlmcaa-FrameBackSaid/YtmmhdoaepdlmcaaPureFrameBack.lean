/- A text that is framed, whatever stands behind, is taken as it was, and what was taken is framed as it stood: for all arguments that the row lets in. -/
import Derived.Test.YtmmhdoaepdlmcaaFrameEx
import Derived.Test.YtmmhdoaepdlmcaaPrint5
namespace Go.Proofs.Ytmmhdoaepdlmcaa.Pure
open Go.RowKit Go.Proofs.Ytmmhdoaepdlmcaa.Print Go.Proofs.YtmmhdoaepdlmcaaX Go.Proofs.YtmmhdoaepdlmcaaW.PrintWords Go.Proofs.YtmmhdoaepdlmcaaW.PrintLast
set_option linter.unusedVariables false
set_option linter.unusedSimpArgs false

theorem FrameBack : palinodelaw03_FrameBack.Pure := by
  refine ⟨examples_true, ?_⟩
  intro s behind b v1 v2 v3
  obtain ⟨K0, h0⟩ := examples_ev
  obtain ⟨K1, h1⟩ := put_ev s v1
  have nl : (⟨#[]⟩ : ByteArray).toList = ([] : List UInt8) := by rw [ByteArray.toList_eq]
  rcases takeR_cases b with ⟨e, he, hne⟩ | ⟨u, left, hu, he, hb⟩
  · refine ⟨K0 + K1, ?_⟩
    unfold palinodelaw03_FrameBack.f
    rw [h0 _ (by omega), h1 _ (by omega)]
    simp only [Option.bind_some]
    rw [take_eq b (by omega), he]
    unfold putR
    by_cases c : 1048576 < s.size
    · rw [if_pos c]
      simp [nl]
    · rw [if_neg c]
      have hz := textL_size s
      have hbz := bsize_text (n := s.size) (by omega)
      have h4 := fourS_size (sumR s)
      have hz2 : (strOfNums (numL s.size) ++ s ++ fourS (sumR s)).size = bsize s.size + 1 + s.size + 4 := by rw [append_size, hz, h4]
      have hz3 : (strOfNums (numL s.size) ++ s ++ fourS (sumR s) ++ behind).size = bsize s.size + 1 + s.size + 4 + behind.size := by rw [append_size, hz2]
      simp only [Option.isNone_none, if_true]
      rw [if_pos (by omega), take_eq _ (by omega), takeR_put s (by omega)]
      simp [nl]
  · obtain ⟨K2, h2⟩ := put_ev u (by omega)
    have hp : putR u = (strOfNums (numL u.size) ++ u ++ fourS (sumR u), none) := by unfold putR; rw [if_neg (by omega)]
    have hbl : (strOfNums (numL u.size) ++ u ++ fourS (sumR u)).size + left.size = b.size := by rw [← append_size, hb]
    refine ⟨K0 + K1 + K2, ?_⟩
    unfold palinodelaw03_FrameBack.f
    rw [h0 _ (by omega), h1 _ (by omega)]
    simp only [Option.bind_some]
    rw [take_eq b (by omega), he]
    simp only [Option.bind_some]
    rw [h2 _ (by omega), hp]
    have fin : (strOfNums (numL u.size)).size + u.size + (fourS (sumR u)).size + left.size ≤ 9223372036854775807 := by rw [append_size, append_size] at hbl; omega
    unfold putR
    by_cases c : 1048576 < s.size
    · rw [if_pos c]
      simp [fin, hb]
    · rw [if_neg c]
      have hz := textL_size s
      have hbz := bsize_text (n := s.size) (by omega)
      have h4 := fourS_size (sumR s)
      have hz2 : (strOfNums (numL s.size) ++ s ++ fourS (sumR s)).size = bsize s.size + 1 + s.size + 4 := by rw [append_size, hz, h4]
      have hz3 : (strOfNums (numL s.size) ++ s ++ fourS (sumR s) ++ behind).size = bsize s.size + 1 + s.size + 4 + behind.size := by rw [append_size, hz2]
      simp only [Option.isNone_none, if_true]
      rw [if_pos (by omega), take_eq _ (by omega), takeR_put s (by omega)]
      simp [fin, hb]
end Go.Proofs.Ytmmhdoaepdlmcaa.Pure
