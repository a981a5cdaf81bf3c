/- A number and a text that are written, whatever stands behind, are read as they were, and what was read is written as it stood: for all arguments that the row lets in. -/
import Derived.Test.YthdjeekfnlagmaaPackText
import Derived.Test.YthdjeekfnlagmaaPrint5
namespace Go.Proofs.Ythdjeekfnlagmaa.Pure
open Go.RowKit Go.Proofs.Ythdjeekfnlagmaa.Print Go.Proofs.YthdjeekfnlagmaaX Go.Proofs.YthdjeekfnlagmaaW.PrintWords Go.Proofs.YthdjeekfnlagmaaW.PrintLast
set_option linter.unusedVariables false
set_option linter.unusedSimpArgs false

theorem PackBack : palinodelaw01_PackBack.Pure := by
  intro a0 a1 a2 a3 w0 w1 w2 w3
  obtain ⟨K0, h0⟩ := examples_ev
  obtain ⟨K1, h1⟩ := num_ev a0
  obtain ⟨K2, h2⟩ := text_ev a1
  obtain ⟨K3, h3⟩ := num_ev (readNum a3).1
  refine ⟨K0 + K1 + K2 + K3, ?_⟩
  generalize hk : K0 + K1 + K2 + K3 = k
  have h0 := h0 k (by omega)
  have h1 := h1 k (by omega)
  have h2 := h2 k (by omega)
  have h3 := h3 k (by omega)
  unfold palinodelaw01_PackBack.f pack_ReadNum.f
  simp only [readText_eq, h0, h1, h2, Option.bind_some]
  -- what comes of the number
  have n1 : numR a0 = (⟨#[]⟩, some 1) ∨ ∃ n : Nat, a0 = (n : Int) ∧ n ≤ 9007199254740991 ∧ numR a0 = (strOfNums (numL n), none) := by
    unfold numR
    by_cases c : a0 < 0 ∨ 9007199254740991 < a0
    · exact .inl (if_pos c)
    · obtain ⟨n, rfl⟩ := Int.eq_ofNat_of_zero_le (show 0 ≤ a0 by omega)
      exact .inr ⟨n, rfl, by omega, by rw [if_neg c]; rfl⟩
  have t1 : textR a1 = (⟨#[]⟩, some 5) ∨ a1.size ≤ 1048576 ∧ textR a1 = (strOfNums (numL a1.size) ++ a1, none) := by
    unfold textR
    by_cases c : 1048576 < a1.size
    · exact .inl (if_pos c)
    · exact .inr ⟨by omega, if_neg c⟩
  rcases readNum_cases a3 with ⟨e, r, _⟩ | ⟨n3, rest, hn3, r, hr⟩
  · rcases n1 with n1 | ⟨n, rfl, hn, n1⟩
    · rcases t1 with t1 | ⟨ht, t1⟩
      · simp [n1, t1, r, ByteArray.toList_eq]
      · have hz := textL_size a1
        have hb := bsize_text ht
        have hle9 : (strOfNums (numL a1.size)).size + a1.size + a2.size ≤ 9223372036854775807 := by rw [size_strOfNums, numL_length]; omega
        have hle : (strOfNums (numL a1.size) ++ a1).size + a2.size ≤ 9223372036854775807 := by omega
        simp [n1, t1, r, hle9, readText_text a1 ht a2, hle, ByteArray.toList_eq]
    · have hb := bsize_7 hn
      have hle : (strOfNums (numL n)).size + a2.size ≤ 9223372036854775807 := by rw [size_strOfNums, numL_length]; omega
      rcases t1 with t1 | ⟨ht, t1⟩
      · simp [n1, t1, r, hle, readNum_num n hn a2, ByteArray.toList_eq]
      · have hz := textL_size a1
        have hb := bsize_text ht
        have hle9 : (strOfNums (numL a1.size)).size + a1.size + a2.size ≤ 9223372036854775807 := by rw [size_strOfNums, numL_length]; omega
        have hle2 : (strOfNums (numL a1.size) ++ a1).size + a2.size ≤ 9223372036854775807 := by omega
        simp [n1, t1, r, hle, hle2, readNum_num n hn a2, hle9, readText_text a1 ht a2, ByteArray.toList_eq]
  · have m1 : numR (n3 : Int) = (strOfNums (numL n3), none) := by rw [numR, if_neg (by omega)]; rfl
    have hz3 : (strOfNums (numL n3)).size + rest.size = a3.size := by rw [← hr, bytesOf_size (_ ++ _), bytesOf_append, List.length_append, bytesOf_length, bytesOf_length]
    have hle3 : (strOfNums (numL n3)).size + rest.size ≤ 9223372036854775807 := by omega
    rw [r, m1] at h3
    simp only at h3
    rcases n1 with n1 | ⟨n, rfl, hn, n1⟩
    · rcases t1 with t1 | ⟨ht, t1⟩
      · simp [n1, t1, r, h3, m1, hle3, hr]
      · have hz := textL_size a1
        have hb := bsize_text ht
        have hle9 : (strOfNums (numL a1.size)).size + a1.size + a2.size ≤ 9223372036854775807 := by rw [size_strOfNums, numL_length]; omega
        have hle : (strOfNums (numL a1.size) ++ a1).size + a2.size ≤ 9223372036854775807 := by omega
        simp [n1, t1, r, h3, m1, hle3, hr, hle9, readText_text a1 ht a2, hle]
    · have hb := bsize_7 hn
      have hle : (strOfNums (numL n)).size + a2.size ≤ 9223372036854775807 := by rw [size_strOfNums, numL_length]; omega
      rcases t1 with t1 | ⟨ht, t1⟩
      · simp [n1, t1, r, h3, m1, hle3, hr, hle, readNum_num n hn a2]
      · have hz := textL_size a1
        have hb := bsize_text ht
        have hle9 : (strOfNums (numL a1.size)).size + a1.size + a2.size ≤ 9223372036854775807 := by rw [size_strOfNums, numL_length]; omega
        have hle2 : (strOfNums (numL a1.size) ++ a1).size + a2.size ≤ 9223372036854775807 := by omega
        simp [n1, t1, r, h3, m1, hle3, hr, hle, hle2, readNum_num n hn a2, hle9, readText_text a1 ht a2]

end Go.Proofs.Ythdjeekfnlagmaa.Pure
