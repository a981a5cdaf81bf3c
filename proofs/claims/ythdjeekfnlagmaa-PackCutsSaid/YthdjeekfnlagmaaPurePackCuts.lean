/- No beginning of a written number or text is one, and a text's is too short: for all arguments that the row lets in. -/
import Derived.Test.YthdjeekfnlagmaaPackText
import Derived.Test.YthdjeekfnlagmaaPrint6
namespace Go.Proofs.Ythdjeekfnlagmaa.Pure
open Go.RowKit Go.Proofs.Ythdjeekfnlagmaa.Print Go.Proofs.YthdjeekfnlagmaaX Go.Proofs.YthdjeekfnlagmaaW.PrintWords Go.Proofs.YthdjeekfnlagmaaW.PrintLast
set_option linter.unusedVariables false
set_option linter.unusedSimpArgs false

theorem PackCuts : palinodelaw01_PackCuts.Pure := by
  intro a0 a1 a2 w0 w1 w2
  obtain ⟨K0, h0⟩ := examples_ev
  obtain ⟨K1, h1⟩ := num_ev a0
  obtain ⟨K2, h2⟩ := text_ev a1
  refine ⟨K0 + K1 + K2 + 2, ?_⟩
  generalize hk : K0 + K1 + K2 = k
  have h0 := h0 (k + 2) (by omega)
  have h1 := h1 (k + 2) (by omega)
  have h2 := h2 (k + 2) (by omega)
  have b2 := wf_i64 w2
  unfold palinodelaw01_PackCuts.f
  simp only [h0, h1, h2, Option.bind_some]
  have n1 : (a0 < 0 ∨ 9007199254740991 < a0) ∧ numR a0 = (⟨#[]⟩, some 1) ∨ ∃ n : Nat, a0 = (n : Int) ∧ n ≤ 9007199254740991 ∧ numR a0 = (strOfNums (numL n), none) := by
    unfold numR
    by_cases c : a0 < 0 ∨ 9007199254740991 < a0
    · exact .inl ⟨c, if_pos c⟩
    · obtain ⟨n, rfl⟩ := Int.eq_ofNat_of_zero_le (show 0 ≤ a0 by omega)
      exact .inr ⟨n, rfl, by omega, by rw [if_neg c]; rfl⟩
  have t1 : 1048576 < a1.size ∧ textR a1 = (⟨#[]⟩, some 5) ∨ a1.size ≤ 1048576 ∧ textR a1 = (strOfNums (numL a1.size) ++ a1, none) := by
    unfold textR
    by_cases c : 1048576 < a1.size
    · exact .inl ⟨c, if_pos c⟩
    · exact .inr ⟨by omega, if_neg c⟩
  rcases n1 with ⟨c, n1⟩ | ⟨n, rfl, hn, n1⟩
  · rw [n1]
    simp only [Option.isNone_some, palinodelaw01_PackCuts.j0]
    rcases c with c | c
    · simp [c]
    · simp [show ¬ a0 < 0 by omega, show a0 > 9007199254740991 by omega]
  rcases t1 with ⟨c, t1⟩ | ⟨ht, t1⟩
  · rw [n1, t1]
    simp only [Option.isNone_some, Option.isNone_none, palinodelaw01_PackCuts.j0]
    simp [show ¬ (n : Int) < 0 by omega, show ¬ (n : Int) > 9007199254740991 by omega, show (a1.size : Int) > 1048576 by omega]
  rw [n1, t1]
  have hb := bsize_7 hn
  have hb3 := bsize_text ht
  have hz1 : (strOfNums (numL n)).size = bsize n + 1 := by rw [size_strOfNums, numL_length]
  have hz2 := textL_size a1
  have q1 : ¬ ((strOfNums (numL n)).toList = ([] : List UInt8)) := by rw [toList_nil_iff]; omega
  have q2 : ((strOfNums (numL a1.size) ++ a1).toList == ([] : List UInt8)) = false := by rw [beq_eq_false_iff_ne]; intro h; rw [toList_nil_iff] at h; omega
  simp only [Option.isNone_none, if_true]
  rw [if_neg q1, q2]
  -- the cut, made a number that is not negative
  have main : ∀ c : Int, 0 ≤ c → palinodelaw01_PackCuts.j1 (k + 1) c true (strOfNums (numL n)) (strOfNums (numL a1.size) ++ a1) = some true := by
    intro c hc
    simp only [palinodelaw01_PackCuts.j1]
    have m1 : Int.tmod c ((strOfNums (numL n)).size : Int) = c % ((strOfNums (numL n)).size : Int) := Int.tmod_eq_emod_of_nonneg hc
    have m2 : Int.tmod c ((strOfNums (numL a1.size) ++ a1).size : Int) = c % ((strOfNums (numL a1.size) ++ a1).size : Int) := Int.tmod_eq_emod_of_nonneg hc
    rw [m1, m2]
    have g1 := Int.emod_nonneg c (show ((strOfNums (numL n)).size : Int) ≠ 0 by omega)
    have g2 := Int.emod_lt_of_pos c (show (0 : Int) < ((strOfNums (numL n)).size : Int) by omega)
    have g3 := Int.emod_nonneg c (show ((strOfNums (numL a1.size) ++ a1).size : Int) ≠ 0 by omega)
    have g4 := Int.emod_lt_of_pos c (show (0 : Int) < ((strOfNums (numL a1.size) ++ a1).size : Int) by omega)
    obtain ⟨d1, hd1⟩ := Int.eq_ofNat_of_zero_le g1
    obtain ⟨d2, hd2⟩ := Int.eq_ofNat_of_zero_le g3
    rw [hd1] at g2
    rw [hd2] at g4
    rw [hd1, hd2]
    have r1 : readNum ((strOfNums (numL n)).extract 0 d1) = (0, ⟨#[]⟩, some 2) := by
      have := readNum_short n hn ⟨#[]⟩ d1 (by omega)
      rwa [show strOfNums (numL n) ++ (⟨#[]⟩ : ByteArray) = strOfNums (numL n) by apply bytesOf_inj; rw [bytesOf_append, bytesOf_nil, List.append_nil]] at this
    have r2 := readText_short a1 ht d2 (by omega)
    unfold pack_ReadNum.f
    rw [if_neg (by omega), if_pos (by omega), if_pos (by omega), Int.toNat_natCast, r1]
    simp only [Option.bind_some]
    rw [if_neg (by omega), if_pos (by omega), if_pos (by omega), readText_eq, Int.toNat_natCast, r2]
    simp [is_some_iff]
  rw [show k + 2 = (k + 1) + 1 from rfl]
  simp only [palinodelaw01_PackCuts.j0]
  rw [if_neg (by simp)]
  split
  · rename_i hneg
    rw [wrap_of (a2 + 1) (by omega) (by omega), wrap_of _ (by omega) (by omega)]
    exact main _ (by omega)
  · exact main _ (by omega)

end Go.Proofs.Ythdjeekfnlagmaa.Pure
