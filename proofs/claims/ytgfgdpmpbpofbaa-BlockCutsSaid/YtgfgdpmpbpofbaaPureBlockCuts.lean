/- No beginning of a block's bytes is one, nor are they with bytes behind: for all arguments that the row lets in. -/
import Derived.Test.YtgfgdpmpbpofbaaBlockEx
import Derived.Test.YtgfgdpmpbpofbaaBlockDec
import Derived.Test.YtgfgdpmpbpofbaaPrint11
namespace Go.Proofs.Ytgfgdpmpbpofbaa.Pure
open Go.RowKit Go.Proofs.Ytgfgdpmpbpofbaa.Print Go.Proofs.YtgfgdpmpbpofbaaX Go.Proofs.YtgfgdpmpbpofbaaW.PrintWords Go.Proofs.YtgfgdpmpbpofbaaW.PrintLast
set_option linter.unusedVariables false
set_option linter.unusedSimpArgs false

theorem bad_is {b : ByteArray} (h : ¬ (decodeR b).2.isNone = true) : palinodelaw12_is.f (decodeR b).2 3 = some true := by
  rw [decode_bad h]; rfl
theorem cut_bad (l : List Ent) (hs : sortedB l = true) (hl : l.length ≤ 200) (n : Nat) (hn : n < (strOfNums (encL l)).size) : ¬ (decodeR ((strOfNums (encL l)).extract 0 n)).2.isNone = true := by
  intro c
  obtain ⟨h1, h2, h3, h4⟩ := decode_ok c
  have he : (strOfNums (encL l)).extract 0 n ++ (strOfNums (encL l)).extract n (strOfNums (encL l)).size = strOfNums (encL l) := by
    apply bytesOf_inj
    rw [bytesOf_append, bytesOf_extract, bytesOf_extract, List.drop_zero, Nat.sub_zero, List.take_of_length_le (l := List.drop n (bytesOf (strOfNums (encL l)))) (by rw [List.length_drop, bytesOf_length]; omega), List.take_append_drop]
  rw [← h3] at he
  have := congrArg ByteArray.size (enc_prefix h1 hs h2 hl he)
  rw [ByteArray.size_extract] at this
  have z : (⟨#[]⟩ : ByteArray).size = 0 := rfl
  omega
theorem more_bad (l : List Ent) (hs : sortedB l = true) (hl : l.length ≤ 200) (m : ByteArray) (hm : m ≠ ⟨#[]⟩) : ¬ (decodeR (strOfNums (encL l) ++ m)).2.isNone = true := by
  intro c
  obtain ⟨h1, h2, h3, h4⟩ := decode_ok c
  exact hm (enc_prefix hs h1 hl h2 h3.symm)
theorem cuts_j1 (l : List Ent) (hs : sortedB l = true) (hl : l.length ≤ 200) (a : Int) (ha : 0 ≤ a) (m : ByteArray) (hm : m.size ≤ 140737488351232) (hz : 0 < (strOfNums (encL l)).size) (hz2 : (strOfNums (encL l)).size ≤ 1000000) (k : Nat) :
    palinodelaw12_BlockCuts.j1 (k + 1) a m true (strOfNums (encL l)) = some true := by
  simp only [palinodelaw12_BlockCuts.j1]
  have hp : ((strOfNums (encL l)).size : Int) ≠ 0 := by omega
  rw [if_neg hp, Int.tmod_eq_emod_of_nonneg ha]
  obtain ⟨n, hn⟩ := Int.eq_ofNat_of_zero_le (Int.emod_nonneg a hp)
  have hlt := Int.emod_lt_of_pos a (show 0 < ((strOfNums (encL l)).size : Int) by omega)
  rw [hn] at hlt ⊢
  rw [if_pos (by omega), if_pos (by omega), Int.toNat_natCast, decode_eq, Option.bind_some, if_pos (by omega), decode_eq, Option.bind_some, bad_is (cut_bad l hs hl n (by omega)), Option.bind_some]
  simp only [if_true]
  by_cases c : m.toList = ([] : List UInt8)
  · rw [if_pos c]
  · rw [if_neg c, bad_is (more_bad l hs hl m (fun e => c (by rw [e, ByteArray.toList_eq])))]
    rfl
theorem encFrom_len (l : List Ent) (hs : sortedB l = true) : ∀ (m i : Nat), i + m = l.length → (encFrom l m i).length ≤ 500 * m := by
  intro m
  induction m with
  | zero => intro i _; simp [encFrom]
  | succ m ih =>
    intro i hi
    have hr := (sAt_iff.1 (sortedB_iff.1 hs i (by omega))).1
    have := entL_len (nAt l i) (gt l i) hr (by have := (nAt_le l i hr).2; omega)
    have h2 := ih (i + 1) (by omega)
    simp only [encFrom]
    rw [List.length_append]
    omega
theorem BlockCuts : palinodelaw12_BlockCuts.Pure := by
  refine ⟨examples_true, ?_⟩
  intro l a m v1 v2 v3
  have hw := wf_i64 v2
  refine ⟨10, ?_⟩
  unfold palinodelaw12_BlockCuts.f
  rw [examples_big _ (by omega), Option.bind_some, encode_eq, Option.bind_some]
  by_cases c : (encR l).2.isNone = true
  · obtain ⟨h1, h2, h3⟩ := encR_ok l c
    rw [if_pos c, h3]
    have hz : 0 < (strOfNums (encL l)).size := by rw [size_strOfNums]; unfold encL; rw [List.length_append, numL_length]; omega
    have hz2 : (strOfNums (encL l)).size ≤ 1000000 := by
      rw [size_strOfNums]; unfold encL; rw [List.length_append]
      have a1 := numL_len (n := l.length) (by omega)
      have a2 := encFrom_len l h1 l.length 0 (by omega)
      omega
    have hne : ((strOfNums (encL l)).toList == ([] : List UInt8)) = false := by
      rw [beq_eq_false_iff_ne]
      intro e
      have := toList_nil_iff.1 e
      omega
    simp only
    rw [hne]
    simp only [palinodelaw12_BlockCuts.j0]
    rw [if_neg (by simp)]
    by_cases ca : a < 0
    · rw [if_pos ca, wrap_of (a + 1) (by omega) (by omega), wrap_of _ (by omega) (by omega)]
      exact cuts_j1 l h1 h2 _ (by omega) m v3 hz hz2 _
    · rw [if_neg ca]
      exact cuts_j1 l h1 h2 _ (by omega) m v3 hz hz2 _
  · rw [if_neg c]
    simp only [palinodelaw12_BlockCuts.j0]
    simp
end Go.Proofs.Ytgfgdpmpbpofbaa.Pure
