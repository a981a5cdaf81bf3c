import Derived.Test.YtgfgdpmpbpofbaaPackRead
import Derived.Test.YtgfgdpmpbpofbaaPrint10
namespace Go.Proofs.Ytgfgdpmpbpofbaa.Print
open Go.RowKit Go.Proofs.YtgfgdpmpbpofbaaX Go.Proofs.YtgfgdpmpbpofbaaW.PrintWords Go.Proofs.YtgfgdpmpbpofbaaW.PrintLast
set_option linter.unusedVariables false
set_option linter.unusedSimpArgs false

/-- What reading a text comes to. -/
def readText (b : ByteArray) : ByteArray × ByteArray × Option Int :=
  match (readNum b).2.2 with
  | some e => (⟨#[]⟩, ⟨#[]⟩, some e)
  | none => if 1048576 < (readNum b).1 then (⟨#[]⟩, ⟨#[]⟩, some 5) else if ((readNum b).2.1.size : Int) < (readNum b).1 then (⟨#[]⟩, ⟨#[]⟩, some 2)
    else ((readNum b).2.1.extract 0 (readNum b).1.toNat, (readNum b).2.1.extract (readNum b).1.toNat (readNum b).2.1.size, none)
theorem readText_eq (b : ByteArray) : pack_ReadText.f b = some (readText b) := by
  unfold pack_ReadText.f pack_ReadNum.f readText
  simp only [Option.bind_some]
  rcases readNum_cases b with ⟨e, he, _⟩ | ⟨n, rest, hn, he, hr⟩
  · rw [he]
    simp
  · rw [he]
    simp only [Option.isNone_none, if_true]
    by_cases c1 : 1048576 < (n : Int)
    · rw [if_pos c1, if_pos c1]
    · rw [if_neg c1, if_neg c1]
      by_cases c2 : (rest.size : Int) < (n : Int)
      · rw [if_pos c2, if_pos c2]
      · rw [if_neg c2, if_neg c2, if_pos (by omega), if_pos (by omega)]
theorem readText_text (s : ByteArray) (h : s.size ≤ 1048576) (rest : ByteArray) : readText (strOfNums (numL s.size) ++ s ++ rest) = (s, rest, none) := by
  have hb : strOfNums (numL s.size) ++ s ++ rest = strOfNums (numL s.size) ++ (s ++ rest) := by
    apply bytesOf_inj
    simp only [bytesOf_append, List.append_assoc]
  rw [hb]
  unfold readText
  rw [readNum_num _ (by omega)]
  have hz : (s ++ rest).size = s.size + rest.size := by rw [bytesOf_size, bytesOf_append, List.length_append, bytesOf_length, bytesOf_length]
  simp only [hz]
  rw [if_neg (by omega), if_neg (by omega), Int.toNat_natCast]
  have e1 : (s ++ rest).extract 0 s.size = s := by
    apply bytesOf_inj
    rw [bytesOf_extract, bytesOf_append, List.drop_zero, Nat.sub_zero, ← bytesOf_length s, List.take_left]
  have e2 : (s ++ rest).extract s.size (s.size + rest.size) = rest := by
    apply bytesOf_inj
    rw [bytesOf_extract, bytesOf_append, ← bytesOf_length s, List.drop_left, List.take_of_length_le (by rw [bytesOf_length]; omega)]
  rw [e1, e2]
theorem readText_short (s : ByteArray) (h : s.size ≤ 1048576) (c : Nat) (hc : c < (strOfNums (numL s.size) ++ s).size) : readText ((strOfNums (numL s.size) ++ s).extract 0 c) = (⟨#[]⟩, ⟨#[]⟩, some 2) := by
  unfold readText
  by_cases c1 : c ≤ bsize s.size
  · rw [readNum_short _ (by omega) _ _ c1]
  · rw [textL_size] at hc
    obtain ⟨d, rfl⟩ : ∃ d, c = (numL s.size).length + d := ⟨c - (numL s.size).length, by rw [numL_length]; omega⟩
    rw [numL_length] at hc
    have e : (strOfNums (numL s.size) ++ s).extract 0 ((numL s.size).length + d) = strOfNums (numL s.size) ++ s.extract 0 d := by
      apply bytesOf_inj
      rw [bytesOf_extract, bytesOf_append, bytesOf_append, bytesOf_extract, bytesOf_num (by omega), List.drop_zero, Nat.sub_zero, List.take_append, List.drop_zero, Nat.sub_zero]
      rw [List.take_of_length_le (by omega), Nat.add_sub_cancel_left]
    rw [e, readNum_num _ (by omega)]
    have hz : (s.extract 0 d).size = d := by rw [ByteArray.size_extract]; omega
    simp only [hz]
    rw [if_neg (by omega), if_pos (by omega)]
end Go.Proofs.Ytgfgdpmpbpofbaa.Print
