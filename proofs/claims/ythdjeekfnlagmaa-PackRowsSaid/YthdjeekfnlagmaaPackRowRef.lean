import Derived.Test.YthdjeekfnlagmaaPackRowLib
import Derived.Test.YthdjeekfnlagmaaPackRef
import Derived.Test.YthdjeekfnlagmaaPrint9
import Derived.Test.YthdjeekfnlagmaaPrint9
namespace Go.Proofs.Ythdjeekfnlagmaa.Print
open Go.RowKit Go.Proofs.YthdjeekfnlagmaaX Go.Proofs.YthdjeekfnlagmaaW.PrintWords Go.Proofs.YthdjeekfnlagmaaW.PrintLast
set_option linter.unusedVariables false
set_option linter.unusedSimpArgs false

/-! ## The document's own answer -/
theorem rdOf_at (l : List ByteArray) (i : Nat) (h : i < l.length) : rdOf ByteArray.empty l (i : Int) = l[i] := by
  unfold rdOf
  rw [Int.toNat_natCast, List.getD_eq_getElem?_getD, List.getElem?_eq_getElem h]
  rfl
theorem rowR_no {s : ByteArray} {l : List ByteArray} {b : ByteArray} (h : ¬ (s.size ≤ 1048576 ∧ b.size + (textL s).size ≤ 1048576)) : rowR (s :: l) b = (⟨#[]⟩, some 5) := if_neg h
theorem rowR_yes {s : ByteArray} {l : List ByteArray} {b : ByteArray} (h : s.size ≤ 1048576 ∧ b.size + (textL s).size ≤ 1048576) : rowR (s :: l) b = rowR l (b ++ textL s) := if_pos h
theorem textR_no {s : ByteArray} (h : 1048576 < s.size) : textR s = (⟨#[]⟩, some 5) := if_pos h
theorem textR_yes {s : ByteArray} (h : ¬ 1048576 < s.size) : textR s = (textL s, none) := if_neg h
theorem refrow_step (l : List ByteArray) (i : Nat) (hi : i < l.length) (b : ByteArray) (k : Nat) (t : ByteArray × Bool) (hl : l.length ≤ 1000) (ht : palinoderef01_Text.f k l[i] = some t) (hs : b.size + t.1.size ≤ 9000000000000000000) :
    palinoderef01_Row.l0 (k + 1) l b (i : Int) = if t.2 = true then (if 1048576 < b.size + t.1.size then some (⟨#[]⟩, false) else palinoderef01_Row.l0 k l (b ++ t.1) ((i + 1 : Nat) : Int)) else some (⟨#[]⟩, false) := by
  conv => lhs; unfold palinoderef01_Row.l0
  rw [if_pos (by omega), if_pos (by omega), rdOf_at l i hi, ht]
  simp only [Option.bind_some]
  by_cases h : t.2 = true
  · rw [if_pos h, if_pos h, wrap_of _ (by omega) (by omega)]
    by_cases h2 : 1048576 < b.size + t.1.size
    · rw [if_pos (by omega), if_pos h2]
    · rw [if_neg (by omega), if_neg h2, if_pos (by omega), wrap_of _ (by omega) (by omega)]
      rfl
  · rw [if_neg h, if_neg h]
theorem refrow_l0 (l : List ByteArray) (hl : l.length ≤ 1000) : ∀ (d i : Nat) (b : ByteArray), i + d = l.length → b.size ≤ 1048576 →
    ∃ K, ∀ k, K ≤ k → palinoderef01_Row.l0 k l b (i : Int) = some ((rowR (l.drop i) b).1, (rowR (l.drop i) b).2.isNone) := by
  intro d
  induction d with
  | zero =>
    intro i b hi hb
    refine ⟨1, fun k hk => ?_⟩
    obtain ⟨k, rfl⟩ : ∃ m, k = m + 1 := ⟨k - 1, by omega⟩
    conv => lhs; unfold palinoderef01_Row.l0
    rw [if_neg (by omega), List.drop_of_length_le (by omega)]
    simp only [rowR, Option.isNone_none]
  | succ d ih =>
    intro i b hi hb
    have hlt : i < l.length := by omega
    obtain ⟨K1, k1⟩ := reftext_ev l[i]
    rw [List.drop_eq_getElem_cons hlt]
    by_cases h : 1048576 < l[i].size
    · refine ⟨K1 + 1, fun k hk => ?_⟩
      obtain ⟨k, rfl⟩ : ∃ m, k = m + 1 := ⟨k - 1, by omega⟩
      have ht := k1 k (by omega)
      rw [textR_no h] at ht
      have hz0 : (⟨#[]⟩ : ByteArray).size = 0 := rfl
      rw [refrow_step l i hlt b k _ hl ht (by simp only [hz0]; omega), rowR_no (fun h2 => by omega)]
      rfl
    · have hz := textL_sz l[i] (by omega)
      by_cases h2 : b.size + (textL l[i]).size ≤ 1048576
      · obtain ⟨K2, k2⟩ := ih (i + 1) (b ++ textL l[i]) (by omega) (by rw [app_size]; exact h2)
        refine ⟨K1 + K2 + 1, fun k hk => ?_⟩
        obtain ⟨k, rfl⟩ : ∃ m, k = m + 1 := ⟨k - 1, by omega⟩
        have ht := k1 k (by omega)
        rw [textR_yes h] at ht
        rw [refrow_step l i hlt b k _ hl ht (by show b.size + (textL l[i]).size ≤ _; omega), rowR_yes ⟨by omega, h2⟩]
        simp only [Option.isNone_none, if_true]
        rw [if_neg (by omega)]
        exact k2 k (by omega)
      · refine ⟨K1 + 1, fun k hk => ?_⟩
        obtain ⟨k, rfl⟩ : ∃ m, k = m + 1 := ⟨k - 1, by omega⟩
        have ht := k1 k (by omega)
        rw [textR_yes h] at ht
        rw [refrow_step l i hlt b k _ hl ht (by show b.size + (textL l[i]).size ≤ _; omega), rowR_no (fun h => h2 h.2)]
        simp only [Option.isNone_none, if_true]
        rw [if_pos (by omega)]
        simp only [Option.isNone_some]
theorem refrow_ev (l : List ByteArray) : ∃ K, ∀ k, K ≤ k → palinoderef01_Row.f k l = some ((rowS l).1, (rowS l).2.isNone) := by
  unfold rowS
  by_cases hl : l.length ≤ 1000
  · rw [if_pos hl]
    have h7 := bsize_7 (n := l.length) (by omega)
    obtain ⟨K1, k1⟩ := refnum_ev (l.length : Int)
    obtain ⟨K2, k2⟩ := refrow_l0 l hl l.length 0 (strOfNums (numL l.length)) (by omega) (by rw [size_strOfNums, numL_length]; omega)
    refine ⟨K1 + K2, fun k hk => ?_⟩
    unfold palinoderef01_Row.f
    rw [if_neg (by omega), k1 k (by omega), numR, if_neg (by omega), Int.toNat_natCast]
    have := k2 k (by omega)
    rw [List.drop_zero, show ((0 : Nat) : Int) = 0 from rfl] at this
    exact this
  · rw [if_neg hl]
    refine ⟨0, fun k hk => ?_⟩
    unfold palinoderef01_Row.f
    rw [if_pos (by omega)]
    rfl
theorem refrr_end (rest : ByteArray) (e : Int) (acc : List ByteArray) (k : Nat) (h : e ≠ 0) : palinoderef01_ReadRow.j3 (k + 2) rest e acc = some ([], e) := by
  simp only [palinoderef01_ReadRow.j3, palinoderef01_ReadRow.j4]
  rw [if_neg h, if_neg (by decide), if_neg h]
theorem refrr_stop (n : Int) (rest : ByteArray) (e : Int) (acc : List ByteArray) (i : Int) (k : Nat) (h : e ≠ 0) : palinoderef01_ReadRow.l0 (k + 3) n rest e acc i = some ([], e) := by
  simp only [palinoderef01_ReadRow.l0]
  by_cases c : i < n
  · rw [if_pos c, if_neg h]; exact refrr_end rest e acc k h
  · rw [if_neg c]; exact refrr_end rest e acc k h
theorem refrr_l0 (n : Nat) (hn : n ≤ 1000) : ∀ (d i : Nat) (rest : ByteArray) (acc : List ByteArray), i + d = n → acc.length = i → rest.size ≤ 1048576 →
    ∃ K, ∀ k, K ≤ k → palinoderef01_ReadRow.l0 k (n : Int) rest 0 acc (i : Int) = some ((loopR d rest acc).1, (loopR d rest acc).2.getD 0) := by
  intro d
  induction d with
  | zero =>
    intro i rest acc hi ha hr
    refine ⟨3, fun k hk => ?_⟩
    obtain ⟨k, rfl⟩ : ∃ m, k = m + 3 := ⟨k - 3, by omega⟩
    simp only [palinoderef01_ReadRow.l0, palinoderef01_ReadRow.j3, palinoderef01_ReadRow.j4, loopR]
    rw [if_neg (by omega), if_pos trivial]
    by_cases h : rest.size = 0
    · have hb : (rest.toList != ([] : List UInt8)) = false := by rw [bne_eq_false_iff_eq]; exact toList_nil_iff.2 h
      rw [if_pos h, hb, if_neg (by decide), if_pos trivial]
      rfl
    · have hb : (rest.toList != ([] : List UInt8)) = true := by rw [bne_iff_ne]; exact fun h2 => h (toList_nil_iff.1 h2)
      rw [if_neg h, hb, if_pos rfl, if_neg (by decide)]
      rfl
  | succ d ih =>
    intro i rest acc hi ha hr
    obtain ⟨K1, k1⟩ := refreadtext_ev rest (by omega)
    have hne := readText_err rest
    simp only [loopR]
    cases he : (readText rest).2.2 with
    | some e =>
      rw [he] at hne
      refine ⟨K1 + 4, fun k hk => ?_⟩
      obtain ⟨k, rfl⟩ : ∃ m, k = m + 4 := ⟨k - 4, by omega⟩
      conv => lhs; unfold palinoderef01_ReadRow.l0
      rw [if_pos (by omega), if_pos rfl, k1 _ (by omega), refReadText, he]
      simp only [Option.bind_some, Option.getD_some]
      rw [if_pos (by omega)]
      exact refrr_stop _ _ _ _ _ k (fun h => hne (by rw [h]))
    | none =>
      have hsz : (readText rest).2.1.size ≤ 1048576 := by
        unfold readText at he ⊢
        rcases readNum_cases rest with ⟨e, h, _⟩ | ⟨m, r, h1, h, h2⟩
        · rw [h] at he; cases he
        · rw [h] at he ⊢
          simp only at he ⊢
          have h3 : r.size ≤ rest.size := by rw [← h2, app_size]; omega
          by_cases c1 : 1048576 < (m : Int)
          · rw [if_pos c1] at he; cases he
          rw [if_neg c1] at he ⊢
          by_cases c2 : (r.size : Int) < (m : Int)
          · rw [if_pos c2] at he; cases he
          rw [if_neg c2]
          show (r.extract _ _).size ≤ _
          rw [bytesOf_size, bytesOf_extract, List.length_take, List.length_drop, bytesOf_length]
          omega
      obtain ⟨K2, k2⟩ := ih (i + 1) (readText rest).2.1 (acc ++ [(readText rest).1]) (by omega) (by rw [List.length_append, List.length_cons, List.length_nil, ha]) hsz
      refine ⟨K1 + K2 + 1, fun k hk => ?_⟩
      obtain ⟨k, rfl⟩ : ∃ m, k = m + 1 := ⟨k - 1, by omega⟩
      conv => lhs; unfold palinoderef01_ReadRow.l0
      rw [if_pos (by omega), if_pos rfl, k1 _ (by omega), refReadText, he]
      simp only [Option.bind_some, Option.getD_none]
      rw [if_pos (by omega), wrap_of _ (by omega) (by omega), show (i : Int) + 1 = ((i + 1 : Nat) : Int) by omega]
      exact k2 k (by omega)
theorem refrr_ev (b : ByteArray) : ∃ K, ∀ k, K ≤ k → palinoderef01_ReadRow.f k b = some ((readRowR b).1, (readRowR b).2.getD 0) := by
  unfold readRowR
  by_cases h : 1048576 < b.size
  · rw [if_pos h]
    refine ⟨0, fun k hk => ?_⟩
    unfold palinoderef01_ReadRow.f
    rw [if_pos (by omega)]
    rfl
  · rw [if_neg h]
    obtain ⟨K1, k1⟩ := refread_ev b (by omega)
    have hne := readNum_err b
    have hn := readNum_nn b
    cases he : (readNum b).2.2 with
    | some e =>
      rw [he] at hne
      have he0 : e ≠ 0 := fun h => hne (by rw [h])
      refine ⟨K1 + 6, fun k hk => ?_⟩
      obtain ⟨k, rfl⟩ : ∃ m, k = m + 5 := ⟨k - 5, by omega⟩
      unfold palinoderef01_ReadRow.f
      rw [if_neg (by omega), k1 _ (by omega), refRead, he]
      simp only [Option.bind_some, Option.getD_some]
      rw [if_neg he0]
      show palinoderef01_ReadRow.j0 (k + 4 + 1) _ _ e false = _
      simp only [palinoderef01_ReadRow.j0, palinoderef01_ReadRow.j1]
      rw [if_neg (by decide)]
      exact refrr_stop _ _ _ _ _ k he0
    | none =>
      simp only
      by_cases h2 : 1000 < (readNum b).1
      · rw [if_pos h2]
        refine ⟨K1 + 6, fun k hk => ?_⟩
        obtain ⟨k, rfl⟩ : ∃ m, k = m + 5 := ⟨k - 5, by omega⟩
        unfold palinoderef01_ReadRow.f
        rw [if_neg (by omega), k1 _ (by omega), refRead, he]
        simp only [Option.bind_some, Option.getD_none, if_true]
        rw [decide_eq_true (by omega)]
        show palinoderef01_ReadRow.j0 (k + 4 + 1) _ _ _ true = _
        simp only [palinoderef01_ReadRow.j0, palinoderef01_ReadRow.j1]
        rw [if_pos trivial]
        exact refrr_stop _ _ _ _ _ k (by decide)
      · rw [if_neg h2]
        have hsz : (readNum b).2.1.size ≤ 1048576 := by
          rcases readNum_cases b with ⟨e, h', _⟩ | ⟨m, r, h1, h', h2⟩
          · rw [h']; exact Nat.zero_le _
          · rw [h']
            have : r.size ≤ b.size := by rw [← h2, app_size]; omega
            simp only
            omega
        obtain ⟨K2, k2⟩ := refrr_l0 (readNum b).1.toNat (by omega) (readNum b).1.toNat 0 (readNum b).2.1 [] (by omega) rfl hsz
        rw [Int.toNat_of_nonneg hn] at k2
        refine ⟨K1 + K2 + 6, fun k hk => ?_⟩
        obtain ⟨k, rfl⟩ : ∃ m, k = m + 2 := ⟨k - 2, by omega⟩
        unfold palinoderef01_ReadRow.f
        rw [if_neg (by omega), k1 _ (by omega), refRead, he]
        simp only [Option.bind_some, Option.getD_none, if_true]
        rw [decide_eq_false (by omega)]
        show palinoderef01_ReadRow.j0 (k + 1 + 1) _ _ _ false = _
        simp only [palinoderef01_ReadRow.j0, palinoderef01_ReadRow.j1]
        rw [if_neg (by decide)]
        exact k2 k (by omega)
end Go.Proofs.Ythdjeekfnlagmaa.Print
