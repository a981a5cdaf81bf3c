import Derived.Test.YtgfgdpmpbpofbaaPackLib
import Derived.Test.YtgfgdpmpbpofbaaPrint7
namespace Go.Proofs.Ytgfgdpmpbpofbaa.Print
open Go.RowKit Go.Proofs.YtgfgdpmpbpofbaaX Go.Proofs.YtgfgdpmpbpofbaaW.PrintWords Go.Proofs.YtgfgdpmpbpofbaaW.PrintLast
set_option linter.unusedVariables false
set_option linter.unusedSimpArgs false

theorem digs_get (k n i : Nat) (h : i < k) : (digs k n).getD i 0 = ((n / 256 ^ (k - 1 - i) % 256 : Nat) : Int) := by
  induction k generalizing n with
  | zero => omega
  | succ k ih =>
    rw [digs, List.getD_eq_getElem?_getD, List.getElem?_append, digs_length]
    by_cases hi : i < k
    · rw [if_pos hi, ← List.getD_eq_getElem?_getD, ih _ hi, Nat.div_div_eq_div_mul, show k + 1 - 1 - i = (k - 1 - i) + 1 by omega, Nat.pow_succ, Nat.mul_comm 256]
    · obtain rfl : i = k := by omega
      simp
theorem digs_pval (b : ByteArray) (i : Nat) (h : i < b.size) : digs i (pval b i) = ((bytesOf b).drop 1).take i := by
  induction i with
  | zero => rfl
  | succ i ih =>
    have h1 := bt_range b ((i : Int) + 1)
    rw [digs, pval]
    have e1 : (pval b i * 256 + (bt b ((i : Int) + 1)).toNat) / 256 = pval b i := by omega
    have e2 : (pval b i * 256 + (bt b ((i : Int) + 1)).toNat) % 256 = (bt b ((i : Int) + 1)).toNat := by omega
    rw [e1, e2, ih (by omega), List.take_add_one, List.getElem?_drop]
    congr 1
    have hl : 1 + i < (bytesOf b).length := by rw [bytesOf_length]; omega
    rw [List.getElem?_eq_getElem hl, bt_eq]
    have e3 : ((i : Int) + 1).toNat = 1 + i := by omega
    rw [e3, List.getD_eq_getElem?_getD, List.getElem?_eq_getElem hl]
    simp
    have := bytesOf_range b _ (List.getElem_mem hl)
    omega
/-- What was written is read as it was. -/
theorem readNum_num (m : Nat) (hm : m ≤ 9007199254740991) (rest : ByteArray) : readNum (strOfNums (numL m) ++ rest) = ((m : Int), rest, none) := by
  have h7 := bsize_7 hm
  generalize hs : strOfNums (numL m) ++ rest = s
  have hb : bytesOf s = numL m ++ bytesOf rest := by rw [← hs, bytesOf_append, bytesOf_num hm]
  have hz : s.size = bsize m + 1 + rest.size := by rw [bytesOf_size, hb, List.length_append, numL_length, bytesOf_length]
  have h0 : bt s 0 = (bsize m : Nat) := by rw [bt_eq, hb]; rfl
  have hp : ∀ i, i ≤ bsize m → pval s i = m / 256 ^ (bsize m - i) := by
    intro i
    induction i with
    | zero =>
      intro _
      rw [pval, Nat.sub_zero, Nat.div_eq_of_lt (lt_of_bsize m)]
    | succ i ih =>
      intro hi
      rw [pval, ih (by omega)]
      have e : bt s ((i : Int) + 1) = ((m / 256 ^ (bsize m - 1 - i) % 256 : Nat) : Int) := by
        rw [bt_eq, hb]
        have e3 : ((i : Int) + 1).toNat = i + 1 := by omega
        rw [e3, numL, List.cons_append, List.getD_cons_succ, List.getD_eq_getElem?_getD, List.getElem?_append_left (by rw [digs_length]; omega), ← List.getD_eq_getElem?_getD, digs_get _ _ _ (by omega)]
      rw [e, Int.toNat_natCast, show bsize m - i = (bsize m - 1 - i) + 1 by omega, show bsize m - (i + 1) = bsize m - 1 - i by omega, Nat.pow_succ, ← Nat.div_div_eq_div_mul]
      omega
  have hv := hp (bsize m) (Nat.le_refl _)
  rw [Nat.sub_self, Nat.pow_zero, Nat.div_one] at hv
  unfold readNum
  rw [h0, Int.toNat_natCast, hv, if_neg (by omega), if_neg (by omega), if_neg (by omega), if_neg (by simp), if_neg (by omega)]
  have he : s.extract (1 + bsize m) s.size = rest := by
    apply bytesOf_inj
    rw [bytesOf_extract, hb, hz]
    have : 1 + bsize m = (numL m).length := by rw [numL_length]; omega
    rw [this, List.drop_left, List.take_of_length_le (by rw [bytesOf_length, numL_length]; omega)]
  rw [he]
/-- A reading that goes well, and one that doesn't. -/
theorem readNum_cases (b : ByteArray) : (∃ e, readNum b = (0, ⟨#[]⟩, some e) ∧ (e = 2 ∨ e = 3)) ∨ ∃ (n : Nat) (rest : ByteArray), n ≤ 9007199254740991 ∧ readNum b = ((n : Int), rest, none) ∧ strOfNums (numL n) ++ rest = b := by
  have b0 := bt_range b 0
  unfold readNum
  by_cases c0 : b.size = 0
  · rw [if_pos c0]; exact .inl ⟨2, rfl, .inl rfl⟩
  rw [if_neg c0]
  by_cases c1 : 7 < (bt b 0).toNat
  · rw [if_pos c1]; exact .inl ⟨3, rfl, .inr rfl⟩
  rw [if_neg c1]
  by_cases c2 : b.size ≤ (bt b 0).toNat
  · rw [if_pos c2]; exact .inl ⟨2, rfl, .inl rfl⟩
  rw [if_neg c2]
  by_cases c3 : bsize (pval b (bt b 0).toNat) ≠ (bt b 0).toNat
  · rw [if_pos c3]; exact .inl ⟨3, rfl, .inr rfl⟩
  rw [if_neg c3]
  by_cases c4 : 9007199254740991 < pval b (bt b 0).toNat
  · rw [if_pos c4]; exact .inl ⟨3, rfl, .inr rfl⟩
  rw [if_neg c4]
  refine .inr ⟨_, _, by omega, rfl, ?_⟩
  have c3' : bsize (pval b (bt b 0).toNat) = (bt b 0).toNat := by omega
  apply bytesOf_inj
  rw [bytesOf_append, bytesOf_num (by omega), bytesOf_extract, numL, c3', digs_pval b _ (by omega)]
  generalize hk : (bt b 0).toNat = k at *
  have hl : 0 < (bytesOf b).length := by rw [bytesOf_length]; omega
  obtain ⟨x, l, hxl⟩ : ∃ x l, bytesOf b = x :: l := by
    cases h : bytesOf b with
    | nil => rw [h] at hl; exact absurd hl (by simp)
    | cons x l => exact ⟨x, l, rfl⟩
  have hx : bt b 0 = x := by rw [bt_eq, hxl]; rfl
  have hlen : l.length = b.size - 1 := by have := bytesOf_length b; rw [hxl] at this; simp at this; omega
  rw [hxl, show 1 + k = k + 1 by omega, List.drop_succ_cons, List.drop_succ_cons, List.drop_zero]
  rw [List.take_of_length_le (l := l.drop k) (by rw [List.length_drop]; omega), List.cons_append, List.take_append_drop]
  congr 1
  omega
theorem readNum_short (m : Nat) (hm : m ≤ 9007199254740991) (rest : ByteArray) (c : Nat) (hc : c ≤ bsize m) : readNum ((strOfNums (numL m) ++ rest).extract 0 c) = (0, ⟨#[]⟩, some 2) := by
  have h7 := bsize_7 hm
  generalize hs : strOfNums (numL m) ++ rest = s
  have hb : bytesOf s = numL m ++ bytesOf rest := by rw [← hs, bytesOf_append, bytesOf_num hm]
  have hz : s.size = bsize m + 1 + rest.size := by rw [bytesOf_size, hb, List.length_append, numL_length, bytesOf_length]
  have hz2 : (s.extract 0 c).size = c := by rw [ByteArray.size_extract]; omega
  unfold readNum
  rw [hz2]
  by_cases c0 : c = 0
  · rw [if_pos c0]
  · have h0 : bt (s.extract 0 c) 0 = (bsize m : Nat) := by
      rw [bt_eq, bytesOf_extract, hb]
      obtain ⟨c, rfl⟩ : ∃ d, c = d + 1 := ⟨c - 1, by omega⟩
      simp [numL]
    rw [if_neg c0, h0, Int.toNat_natCast, if_neg (by omega), if_pos (by omega)]

/-! ## Texts -/
theorem bsize_text {n : Nat} (h : n ≤ 1048576) : bsize n ≤ 3 := bsize_le (by omega)
def textR (s : ByteArray) : ByteArray × Option Int := if 1048576 < s.size then (⟨#[]⟩, some 5) else (strOfNums (numL s.size) ++ s, none)
theorem textL_size (s : ByteArray) : (strOfNums (numL s.size) ++ s).size = bsize s.size + 1 + s.size := by
  rw [bytesOf_size, bytesOf_append, List.length_append, bytesOf_length, bytesOf_length, size_strOfNums, numL_length]
theorem text_big (s : ByteArray) (k : Nat) (hk : 10 ≤ k) : pack_Text.f k s = some (textR s) := by
  have hK := num_big (s.size : Int)
  unfold pack_Text.f textR
  by_cases h : 1048576 < s.size
  · rw [if_pos (by omega), if_pos h]
  · rw [if_neg (by omega), if_neg h, hK k hk, numR, if_neg (by omega)]
    simp only [Option.bind_some, Int.toNat_natCast]
    rw [if_pos]
    rw [size_strOfNums, numL_length]
    have := bsize_text (n := s.size) (by omega)
    omega
theorem text_ev (s : ByteArray) : ∃ K, ∀ k, K ≤ k → pack_Text.f k s = some (textR s) := ⟨10, fun k hk => text_big s k hk⟩
end Go.Proofs.Ytgfgdpmpbpofbaa.Print
