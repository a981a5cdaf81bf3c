import Derived.Test.YtgfgdpmpbpofbaaXBytes
import Derived.Test.YtgfgdpmpbpofbaaPrint5
import Derived.Test.YtgfgdpmpbpofbaaHPackReadNum
import Derived.Test.YtgfgdpmpbpofbaaPrint7
import Derived.Test.YtgfgdpmpbpofbaaPrint10
import Derived.Test.YtgfgdpmpbpofbaaPrint14
import Derived.Test.YtgfgdpmpbpofbaaPrint19
import Derived.Test.YtgfgdpmpbpofbaaPrint17
import Derived.Test.YtgfgdpmpbpofbaaPrint2
import Derived.Test.YtgfgdpmpbpofbaaPrint3
import Derived.Test.YtgfgdpmpbpofbaaHBlockEncode
import Derived.Test.YtgfgdpmpbpofbaaPrint6
import Derived.Test.YtgfgdpmpbpofbaaPrint8
import Derived.Test.YtgfgdpmpbpofbaaHBlockDecode
import Derived.Test.YtgfgdpmpbpofbaaHBlockRefEnc
import Derived.Test.YtgfgdpmpbpofbaaPrint13
import Derived.Test.YtgfgdpmpbpofbaaPrint20
namespace Go.Proofs.Ytgfgdpmpbpofbaa.Print
open Go.RowKit Go.Proofs.YtgfgdpmpbpofbaaX Go.Proofs.YtgfgdpmpbpofbaaW.PrintWords Go.Proofs.YtgfgdpmpbpofbaaW.PrintLast
set_option linter.unusedVariables false
set_option linter.unusedSimpArgs false

/-! ## Numbers as bytes -/
/-- The last k digits to base 256, the greatest one first. -/
def digs : Nat → Nat → List Int
  | 0, _ => []
  | k + 1, n => digs k (n / 256) ++ [((n % 256 : Nat) : Int)]
theorem digs_length (k n : Nat) : (digs k n).length = k := by
  induction k generalizing n with
  | zero => rfl
  | succ k ih => simp [digs, ih]
theorem digs_range (k n : Nat) : ∀ x ∈ digs k n, 0 ≤ x ∧ x < 256 := by
  induction k generalizing n with
  | zero => intro x hx; cases hx
  | succ k ih =>
    intro x hx
    simp only [digs, List.mem_append, List.mem_singleton] at hx
    rcases hx with hx | rfl
    · exact ih _ x hx
    · omega
/-- A number's bytes. -/
def numL (n : Nat) : List Int := ((bsize n : Nat) : Int) :: digs (bsize n) n
theorem numL_length (n : Nat) : (numL n).length = bsize n + 1 := by simp [numL, digs_length]
theorem bsize_7 {n : Nat} (h : n ≤ 9007199254740991) : bsize n ≤ 7 := bsize_le (by omega)
theorem numL_range {n : Nat} (h : n ≤ 9007199254740991) : ∀ x ∈ numL n, 0 ≤ x ∧ x < 256 := by
  intro x hx
  have := bsize_7 h
  rcases List.mem_cons.1 hx with rfl | hx
  · omega
  · exact digs_range _ _ x hx
/-- What writing a number comes to. -/
def numR (n : Int) : ByteArray × Option Int := if n < 0 ∨ 9007199254740991 < n then (⟨#[]⟩, some 1) else (strOfNums (numL n.toNat), none)
theorem bytesOf_num {n : Nat} (h : n ≤ 9007199254740991) : bytesOf (strOfNums (numL n)) = numL n := bytesOf_strOfNums (numL_range h)

theorem size_l1 : ∀ (k n : Nat) (x : Int), bsize n < k → 0 ≤ x → x + bsize n ≤ 4611686018427387904 → pack_size.l0 k (n : Int) x = some (x + bsize n) := by
  intro k
  induction k with
  | zero => intro n x h; omega
  | succ k ih =>
    intro n x h h0 h1
    simp only [pack_size.l0]
    by_cases hn : n = 0
    · subst hn
      rw [if_neg (by decide), bsize_zero]
      simp
    · have hb := bsize_pos (n := n) (by omega)
      rw [if_pos (by omega), wrap_of _ (by omega) (by omega), show (n : Int) / 256 = ((n / 256 : Nat) : Int) by omega, ih (n / 256) (x + 1) (by omega) (by omega) (by omega), hb]
      congr 1
      omega
theorem size_big (n : Nat) (k : Nat) (h : bsize n < k) (h2 : bsize n ≤ 1000) : pack_size.f k (n : Int) = some (bsize n : Int) := by
  unfold pack_size.f
  rw [size_l1 k n 0 h (by omega) (by omega), Int.zero_add]
theorem size_ev (n : Nat) (h : bsize n ≤ 1000) : ∃ K, ∀ k, K ≤ k → pack_size.f k (n : Int) = some (bsize n : Int) := ⟨bsize n + 1, fun k hk => size_big n k (by omega) h⟩
theorem num_big (n : Int) : ∀ k, 10 ≤ k → pack_Num.f k n = some (numR n) := by
  by_cases h0 : n < 0
  · intro k hk
    obtain ⟨k, rfl⟩ : ∃ m, k = m + 1 := ⟨k - 1, by omega⟩
    simp only [pack_Num.f]
    rw [if_pos h0, numR, if_pos (.inl h0)]
    simp [pack_Num.j0]
  by_cases h1 : 9007199254740991 < n
  · intro k hk
    obtain ⟨k, rfl⟩ : ∃ m, k = m + 1 := ⟨k - 1, by omega⟩
    simp only [pack_Num.f]
    rw [if_neg h0, numR, if_pos (.inr h1)]
    simp [pack_Num.j0, h1]
  obtain ⟨m, rfl⟩ := Int.eq_ofNat_of_zero_le (show 0 ≤ n by omega)
  have hm : m ≤ 9007199254740991 := by omega
  have h7 := bsize_7 hm
  have hK : ∀ k, 9 ≤ k → pack_size.f k (m : Int) = some (bsize m : Int) := fun k hk => size_big m k (by omega) (by omega)
  intro k hk
  obtain ⟨k, rfl⟩ : ∃ m, k = m + 1 := ⟨k - 1, by omega⟩
  simp only [pack_Num.f]
  rw [if_neg h0, numR, if_neg (by omega)]
  have hd : decide ((m : Int) > 9007199254740991) = false := decide_eq_false (by omega)
  rw [hd]
  simp only [pack_Num.j0]
  rw [if_neg (by simp), hK k (by omega)]
  simp only [Option.bind_some, Int.toNat_natCast, numL]
  generalize hs : bsize m = s at h7 ⊢
  have e (q : Nat) : ((m : Int) / (q : Nat)) % 256 = ((m / q % 256 : Nat) : Int) := by simp
  have cases_ : s = 0 ∨ s = 1 ∨ s = 2 ∨ s = 3 ∨ s = 4 ∨ s = 5 ∨ s = 6 ∨ s = 7 := by omega
  rcases cases_ with rfl | rfl | rfl | rfl | rfl | rfl | rfl | rfl <;>
    simp [digs, Nat.div_div_eq_div_mul] <;> omega
theorem num_ev (n : Int) : ∃ K, ∀ k, K ≤ k → pack_Num.f k n = some (numR n) := ⟨10, num_big n⟩
end Go.Proofs.Ytgfgdpmpbpofbaa.Print

namespace Go.Proofs.Ytgfgdpmpbpofbaa.Print
open Go.RowKit Go.Proofs.YtgfgdpmpbpofbaaX Go.Proofs.YtgfgdpmpbpofbaaW.PrintWords Go.Proofs.YtgfgdpmpbpofbaaW.PrintLast
set_option linter.unusedVariables false
set_option linter.unusedSimpArgs false

theorem digs_get (k n i : Nat) (h : i < k) : (digs k n).getD i 0 = ((n / 256 ^ (k - 1 - i) % 256 : Nat) : Int) := by
  induction k generalizing n with
  | zero => omega
  | succ k ih =>
    rw [digs, List.getD_eq_getElem?_getD, List.getElem?_append, digs_length]
    by_cases hi : i < k
    · rw [if_pos hi, ← List.getD_eq_getElem?_getD, ih _ hi, Nat.div_div_eq_div_mul, show k + 1 - 1 - i = (k - 1 - i) + 1 by omega, Nat.pow_succ, Nat.mul_comm 256]
    · obtain rfl : i = k := by omega
      simp
theorem digs_pval (b : ByteArray) (i : Nat) (h : i < b.size) : digs i (pval b i) = ((bytesOf b).drop 1).take i := by
  induction i with
  | zero => rfl
  | succ i ih =>
    have h1 := bt_range b ((i : Int) + 1)
    rw [digs, pval]
    have e1 : (pval b i * 256 + (bt b ((i : Int) + 1)).toNat) / 256 = pval b i := by omega
    have e2 : (pval b i * 256 + (bt b ((i : Int) + 1)).toNat) % 256 = (bt b ((i : Int) + 1)).toNat := by omega
    rw [e1, e2, ih (by omega), List.take_add_one, List.getElem?_drop]
    congr 1
    have hl : 1 + i < (bytesOf b).length := by rw [bytesOf_length]; omega
    rw [List.getElem?_eq_getElem hl, bt_eq]
    have e3 : ((i : Int) + 1).toNat = 1 + i := by omega
    rw [e3, List.getD_eq_getElem?_getD, List.getElem?_eq_getElem hl]
    simp
    have := bytesOf_range b _ (List.getElem_mem hl)
    omega
/-- What was written is read as it was. -/
theorem readNum_num (m : Nat) (hm : m ≤ 9007199254740991) (rest : ByteArray) : readNum (strOfNums (numL m) ++ rest) = ((m : Int), rest, none) := by
  have h7 := bsize_7 hm
  generalize hs : strOfNums (numL m) ++ rest = s
  have hb : bytesOf s = numL m ++ bytesOf rest := by rw [← hs, bytesOf_append, bytesOf_num hm]
  have hz : s.size = bsize m + 1 + rest.size := by rw [bytesOf_size, hb, List.length_append, numL_length, bytesOf_length]
  have h0 : bt s 0 = (bsize m : Nat) := by rw [bt_eq, hb]; rfl
  have hp : ∀ i, i ≤ bsize m → pval s i = m / 256 ^ (bsize m - i) := by
    intro i
    induction i with
    | zero =>
      intro _
      rw [pval, Nat.sub_zero, Nat.div_eq_of_lt (lt_of_bsize m)]
    | succ i ih =>
      intro hi
      rw [pval, ih (by omega)]
      have e : bt s ((i : Int) + 1) = ((m / 256 ^ (bsize m - 1 - i) % 256 : Nat) : Int) := by
        rw [bt_eq, hb]
        have e3 : ((i : Int) + 1).toNat = i + 1 := by omega
        rw [e3, numL, List.cons_append, List.getD_cons_succ, List.getD_eq_getElem?_getD, List.getElem?_append_left (by rw [digs_length]; omega), ← List.getD_eq_getElem?_getD, digs_get _ _ _ (by omega)]
      rw [e, Int.toNat_natCast, show bsize m - i = (bsize m - 1 - i) + 1 by omega, show bsize m - (i + 1) = bsize m - 1 - i by omega, Nat.pow_succ, ← Nat.div_div_eq_div_mul]
      omega
  have hv := hp (bsize m) (Nat.le_refl _)
  rw [Nat.sub_self, Nat.pow_zero, Nat.div_one] at hv
  unfold readNum
  rw [h0, Int.toNat_natCast, hv, if_neg (by omega), if_neg (by omega), if_neg (by omega), if_neg (by simp), if_neg (by omega)]
  have he : s.extract (1 + bsize m) s.size = rest := by
    apply bytesOf_inj
    rw [bytesOf_extract, hb, hz]
    have : 1 + bsize m = (numL m).length := by rw [numL_length]; omega
    rw [this, List.drop_left, List.take_of_length_le (by rw [bytesOf_length, numL_length]; omega)]
  rw [he]
/-- A reading that goes well, and one that doesn't. -/
theorem readNum_cases (b : ByteArray) : (∃ e, readNum b = (0, ⟨#[]⟩, some e) ∧ (e = 2 ∨ e = 3)) ∨ ∃ (n : Nat) (rest : ByteArray), n ≤ 9007199254740991 ∧ readNum b = ((n : Int), rest, none) ∧ strOfNums (numL n) ++ rest = b := by
  have b0 := bt_range b 0
  unfold readNum
  by_cases c0 : b.size = 0
  · rw [if_pos c0]; exact .inl ⟨2, rfl, .inl rfl⟩
  rw [if_neg c0]
  by_cases c1 : 7 < (bt b 0).toNat
  · rw [if_pos c1]; exact .inl ⟨3, rfl, .inr rfl⟩
  rw [if_neg c1]
  by_cases c2 : b.size ≤ (bt b 0).toNat
  · rw [if_pos c2]; exact .inl ⟨2, rfl, .inl rfl⟩
  rw [if_neg c2]
  by_cases c3 : bsize (pval b (bt b 0).toNat) ≠ (bt b 0).toNat
  · rw [if_pos c3]; exact .inl ⟨3, rfl, .inr rfl⟩
  rw [if_neg c3]
  by_cases c4 : 9007199254740991 < pval b (bt b 0).toNat
  · rw [if_pos c4]; exact .inl ⟨3, rfl, .inr rfl⟩
  rw [if_neg c4]
  refine .inr ⟨_, _, by omega, rfl, ?_⟩
  have c3' : bsize (pval b (bt b 0).toNat) = (bt b 0).toNat := by omega
  apply bytesOf_inj
  rw [bytesOf_append, bytesOf_num (by omega), bytesOf_extract, numL, c3', digs_pval b _ (by omega)]
  generalize hk : (bt b 0).toNat = k at *
  have hl : 0 < (bytesOf b).length := by rw [bytesOf_length]; omega
  obtain ⟨x, l, hxl⟩ : ∃ x l, bytesOf b = x :: l := by
    cases h : bytesOf b with
    | nil => rw [h] at hl; exact absurd hl (by simp)
    | cons x l => exact ⟨x, l, rfl⟩
  have hx : bt b 0 = x := by rw [bt_eq, hxl]; rfl
  have hlen : l.length = b.size - 1 := by have := bytesOf_length b; rw [hxl] at this; simp at this; omega
  rw [hxl, show 1 + k = k + 1 by omega, List.drop_succ_cons, List.drop_succ_cons, List.drop_zero]
  rw [List.take_of_length_le (l := l.drop k) (by rw [List.length_drop]; omega), List.cons_append, List.take_append_drop]
  congr 1
  omega
theorem readNum_short (m : Nat) (hm : m ≤ 9007199254740991) (rest : ByteArray) (c : Nat) (hc : c ≤ bsize m) : readNum ((strOfNums (numL m) ++ rest).extract 0 c) = (0, ⟨#[]⟩, some 2) := by
  have h7 := bsize_7 hm
  generalize hs : strOfNums (numL m) ++ rest = s
  have hb : bytesOf s = numL m ++ bytesOf rest := by rw [← hs, bytesOf_append, bytesOf_num hm]
  have hz : s.size = bsize m + 1 + rest.size := by rw [bytesOf_size, hb, List.length_append, numL_length, bytesOf_length]
  have hz2 : (s.extract 0 c).size = c := by rw [ByteArray.size_extract]; omega
  unfold readNum
  rw [hz2]
  by_cases c0 : c = 0
  · rw [if_pos c0]
  · have h0 : bt (s.extract 0 c) 0 = (bsize m : Nat) := by
      rw [bt_eq, bytesOf_extract, hb]
      obtain ⟨c, rfl⟩ : ∃ d, c = d + 1 := ⟨c - 1, by omega⟩
      simp [numL]
    rw [if_neg c0, h0, Int.toNat_natCast, if_neg (by omega), if_pos (by omega)]

/-! ## Texts -/
theorem bsize_text {n : Nat} (h : n ≤ 1048576) : bsize n ≤ 3 := bsize_le (by omega)
def textR (s : ByteArray) : ByteArray × Option Int := if 1048576 < s.size then (⟨#[]⟩, some 5) else (strOfNums (numL s.size) ++ s, none)
theorem textL_size (s : ByteArray) : (strOfNums (numL s.size) ++ s).size = bsize s.size + 1 + s.size := by
  rw [bytesOf_size, bytesOf_append, List.length_append, bytesOf_length, bytesOf_length, size_strOfNums, numL_length]
theorem text_big (s : ByteArray) (k : Nat) (hk : 10 ≤ k) : pack_Text.f k s = some (textR s) := by
  have hK := num_big (s.size : Int)
  unfold pack_Text.f textR
  by_cases h : 1048576 < s.size
  · rw [if_pos (by omega), if_pos h]
  · rw [if_neg (by omega), if_neg h, hK k hk, numR, if_neg (by omega)]
    simp only [Option.bind_some, Int.toNat_natCast]
    rw [if_pos]
    rw [size_strOfNums, numL_length]
    have := bsize_text (n := s.size) (by omega)
    omega
theorem text_ev (s : ByteArray) : ∃ K, ∀ k, K ≤ k → pack_Text.f k s = some (textR s) := ⟨10, fun k hk => text_big s k hk⟩
end Go.Proofs.Ytgfgdpmpbpofbaa.Print

namespace Go.Proofs.Ytgfgdpmpbpofbaa.Print
open Go.RowKit Go.Proofs.YtgfgdpmpbpofbaaX Go.Proofs.YtgfgdpmpbpofbaaW.PrintWords Go.Proofs.YtgfgdpmpbpofbaaW.PrintLast
set_option linter.unusedVariables false
set_option linter.unusedSimpArgs false

/-- What reading a text comes to. -/
def readText (b : ByteArray) : ByteArray × ByteArray × Option Int :=
  match (readNum b).2.2 with
  | some e => (⟨#[]⟩, ⟨#[]⟩, some e)
  | none => if 1048576 < (readNum b).1 then (⟨#[]⟩, ⟨#[]⟩, some 5) else if ((readNum b).2.1.size : Int) < (readNum b).1 then (⟨#[]⟩, ⟨#[]⟩, some 2)
    else ((readNum b).2.1.extract 0 (readNum b).1.toNat, (readNum b).2.1.extract (readNum b).1.toNat (readNum b).2.1.size, none)
theorem readText_eq (b : ByteArray) : pack_ReadText.f b = some (readText b) := by
  unfold pack_ReadText.f pack_ReadNum.f readText
  simp only [Option.bind_some]
  rcases readNum_cases b with ⟨e, he, _⟩ | ⟨n, rest, hn, he, hr⟩
  · rw [he]
    simp
  · rw [he]
    simp only [Option.isNone_none, if_true]
    by_cases c1 : 1048576 < (n : Int)
    · rw [if_pos c1, if_pos c1]
    · rw [if_neg c1, if_neg c1]
      by_cases c2 : (rest.size : Int) < (n : Int)
      · rw [if_pos c2, if_pos c2]
      · rw [if_neg c2, if_neg c2, if_pos (by omega), if_pos (by omega)]
theorem readText_text (s : ByteArray) (h : s.size ≤ 1048576) (rest : ByteArray) : readText (strOfNums (numL s.size) ++ s ++ rest) = (s, rest, none) := by
  have hb : strOfNums (numL s.size) ++ s ++ rest = strOfNums (numL s.size) ++ (s ++ rest) := by
    apply bytesOf_inj
    simp only [bytesOf_append, List.append_assoc]
  rw [hb]
  unfold readText
  rw [readNum_num _ (by omega)]
  have hz : (s ++ rest).size = s.size + rest.size := by rw [bytesOf_size, bytesOf_append, List.length_append, bytesOf_length, bytesOf_length]
  simp only [hz]
  rw [if_neg (by omega), if_neg (by omega), Int.toNat_natCast]
  have e1 : (s ++ rest).extract 0 s.size = s := by
    apply bytesOf_inj
    rw [bytesOf_extract, bytesOf_append, List.drop_zero, Nat.sub_zero, ← bytesOf_length s, List.take_left]
  have e2 : (s ++ rest).extract s.size (s.size + rest.size) = rest := by
    apply bytesOf_inj
    rw [bytesOf_extract, bytesOf_append, ← bytesOf_length s, List.drop_left, List.take_of_length_le (by rw [bytesOf_length]; omega)]
  rw [e1, e2]
theorem readText_short (s : ByteArray) (h : s.size ≤ 1048576) (c : Nat) (hc : c < (strOfNums (numL s.size) ++ s).size) : readText ((strOfNums (numL s.size) ++ s).extract 0 c) = (⟨#[]⟩, ⟨#[]⟩, some 2) := by
  unfold readText
  by_cases c1 : c ≤ bsize s.size
  · rw [readNum_short _ (by omega) _ _ c1]
  · rw [textL_size] at hc
    obtain ⟨d, rfl⟩ : ∃ d, c = (numL s.size).length + d := ⟨c - (numL s.size).length, by rw [numL_length]; omega⟩
    rw [numL_length] at hc
    have e : (strOfNums (numL s.size) ++ s).extract 0 ((numL s.size).length + d) = strOfNums (numL s.size) ++ s.extract 0 d := by
      apply bytesOf_inj
      rw [bytesOf_extract, bytesOf_append, bytesOf_append, bytesOf_extract, bytesOf_num (by omega), List.drop_zero, Nat.sub_zero, List.take_append, List.drop_zero, Nat.sub_zero]
      rw [List.take_of_length_le (by omega), Nat.add_sub_cancel_left]
    rw [e, readNum_num _ (by omega)]
    have hz : (s.extract 0 d).size = d := by rw [ByteArray.size_extract]; omega
    simp only [hz]
    rw [if_neg (by omega), if_pos (by omega)]
end Go.Proofs.Ytgfgdpmpbpofbaa.Print

namespace Go.Proofs.Ytgfgdpmpbpofbaa.Print
open Go.RowKit Go.Proofs.YtgfgdpmpbpofbaaX Go.Proofs.YtgfgdpmpbpofbaaW.PrintWords Go.Proofs.YtgfgdpmpbpofbaaW.PrintLast
set_option linter.unusedVariables false
set_option linter.unusedSimpArgs false

theorem digs_rev_succ (k n : Nat) : (digs (k + 1) n).reverse = ((n % 256 : Nat) : Int) :: (digs k (n / 256)).reverse := by
  rw [digs, List.reverse_append]
  rfl
theorem refnum_l1 (l : List Int) : ∀ (i : Nat) (acc : List Int) (k : Nat), i ≤ l.length → i < k → acc.length + i < 1000 → l.length < 1000 →
    palinoderef01_Num.l1 k l acc ((i : Int) - 1) = some (strOfNums (acc ++ (l.take i).reverse), true) := by
  intro i
  induction i with
  | zero =>
    intro acc k hi hk ha hl
    obtain ⟨k, rfl⟩ : ∃ m, k = m + 1 := ⟨k - 1, by omega⟩
    simp only [palinoderef01_Num.l1]
    rw [if_neg (by omega)]
    simp
  | succ i ih =>
    intro acc k hi hk ha hl
    obtain ⟨k, rfl⟩ : ∃ m, k = m + 1 := ⟨k - 1, by omega⟩
    simp only [palinoderef01_Num.l1]
    have e : ((i + 1 : Nat) : Int) - 1 = (i : Int) := by omega
    rw [e, if_pos (by omega), if_pos (by omega), if_pos (by omega), if_pos (by omega), wrap_of _ (by omega) (by omega), ih _ k (by omega) (by omega) (by simp; omega) hl]
    have hil : i < l.length := by omega
    have hr : rd l (i : Int) = l[i] := by
      unfold rd
      rw [Int.toNat_natCast, List.getD_eq_getElem?_getD, List.getElem?_eq_getElem hil]
      rfl
    have hq : (l.take (i + 1)).reverse = l[i] :: (l.take i).reverse := by
      rw [List.take_add_one, List.getElem?_eq_getElem hil, List.reverse_append]
      rfl
    rw [hr, hq, List.append_assoc]
    rfl
theorem refnum_l0 (n : Nat) : ∀ (k : Nat) (acc : List Int), n ≤ 9007199254740991 → acc.length + bsize n ≤ 255 → acc.length + bsize n + bsize n + 3 ≤ k →
    palinoderef01_Num.l0 k (n : Int) acc = some (strOfNums (((acc.length + bsize n : Nat) : Int) :: (acc ++ (digs (bsize n) n).reverse).reverse), true) := by
  induction n using Nat.strongRecOn with
  | _ n ih =>
    intro k acc hn ha hk
    obtain ⟨k, rfl⟩ : ∃ m, k = m + 1 := ⟨k - 1, by omega⟩
    simp only [palinoderef01_Num.l0]
    by_cases h0 : n = 0
    · subst h0
      rw [if_neg (by omega), bsize_zero]
      have h1 := refnum_l1 acc acc.length [((acc.length : Int)) % 256] k (Nat.le_refl _) (by omega) (by simp; omega) (by omega)
      rw [wrap_of _ (by omega) (by omega), h1]
      rw [List.take_length]
      have e : ((acc.length : Int)) % 256 = ((acc.length + 0 : Nat) : Int) := by omega
      simp [digs, e]
    · have hp := bsize_pos (n := n) (by omega)
      have hq : wrap64 (Int.tdiv (n : Int) 256) = ((n / 256 : Nat) : Int) := by
        rw [Int.tdiv_eq_ediv_of_nonneg (by omega), wrap_of _ (by omega) (by omega)]
        omega
      have hm : Int.tmod (n : Int) 256 % 256 = ((n % 256 : Nat) : Int) := by
        rw [Int.tmod_eq_emod_of_nonneg (by omega)]
        omega
      rw [if_pos (by omega), if_pos (by omega), hq, hm, ih (n / 256) (by omega) k _ (by omega) (by simp; omega) (by simp; omega), hp, digs_rev_succ]
      have e1 : ((((acc ++ [((n % 256 : Nat) : Int)]).length + bsize (n / 256) : Nat)) : Int) = ((acc.length + (bsize (n / 256) + 1) : Nat) : Int) := by
        simp
        omega
      have e2 : acc ++ [((n % 256 : Nat) : Int)] ++ (digs (bsize (n / 256)) (n / 256)).reverse = acc ++ ((n % 256 : Nat) : Int) :: (digs (bsize (n / 256)) (n / 256)).reverse := by
        rw [List.append_assoc]
        rfl
      rw [e1, e2]
theorem refnum_big (n : Int) (k : Nat) (hk : 30 ≤ k) : palinoderef01_Num.f k n = some ((numR n).1, (numR n).2.isNone) := by
  obtain ⟨k, rfl⟩ : ∃ m, k = m + 1 := ⟨k - 1, by omega⟩
  unfold palinoderef01_Num.f numR
  by_cases h0 : n < 0
  · rw [if_pos h0, if_pos (.inl h0)]
    simp [palinoderef01_Num.j0]
  by_cases h1 : 9007199254740991 < n
  · rw [if_neg h0, if_pos (.inr h1)]
    simp [palinoderef01_Num.j0, h1]
  obtain ⟨m, rfl⟩ := Int.eq_ofNat_of_zero_le (show 0 ≤ n by omega)
  have h7 := bsize_7 (n := m) (by omega)
  rw [if_neg h0, if_neg (by omega)]
  simp only [palinoderef01_Num.j0]
  rw [if_neg (by simpa using h1), refnum_l0 m k [] (by omega) (by simp; omega) (by simp; omega)]
  simp [numL]
theorem refnum_ev (n : Int) : ∃ K, ∀ k, K ≤ k → palinoderef01_Num.f k n = some ((numR n).1, (numR n).2.isNone) := ⟨30, refnum_big n⟩
/-- What the document's reading of a number comes to. -/
def refRead (b : ByteArray) : Int × ByteArray × Int := ((readNum b).1, (readNum b).2.1, (readNum b).2.2.getD 0)
theorem pval_top (b : ByteArray) (k : Nat) : (bt b 1).toNat * 256 ^ k ≤ pval b (k + 1) ∧ pval b (k + 1) < ((bt b 1).toNat + 1) * 256 ^ k := by
  induction k with
  | zero =>
    have := bt_range b 1
    simp only [pval, Nat.pow_zero, Nat.zero_mul, Nat.zero_add, Nat.mul_one]
    have e : ((0 : Nat) : Int) + 1 = 1 := by omega
    rw [e]
    omega
  | succ k ih =>
    have := bt_range b (((k + 1 : Nat) : Int) + 1)
    rw [pval, Nat.pow_succ]
    have h1 := ih.1
    have h2 := ih.2
    have e1 : (bt b 1).toNat * (256 ^ k * 256) = ((bt b 1).toNat * 256 ^ k) * 256 := by rw [Nat.mul_assoc]
    have e2 : ((bt b 1).toNat + 1) * (256 ^ k * 256) = (((bt b 1).toNat + 1) * 256 ^ k) * 256 := by rw [Nat.mul_assoc]
    rw [e1, e2]
    omega
theorem bsize_top (b : ByteArray) (k : Nat) : bsize (pval b (k + 1)) = k + 1 ↔ bt b 1 ≠ 0 := by
  have h := pval_top b k
  have hr := bt_range b 1
  have hle : bsize (pval b (k + 1)) ≤ k + 1 := bsize_le (pval_lt b (k + 1))
  constructor
  · intro he h0
    rw [h0] at h
    have : bsize (pval b (k + 1)) ≤ k := bsize_le (by simpa using h.2)
    omega
  · intro h0
    rcases Nat.lt_or_ge (bsize (pval b (k + 1))) (k + 1) with hlt | hge
    · have h1 := lt_of_bsize (pval b (k + 1))
      have h2 : 256 ^ bsize (pval b (k + 1)) ≤ 256 ^ k := Nat.pow_le_pow_right (by decide) (by omega)
      have h3 : 1 * 256 ^ k ≤ (bt b 1).toNat * 256 ^ k := Nat.mul_le_mul_right _ (by omega)
      omega
    · omega
theorem refread_l0 (b : ByteArray) (s : Nat) (hs : s ≤ 7) (hlt : s < b.size) (hb : b.size ≤ 140737488351232) : ∀ (d i k : Nat), i + d = s → d < k →
    palinoderef01_ReadNum.l0 k b (s : Int) ((pval b i : Nat) : Int) (i : Int) = if 9007199254740991 < pval b s then some (0, ⟨#[]⟩, 3) else some (((pval b s : Nat) : Int), b.extract (1 + s) b.size, 0) := by
  intro d
  induction d with
  | zero =>
    intro i k hi hk
    obtain ⟨k, rfl⟩ : ∃ m, k = m + 1 := ⟨k - 1, by omega⟩
    obtain rfl : i = s := by omega
    simp only [palinoderef01_ReadNum.l0]
    rw [if_neg (by omega)]
    by_cases c : 9007199254740991 < pval b i
    · rw [if_pos (by omega), if_pos c]
    · rw [if_neg (by omega), if_neg c, wrap_of _ (by omega) (by omega), if_pos (by omega), if_pos (by omega)]
      congr 3
  | succ d ih =>
    intro i k hi hk
    obtain ⟨k, rfl⟩ : ∃ m, k = m + 1 := ⟨k - 1, by omega⟩
    simp only [palinoderef01_ReadNum.l0]
    have h1 := pval_lt b i
    have h2 : 256 ^ i ≤ 256 ^ 6 := Nat.pow_le_pow_right (by decide) (by omega)
    have h3 := bt_range b (1 + (i : Int))
    rw [if_pos (by omega), wrap_of (1 + (i : Int)) (by omega) (by omega), if_pos (by omega), if_pos (by omega), wrap_of (256 * _) (by omega) (by omega), wrap_of (bt b _) (by omega) (by omega), wrap_of (256 * _ + _) (by omega) (by omega), wrap_of ((i : Int) + 1) (by omega) (by omega)]
    have e1 : 256 * ((pval b i : Nat) : Int) + bt b (1 + (i : Int)) = ((pval b (i + 1) : Nat) : Int) := by
      rw [pval, show (1 + (i : Int)) = (i : Int) + 1 by omega]
      have h4 := bt_range b ((i : Int) + 1)
      omega
    have e2 : (i : Int) + 1 = ((i + 1 : Nat) : Int) := by omega
    rw [e1, e2, ih (i + 1) k (by omega) (by omega)]
theorem refread_big (b : ByteArray) (hb : b.size ≤ 140737488351232) (k : Nat) (hk : 30 ≤ k) : palinoderef01_ReadNum.f k b = some (refRead b) := by
  have b0 := bt_range b 0
  have b1 := bt_range b 1
  unfold palinoderef01_ReadNum.f refRead readNum
  by_cases c0 : b.size = 0
  · rw [if_pos (toList_nil_iff.2 c0), if_pos c0]
    rfl
  rw [if_neg (fun h => c0 (toList_nil_iff.1 h)), if_neg c0, if_pos (by omega), wrap_of (bt b 0) (by omega) (by omega)]
  obtain ⟨s, hs⟩ := Int.eq_ofNat_of_zero_le b0.1
  rw [hs] at b0 ⊢
  simp only [Int.toNat_natCast]
  by_cases c1 : 7 < s
  · rw [if_pos (by omega), if_pos c1]
    rfl
  rw [if_neg (by omega), if_neg c1, wrap_of _ (by omega) (by omega)]
  by_cases c2 : b.size ≤ s
  · rw [if_pos (by omega), if_pos c2]
    rfl
  rw [if_neg (by omega), if_neg c2]
  obtain ⟨k, rfl⟩ : ∃ m, k = m + 1 := ⟨k - 1, by omega⟩
  have loop := refread_l0 b s (by omega) (by omega) hb s 0 k (by omega) (by omega)
  have e0 : ((pval b 0 : Nat) : Int) = 0 := rfl
  rw [e0, show ((0 : Nat) : Int) = 0 from rfl] at loop
  by_cases c3 : s = 0
  · subst c3
    rw [if_neg (by omega)]
    simp only [palinoderef01_ReadNum.j0]
    rw [if_neg (by simp), loop, show pval b 0 = 0 from rfl, bsize_zero]
    simp
  · obtain ⟨q, rfl⟩ : ∃ q, s = q + 1 := ⟨s - 1, by omega⟩
    have ht := bsize_top b q
    rw [if_pos (by omega), if_pos (by omega)]
    simp only [palinoderef01_ReadNum.j0]
    by_cases c4 : bt b 1 = 0
    · rw [c4, if_pos (by simp), if_pos (by rw [ne_eq, ht]; simp [c4])]
      rfl
    · rw [if_neg (by simpa using c4), if_neg (by rw [ne_eq, ht]; simp [c4]), loop]
      by_cases c5 : 9007199254740991 < pval b (q + 1)
      · rw [if_pos c5, if_pos c5]
        rfl
      · rw [if_neg c5, if_neg c5]
        rfl
theorem refread_ev (b : ByteArray) (hb : b.size ≤ 140737488351232) : ∃ K, ∀ k, K ≤ k → palinoderef01_ReadNum.f k b = some (refRead b) := ⟨30, refread_big b hb⟩
theorem readNum_err (b : ByteArray) : (readNum b).2.2 ≠ some 0 := by
  rcases readNum_cases b with ⟨e, he, h⟩ | ⟨n, rest, hn, he, hr⟩
  · rw [he]
    rcases h with rfl | rfl <;> simp
  · rw [he]
    simp
theorem reftext_big (s : ByteArray) (k : Nat) (hk : 30 ≤ k) : palinoderef01_Text.f k s = some ((textR s).1, (textR s).2.isNone) := by
  have hK := refnum_big (s.size : Int)
  unfold palinoderef01_Text.f textR
  by_cases h : 1048576 < s.size
  · rw [if_pos (by omega), if_pos h]
    rfl
  · rw [if_neg (by omega), if_neg h, hK k hk, numR, if_neg (by omega)]
    simp only [Option.bind_some, Int.toNat_natCast]
    rw [if_pos]
    · rfl
    · rw [size_strOfNums, numL_length]
      have := bsize_text (n := s.size) (by omega)
      omega
theorem reftext_ev (s : ByteArray) : ∃ K, ∀ k, K ≤ k → palinoderef01_Text.f k s = some ((textR s).1, (textR s).2.isNone) := ⟨30, reftext_big s⟩
def refReadText (b : ByteArray) : ByteArray × ByteArray × Int := ((readText b).1, (readText b).2.1, (readText b).2.2.getD 0)
theorem refreadtext_big (b : ByteArray) (hb : b.size ≤ 140737488351232) (k : Nat) (hk : 30 ≤ k) : palinoderef01_ReadText.f k b = some (refReadText b) := by
  have hK := refread_big b hb
  unfold palinoderef01_ReadText.f refReadText
  rw [hK k hk]
  simp only [Option.bind_some, refRead]
  rcases readNum_cases b with ⟨e, he, h⟩ | ⟨n, rest, hn, he, hr⟩
  · have : e ≠ 0 := by rcases h with rfl | rfl <;> decide
    simp [readText, he, this]
  · rw [readText, he]
    simp only [Option.getD_none, if_true]
    by_cases c1 : 1048576 < (n : Int)
    · rw [if_pos c1, if_pos c1]
      rfl
    · rw [if_neg c1, if_neg c1]
      by_cases c2 : (rest.size : Int) < (n : Int)
      · rw [if_pos c2, if_pos c2]
        rfl
      · rw [if_neg c2, if_neg c2, if_pos (by omega), if_pos (by omega)]
        rfl
theorem refreadtext_ev (b : ByteArray) (hb : b.size ≤ 140737488351232) : ∃ K, ∀ k, K ≤ k → palinoderef01_ReadText.f k b = some (refReadText b) := ⟨30, refreadtext_big b hb⟩
theorem readText_err (b : ByteArray) : (readText b).2.2 ≠ some 0 := by
  rcases readNum_cases b with ⟨e, he, h⟩ | ⟨n, rest, hn, he, hr⟩
  · rw [readText, he]
    rcases h with rfl | rfl <;> simp
  · rw [readText, he]
    simp only
    split
    · simp
    · split <;> simp
end Go.Proofs.Ytgfgdpmpbpofbaa.Print

namespace Go.Proofs.Ytgfgdpmpbpofbaa.Print
open Go.RowKit Go.Proofs.YtgfgdpmpbpofbaaX Go.Proofs.YtgfgdpmpbpofbaaW.PrintWords Go.Proofs.YtgfgdpmpbpofbaaW.PrintLast
set_option linter.unusedVariables false
set_option linter.unusedSimpArgs false

/-! ## The order of texts -/
abbrev Ent := S26
def bless (a b : ByteArray) : Bool := Op.bytesLess a.toList b.toList
theorem u8_tri (a b : UInt8) : a < b ∨ a = b ∨ b < a := by
  rcases Nat.lt_trichotomy a.toNat b.toNat with h | h | h
  · exact .inl h
  · exact .inr (.inl (UInt8.toNat_inj.1 h))
  · exact .inr (.inr h)
theorem u8_irr (a : UInt8) : ¬ a < a := fun h => Nat.lt_irrefl _ (show a.toNat < a.toNat from h)
theorem u8_asym {a b : UInt8} (h : a < b) : ¬ b < a := fun h2 => Nat.lt_irrefl _ (Nat.lt_trans (show a.toNat < b.toNat from h) h2)
theorem bl_cons (a b : UInt8) (x y : List UInt8) : Op.bytesLess (a :: x) (b :: y) = (decide (a < b) || (a == b && Op.bytesLess x y)) := rfl
theorem bl_irr : ∀ x : List UInt8, Op.bytesLess x x = false
  | [] => rfl
  | a :: x => by rw [bl_cons, bl_irr x]; simp [u8_irr]
theorem bl_cons_iff {a b : UInt8} {x y : List UInt8} : Op.bytesLess (a :: x) (b :: y) = true ↔ a < b ∨ a = b ∧ Op.bytesLess x y = true := by
  rw [bl_cons, Bool.or_eq_true, Bool.and_eq_true, decide_eq_true_eq, beq_iff_eq]
theorem bl_trans : ∀ {x y z : List UInt8}, Op.bytesLess x y = true → Op.bytesLess y z = true → Op.bytesLess x z = true
  | x, y, [], _, h => by cases y <;> cases h
  | x, [], c :: z, h, _ => by cases x <;> cases h
  | [], b :: y, c :: z, _, _ => rfl
  | a :: x, b :: y, c :: z, h1, h2 => by
    rcases bl_cons_iff.1 h1 with g1 | ⟨e1, g1⟩ <;> rcases bl_cons_iff.1 h2 with g2 | ⟨e2, g2⟩
    · exact bl_cons_iff.2 (.inl (Nat.lt_trans (show a.toNat < b.toNat from g1) (show b.toNat < c.toNat from g2)))
    · exact bl_cons_iff.2 (.inl (e2 ▸ g1))
    · exact bl_cons_iff.2 (.inl (e1 ▸ g2))
    · exact bl_cons_iff.2 (.inr ⟨e1.trans e2, bl_trans g1 g2⟩)
theorem bl_tri : ∀ x y : List UInt8, Op.bytesLess x y = true ∨ x = y ∨ Op.bytesLess y x = true
  | [], [] => .inr (.inl rfl)
  | [], _ :: _ => .inl rfl
  | _ :: _, [] => .inr (.inr rfl)
  | a :: x, b :: y => by
    rcases u8_tri a b with h | rfl | h
    · exact .inl (bl_cons_iff.2 (.inl h))
    · rcases bl_tri x y with h | rfl | h
      · exact .inl (bl_cons_iff.2 (.inr ⟨rfl, h⟩))
      · exact .inr (.inl rfl)
      · exact .inr (.inr (bl_cons_iff.2 (.inr ⟨rfl, h⟩)))
    · exact .inr (.inr (bl_cons_iff.2 (.inl h)))
theorem bl_asym {x y : List UInt8} (h : Op.bytesLess x y = true) : Op.bytesLess y x = false := by
  by_cases c : Op.bytesLess y x = true
  · have := bl_trans h c; rw [bl_irr] at this; cases this
  · simpa using c
theorem compare_eq : ∀ x y : List UInt8, Lib.compareBytes x y = if Op.bytesLess x y = true then -1 else if x = y then 0 else 1
  | [], [] => rfl
  | [], _ :: _ => rfl
  | _ :: _, [] => rfl
  | a :: x, b :: y => by
    unfold Lib.compareBytes
    rw [compare_eq x y]
    rcases u8_tri a b with h | rfl | h
    · rw [if_pos h, if_pos (bl_cons_iff.2 (.inl h))]
    · rw [if_neg (u8_irr a), if_neg (u8_irr a)]
      by_cases c : Op.bytesLess x y = true
      · rw [if_pos c, if_pos (bl_cons_iff.2 (.inr ⟨rfl, c⟩))]
      · rw [if_neg c, if_neg (fun e => (bl_cons_iff.1 e).elim (u8_irr a) (fun q => c q.2))]
        by_cases d : x = y
        · rw [if_pos d, if_pos (by rw [d])]
        · rw [if_neg d, if_neg (fun e => d (by injection e))]
    · have hne : a ≠ b := fun e => u8_irr b (e ▸ h)
      rw [if_neg (u8_asym h), if_pos h, if_neg (fun e => (bl_cons_iff.1 e).elim (u8_asym h) (fun q => hne q.1)), if_neg (fun e => hne (by injection e))]
theorem toList_data (s : ByteArray) : s.data.toList = s.toList := (ByteArray.toList_eq s).symm

/-! ## Entries -/
def gt (l : List Ent) (i : Nat) : Ent := l.getD i z26
def rightB (e : Ent) : Bool := !(e.f2 && e.f3.toList != ([] : List UInt8)) && decide (1 ≤ e.f1) && decide (e.f1 ≤ 9007199254740991) && decide (0 < e.f0.size) && decide (e.f0.size ≤ 80) && decide (e.f3.size ≤ 300)
def beforeB (x y : Ent) : Bool := bless x.f0 y.f0 || (x.f0.toList == y.f0.toList && decide (x.f1 > y.f1))
theorem right_eq (k : Nat) (hk : 1 ≤ k) (e : Ent) : mem_Right.f k e.f0 e.f1 e.f2 e.f3 = some (rightB e) := by
  obtain ⟨k, rfl⟩ : ∃ j, k = j + 1 := ⟨k - 1, by omega⟩
  have key : ∀ b : Bool, mem_Right.j0 (k + 1) b e.f0 e.f1 e.f2 e.f3 = some (!b && decide (1 ≤ e.f1) && decide (e.f1 ≤ 9007199254740991) && decide (0 < e.f0.size) && decide (e.f0.size ≤ 80) && decide (e.f3.size ≤ 300)) := by
    intro b
    simp only [mem_Right.j0]
    cases b with
    | true => simp
    | false =>
      rw [if_neg (by simp)]
      by_cases c1 : e.f1 < 1
      · rw [if_pos c1, decide_eq_false (show ¬ 1 ≤ e.f1 by omega)]; simp
      · rw [if_neg c1, decide_eq_true (show 1 ≤ e.f1 by omega)]
        by_cases c2 : e.f1 > 9007199254740991
        · rw [if_pos c2, decide_eq_false (show ¬ e.f1 ≤ 9007199254740991 by omega)]; simp
        · rw [if_neg c2, decide_eq_true (show e.f1 ≤ 9007199254740991 by omega)]
          by_cases c3 : (e.f0.size : Int) > 0
          · rw [if_pos c3, decide_eq_true (show 0 < e.f0.size by omega)]
            by_cases c4 : (e.f0.size : Int) ≤ 80
            · rw [if_pos c4, decide_eq_true (show e.f0.size ≤ 80 by omega)]
              have : decide ((e.f3.size : Int) ≤ 300) = decide (e.f3.size ≤ 300) := by by_cases c5 : e.f3.size ≤ 300 <;> simp [c5] <;> omega
              rw [this]; simp
            · rw [if_neg c4, decide_eq_false (show ¬ e.f0.size ≤ 80 by omega)]; simp
          · rw [if_neg c3, decide_eq_false (show ¬ 0 < e.f0.size by omega)]; simp
  unfold mem_Right.f rightB
  cases h : e.f2 with
  | true => rw [if_pos rfl, ← h, key, h]; simp
  | false => rw [if_neg (by simp), ← h, key, h]; simp
theorem before_eq (x y : Ent) : mem_Before.f x.f0 x.f1 x.f2 x.f3 y.f0 y.f1 y.f2 y.f3 = some (beforeB x y) := by
  unfold mem_Before.f strings_Compare.f beforeB bless
  rw [Option.bind_some, compare_eq, toList_data, toList_data]
  by_cases c : Op.bytesLess x.f0.toList y.f0.toList = true
  · rw [if_pos c, if_pos rfl, c]; rfl
  · rw [if_neg c]
    have c' : Op.bytesLess x.f0.toList y.f0.toList = false := by simpa using c
    by_cases d : x.f0.toList = y.f0.toList
    · rw [if_pos d, if_neg (by decide), if_pos rfl, c', d]; simp
    · rw [if_neg d, if_neg (by decide), if_neg (by decide), c']
      have : (x.f0.toList == y.f0.toList) = false := beq_eq_false_iff_ne.mpr d
      rw [this]; rfl
def sAt (l : List Ent) (i : Nat) : Bool := rightB (gt l i) && (decide (i = 0) || beforeB (gt l (i - 1)) (gt l i))
def sortedB (l : List Ent) : Bool := (List.range l.length).all (sAt l)
theorem sortedB_iff {l : List Ent} : sortedB l = true ↔ ∀ i, i < l.length → sAt l i = true := by
  unfold sortedB
  rw [List.all_eq_true]
  exact ⟨fun h i hi => h i (List.mem_range.2 hi), fun h i hi => h i (List.mem_range.1 hi)⟩
theorem rd_gt (l : List Ent) (i : Nat) : rd_T26 l (i : Int) = gt l i := by unfold rd_T26 gt; rw [Int.toNat_natCast]
theorem range_drop (n i : Nat) (h : i < n) : (List.range n).drop i = i :: (List.range n).drop (i + 1) := by
  rw [List.drop_eq_getElem_cons (by simp; omega)]
  simp
theorem sorted_l0 (l : List Ent) (hl : l.length ≤ 4611686018427387904) : ∀ (n i k : Nat), l.length - i = n → i ≤ l.length → n + 1 < k → block_Sorted.l0 k l l (l.length : Int) (i : Int) = some (((List.range l.length).drop i).all (sAt l)) := by
  intro n
  induction n with
  | zero =>
    intro i k hn hi hk
    obtain ⟨k, rfl⟩ : ∃ j, k = j + 1 := ⟨k - 1, by omega⟩
    simp only [block_Sorted.l0]
    rw [if_neg (by omega), List.drop_eq_nil_of_le (by simp; omega)]
    rfl
  | succ n ih =>
    intro i k hn hi hk
    obtain ⟨k, rfl⟩ : ∃ j, k = j + 1 := ⟨k - 1, by omega⟩
    simp only [block_Sorted.l0]
    rw [if_pos (by omega), if_pos (by omega), if_pos (by omega), rd_gt, right_eq k (by omega), Option.bind_some, range_drop _ _ (by omega), List.all_cons, wrap_of ((i : Int) + 1) (by omega) (by omega), show (i : Int) + 1 = ((i + 1 : Nat) : Int) by omega, ih (i + 1) k (by omega) (by omega) (by omega)]
    unfold sAt
    cases hr : rightB (gt l i) with
    | false => rw [if_neg (by simp)]; simp
    | true =>
      rw [if_pos rfl]
      by_cases h0 : i = 0
      · subst h0
        rw [if_neg (by omega)]
        simp
      · rw [if_pos (by omega), wrap_of ((i : Int) - 1) (by omega) (by omega), show (i : Int) - 1 = ((i - 1 : Nat) : Int) by omega, if_pos (by omega), if_pos (by omega), rd_gt, before_eq, Option.bind_some, decide_eq_false h0]
        cases hb : beforeB (gt l (i - 1)) (gt l i) with
        | false => rw [if_neg (by simp)]; simp
        | true => rw [if_pos rfl]; simp
theorem sorted_big (l : List Ent) (hl : l.length ≤ 4611686018427387904) (k : Nat) (hk : l.length + 1 < k) : block_Sorted.f k l = some (sortedB l) := by
  unfold block_Sorted.f
  have h := sorted_l0 l hl l.length 0 k (by omega) (by omega) hk
  rw [show ((0 : Nat) : Int) = 0 from rfl, List.drop_zero] at h
  exact h
theorem gt_take {l : List Ent} {n i : Nat} (h : i < n) : gt (l.take n) i = gt l i := by
  unfold gt
  rw [List.getD_eq_getElem?_getD, List.getD_eq_getElem?_getD, List.getElem?_take, if_pos h]
theorem gt_drop (l : List Ent) (n i : Nat) : gt (l.drop n) i = gt l (n + i) := by
  unfold gt
  rw [List.getD_eq_getElem?_getD, List.getD_eq_getElem?_getD, List.getElem?_drop]
theorem gt_get {l : List Ent} {i : Nat} (h : i < l.length) : gt l i = l[i] := by
  unfold gt
  rw [List.getD_eq_getElem?_getD, List.getElem?_eq_getElem h]; rfl
theorem sAt_iff {l : List Ent} {i : Nat} : sAt l i = true ↔ rightB (gt l i) = true ∧ (i = 0 ∨ beforeB (gt l (i - 1)) (gt l i) = true) := by
  unfold sAt
  rw [Bool.and_eq_true, Bool.or_eq_true, decide_eq_true_eq]
theorem sorted_take {l : List Ent} (h : sortedB l = true) (n : Nat) : sortedB (l.take n) = true := by
  rw [sortedB_iff] at h ⊢
  intro i hi
  rw [List.length_take] at hi
  have := sAt_iff.1 (h i (by omega))
  rw [sAt_iff, gt_take (by omega), gt_take (by omega)]
  exact this
theorem sorted_drop {l : List Ent} (h : sortedB l = true) (n : Nat) : sortedB (l.drop n) = true := by
  rw [sortedB_iff] at h ⊢
  intro i hi
  rw [List.length_drop] at hi
  have := sAt_iff.1 (h (n + i) (by omega))
  rw [sAt_iff, gt_drop, gt_drop]
  refine ⟨this.1, ?_⟩
  by_cases c : i = 0
  · exact .inl c
  · rw [show n + (i - 1) = n + i - 1 by omega]
    exact .inr (this.2.resolve_left (by omega))
/-- Two sorted parts. -/
theorem sorted_parts (l : List Ent) (n : Nat) (hn : n ≤ l.length) : sortedB l = (sortedB (l.take n) && sortedB (l.drop n) && (decide (n = 0) || decide (n = l.length) || beforeB (gt l (n - 1)) (gt l n))) := by
  rw [Bool.eq_iff_iff, Bool.and_eq_true, Bool.and_eq_true, Bool.or_eq_true, Bool.or_eq_true, decide_eq_true_eq, decide_eq_true_eq]
  constructor
  · intro h
    refine ⟨⟨sorted_take h n, sorted_drop h n⟩, ?_⟩
    by_cases c : n = 0
    · exact .inl (.inl c)
    · by_cases d : n = l.length
      · exact .inl (.inr d)
      · exact .inr ((sAt_iff.1 (sortedB_iff.1 h n (by omega))).2.resolve_left c)
  · rintro ⟨⟨h1, h2⟩, h3⟩
    rw [sortedB_iff] at h1 h2 ⊢
    intro i hi
    by_cases c : i < n
    · have := sAt_iff.1 (h1 i (by rw [List.length_take]; omega))
      rw [gt_take c, gt_take (by omega)] at this
      exact sAt_iff.2 this
    · have := sAt_iff.1 (h2 (i - n) (by rw [List.length_drop]; omega))
      rw [gt_drop, gt_drop, show n + (i - n) = i by omega] at this
      refine sAt_iff.2 ⟨this.1, ?_⟩
      by_cases d : i = n
      · subst d
        rcases h3 with (h3 | h3) | h3
        · exact .inl h3
        · omega
        · exact .inr h3
      · rw [show n + (i - n - 1) = i - 1 by omega] at this
        exact .inr (this.2.resolve_left (by omega))
end Go.Proofs.Ytgfgdpmpbpofbaa.Print

namespace Go.Proofs.Ytgfgdpmpbpofbaa.Print
open Go.RowKit Go.Proofs.YtgfgdpmpbpofbaaX Go.Proofs.YtgfgdpmpbpofbaaW.PrintWords Go.Proofs.YtgfgdpmpbpofbaaW.PrintLast
set_option linter.unusedVariables false
set_option linter.unusedSimpArgs false

/-! ## How many bytes two texts begin with alike -/
def pre : List Int → List Int → Nat
  | a :: x, b :: y => if a = b then pre x y + 1 else 0
  | _, _ => 0
def shN (a b : ByteArray) : Nat := pre (bytesOf a) (bytesOf b)
theorem pre_le : ∀ x y : List Int, pre x y ≤ x.length ∧ pre x y ≤ y.length
  | [], y => by simp [pre]
  | a :: x, [] => by simp [pre]
  | a :: x, b :: y => by
    have := pre_le x y
    simp only [pre, List.length_cons]
    split <;> omega
theorem shN_le (a b : ByteArray) : shN a b ≤ a.size ∧ shN a b ≤ b.size := by
  have := pre_le (bytesOf a) (bytesOf b)
  rw [bytesOf_length, bytesOf_length] at this
  exact this
theorem bt_get (s : ByteArray) (i : Nat) (h : i < (bytesOf s).length) : bt s (i : Int) = (bytesOf s)[i] := by
  rw [bt_eq, Int.toNat_natCast, List.getD_eq_getElem?_getD, List.getElem?_eq_getElem h]; rfl
theorem shared_l0 (a b : ByteArray) (ha : a.size ≤ 4611686018427387904) (m : Nat) (hm : m = min a.size b.size) : ∀ (n i k : Nat), m - i = n → i ≤ m → n < k →
    block_shared.l0 k a b (m : Int) (i : Int) = some ((i + pre ((bytesOf a).drop i) ((bytesOf b).drop i) : Nat) : Int) := by
  intro n
  induction n with
  | zero =>
    intro i k hn hi hk
    obtain ⟨k, rfl⟩ : ∃ j, k = j + 1 := ⟨k - 1, by omega⟩
    simp only [block_shared.l0]
    rw [if_neg (by omega)]
    have hp : pre ((bytesOf a).drop i) ((bytesOf b).drop i) = 0 := by
      have := pre_le ((bytesOf a).drop i) ((bytesOf b).drop i)
      rw [List.length_drop, List.length_drop, bytesOf_length, bytesOf_length] at this
      omega
    rw [hp]
    unfold mn
    congr 1
    split <;> omega
  | succ n ih =>
    intro i k hn hi hk
    obtain ⟨k, rfl⟩ : ∃ j, k = j + 1 := ⟨k - 1, by omega⟩
    simp only [block_shared.l0]
    have h1 : i < (bytesOf a).length := by rw [bytesOf_length]; omega
    have h2 : i < (bytesOf b).length := by rw [bytesOf_length]; omega
    rw [if_pos (by omega), if_pos (by omega), if_pos (by omega), if_pos (by omega), List.drop_eq_getElem_cons h1, List.drop_eq_getElem_cons h2, bt_get a i h1, bt_get b i h2]
    simp only [pre]
    by_cases c : (bytesOf a)[i] = (bytesOf b)[i]
    · rw [if_pos c, if_pos c, wrap_of _ (by omega) (by omega), show (i : Int) + 1 = ((i + 1 : Nat) : Int) by omega, ih (i + 1) k (by omega) (by omega) (by omega)]
      congr 2
      omega
    · rw [if_neg c, if_neg c]; rfl
theorem shared_eq (a b : ByteArray) (k : Nat) (hk : a.size < k) (ha : a.size ≤ 4611686018427387904) : block_shared.f k a b = some (shN a b : Int) := by
  unfold block_shared.f
  have hm : mn (a.size : Int) (b.size : Int) = ((min a.size b.size : Nat) : Int) := by unfold mn; split <;> omega
  have h := shared_l0 a b ha (min a.size b.size) rfl (min a.size b.size) 0 k (by omega) (by omega) (by omega)
  rw [hm]
  rw [show ((0 : Nat) : Int) = 0 from rfl, List.drop_zero, List.drop_zero, Nat.zero_add] at h
  exact h

/-! ## A block's bytes -/
def textL (s : ByteArray) : List Int := numL s.size ++ bytesOf s
def cutK (s : ByteArray) (n : Nat) : ByteArray := s.extract n s.size
def entL (n : Nat) (e : Ent) : List Int := numL n ++ (textL (cutK e.f0 n) ++ (numL e.f1.toNat ++ (if e.f2 = true then numL 1 else numL 0 ++ textL e.f3)))
def nAt (l : List Ent) (i : Nat) : Nat := if i % 4 = 0 then 0 else shN (gt l (i - 1)).f0 (gt l i).f0
def encFrom (l : List Ent) : Nat → Nat → List Int
  | 0, _ => []
  | m + 1, i => entL (nAt l i) (gt l i) ++ encFrom l m (i + 1)
def encL (l : List Ent) : List Int := numL l.length ++ encFrom l l.length 0
theorem numL_len {n : Nat} (h : n ≤ 9007199254740991) : (numL n).length ≤ 8 := by rw [numL_length]; have := bsize_7 h; omega
theorem cutK_size (s : ByteArray) (n : Nat) : (cutK s n).size = s.size - n := by unfold cutK; rw [ByteArray.size_extract]; omega
theorem textL_len (s : ByteArray) (h : s.size ≤ 1000) : (textL s).length ≤ s.size + 8 := by
  unfold textL
  rw [List.length_append, bytesOf_length]
  have := numL_len (n := s.size) (by omega)
  omega
theorem right_iff {e : Ent} : rightB e = true ↔ (e.f2 = true → e.f3.toList = []) ∧ 1 ≤ e.f1 ∧ e.f1 ≤ 9007199254740991 ∧ 0 < e.f0.size ∧ e.f0.size ≤ 80 ∧ e.f3.size ≤ 300 := by
  unfold rightB
  simp only [Bool.and_eq_true, decide_eq_true_eq, Bool.not_eq_true', Bool.and_eq_false_iff, bne_eq_false_iff_eq]
  constructor
  · rintro ⟨⟨⟨⟨⟨h1, h2⟩, h3⟩, h4⟩, h5⟩, h6⟩
    exact ⟨fun h => h1.resolve_left (by rw [h]; simp), h2, h3, h4, h5, h6⟩
  · rintro ⟨h1, h2, h3, h4, h5, h6⟩
    refine ⟨⟨⟨⟨⟨?_, h2⟩, h3⟩, h4⟩, h5⟩, h6⟩
    cases h : e.f2 with
    | true => exact .inr (h1 h)
    | false => exact .inl rfl
theorem entL_len (n : Nat) (e : Ent) (h : rightB e = true) (hn : n ≤ 1000) : (entL n e).length ≤ 500 := by
  obtain ⟨h1, h2, h3, h4, h5, h6⟩ := right_iff.1 h
  unfold entL
  have a := numL_len (n := n) (by omega)
  have b := textL_len (cutK e.f0 n) (by rw [cutK_size]; omega)
  have c := numL_len (n := e.f1.toNat) (by omega)
  have d := textL_len e.f3 (by omega)
  rw [cutK_size] at b
  have f0 := numL_len (n := 0) (by omega)
  have f1 := numL_len (n := 1) (by omega)
  simp only [List.length_append]
  split
  · omega
  · rw [List.length_append]; omega
theorem nAt_le (l : List Ent) (i : Nat) (h : rightB (gt l i) = true) : nAt l i ≤ (gt l i).f0.size ∧ nAt l i ≤ 80 := by
  obtain ⟨_, _, _, _, h5, _⟩ := right_iff.1 h
  unfold nAt
  split
  · omega
  · have := shN_le (gt l (i - 1)).f0 (gt l i).f0; omega
theorem wnum_eq (xs : List Int) (n : Nat) (h : n ≤ 9007199254740991) (hx : xs.length ≤ 900000000) : wnum xs (n : Int) = some (xs ++ numL n) := by
  unfold wnum
  rw [num_big _ 1000 (by omega), Option.bind_some]
  have e : numR (n : Int) = (strOfNums (numL n), none) := by unfold numR; rw [if_neg (show ¬ ((n : Int) < 0 ∨ 9007199254740991 < (n : Int)) by omega), Int.toNat_natCast]
  rw [e]
  have := numL_len h
  simp only
  rw [if_pos (by rw [size_strOfNums]; omega), bytesOf_num h]
theorem wtext_eq (xs : List Int) (s : ByteArray) (h : s.size ≤ 1000) (hx : xs.length ≤ 900000000) : wtext xs s = some (xs ++ textL s) := by
  unfold wtext
  rw [text_big _ 1000 (by omega), Option.bind_some]
  have e : textR s = (strOfNums (numL s.size) ++ s, none) := by unfold textR; rw [if_neg (show ¬ 1048576 < s.size by omega)]
  rw [e]
  have := numL_len (n := s.size) (by omega)
  simp only
  rw [if_pos (by rw [ByteArray.size_append, size_strOfNums]; omega), bytesOf_append, bytesOf_num (by omega)]
  rfl
theorem encTail_eq (xs : List Int) (n : Nat) (e : Ent) (h : rightB e = true) (hn : n ≤ e.f0.size) (hx : xs.length ≤ 800000000) : encTail e (n : Int) xs = some (xs ++ entL n e) := by
  obtain ⟨h1, h2, h3, h4, h5, h6⟩ := right_iff.1 h
  unfold encTail
  have a := numL_len (n := n) (by omega)
  have b := textL_len (cutK e.f0 n) (by rw [cutK_size]; omega)
  have c := numL_len (n := e.f1.toNat) (by omega)
  rw [cutK_size] at b
  have f0 := numL_len (n := 0) (by omega)
  obtain ⟨q, hq⟩ := Int.eq_ofNat_of_zero_le (show 0 ≤ e.f1 by omega)
  rw [hq, Int.toNat_natCast] at c
  rw [wnum_eq _ _ (by omega) (by omega), Option.bind_some, if_pos ⟨by omega, by omega⟩, Int.toNat_natCast, show e.f0.extract n e.f0.size = cutK e.f0 n from rfl, wtext_eq _ _ (by rw [cutK_size]; omega) (by rw [List.length_append]; omega), Option.bind_some, hq, wnum_eq _ _ (by omega) (by rw [List.length_append, List.length_append]; omega), Option.bind_some]
  unfold entL
  rw [hq, Int.toNat_natCast] at *
  cases hd : e.f2 with
  | true =>
    rw [if_pos rfl, if_pos rfl, show (1 : Int) = ((1 : Nat) : Int) from rfl, wnum_eq _ _ (by omega) (by rw [List.length_append, List.length_append, List.length_append]; omega)]
    simp only [List.append_assoc]
  | false =>
    rw [if_neg (by simp), if_neg (by simp), show (0 : Int) = ((0 : Nat) : Int) from rfl, wnum_eq _ _ (by omega) (by rw [List.length_append, List.length_append, List.length_append]; omega), Option.bind_some, wtext_eq _ _ (by omega) (by rw [List.length_append, List.length_append, List.length_append, List.length_append]; omega)]
    simp only [List.append_assoc]
theorem encOne_eq (l : List Ent) (i : Nat) (xs : List Int) (h : rightB (gt l i) = true) (hp : i % 4 ≠ 0 → (gt l (i - 1)).f0.size ≤ 80) (hx : xs.length ≤ 800000000) : encOne l i xs = some (xs ++ entL (nAt l i) (gt l i)) := by
  unfold encOne
  have hn := nAt_le l i h
  unfold nAt at hn ⊢
  by_cases c : i % 4 = 0
  · rw [if_pos c, if_pos c, rd_gt, show (0 : Int) = ((0 : Nat) : Int) from rfl, encTail_eq _ _ _ h (by omega) hx]
  · rw [if_neg c] at hn
    rw [if_neg c, if_neg c, show (i : Int) - 1 = ((i - 1 : Nat) : Int) by omega, rd_gt, rd_gt, shared_eq _ _ _ (by have := hp c; omega) (by have := hp c; omega), Option.bind_some, encTail_eq _ _ _ h hn.1 hx]
theorem encLoop_eq (l : List Ent) (h : sortedB l = true) (hl : l.length ≤ 200) : ∀ (m i : Nat) (xs : List Int), i + m = l.length → xs.length ≤ 10 + 500 * i → encLoop l m i xs = some (xs ++ encFrom l m i) := by
  intro m
  induction m with
  | zero => intro i xs _ _; simp only [encLoop, encFrom, List.append_nil]
  | succ m ih =>
    intro i xs hi hx
    have hr := (sAt_iff.1 (sortedB_iff.1 h i (by omega))).1
    have hp : i % 4 ≠ 0 → (gt l (i - 1)).f0.size ≤ 80 := fun c => (right_iff.1 (sAt_iff.1 (sortedB_iff.1 h (i - 1) (by omega))).1).2.2.2.2.1
    have hlen := entL_len (nAt l i) (gt l i) hr (by have := (nAt_le l i hr).2; omega)
    simp only [encLoop, encFrom]
    rw [encOne_eq l i xs hr hp (by omega), Option.bind_some, ih (i + 1) _ (by omega) (by rw [List.length_append]; omega), List.append_assoc]
def encR (l : List Ent) : ByteArray × Option Int := if 200 < l.length then (⟨#[]⟩, some 5) else if sortedB l = true then (strOfNums (encL l), none) else (⟨#[]⟩, some 1)
theorem encode_eq (l : List Ent) : block_Encode.f l = some (encR l) := by
  unfold block_Encode.f encR
  by_cases c : 200 < l.length
  · rw [if_pos c, if_pos c]
  · rw [if_neg c, if_neg c, sorted_big l (by omega) 1000 (by omega), Option.bind_some]
    by_cases d : sortedB l = true
    · have a := numL_len (n := l.length) (by omega)
      rw [if_pos d, if_pos d, wnum_eq [] _ (by omega) (by simp), Option.bind_some, List.nil_append, encLoop_eq l d (by omega) _ 0 _ (by omega) (by omega), Option.bind_some]
      rfl
    · rw [if_neg d, if_neg d]
/-! The bytes are bytes. -/
def InB (xs : List Int) : Prop := ∀ x ∈ xs, 0 ≤ x ∧ x < 256
theorem InB.app {xs ys : List Int} (h : InB xs) (k : InB ys) : InB (xs ++ ys) := fun x hx => (List.mem_append.1 hx).elim (h x) (k x)
theorem textL_in (s : ByteArray) (h : s.size ≤ 1000) : InB (textL s) := InB.app (numL_range (by omega)) (bytesOf_range s)
theorem entL_in (n : Nat) (e : Ent) (h : rightB e = true) (hn : n ≤ 1000) : InB (entL n e) := by
  obtain ⟨h1, h2, h3, h4, h5, h6⟩ := right_iff.1 h
  unfold entL
  refine InB.app (numL_range (by omega)) (InB.app (textL_in _ (by rw [cutK_size]; omega)) (InB.app (numL_range (by omega)) ?_))
  split
  · exact numL_range (by omega)
  · exact InB.app (numL_range (by omega)) (textL_in _ (by omega))
theorem encFrom_in (l : List Ent) (h : sortedB l = true) : ∀ (m i : Nat), i + m = l.length → InB (encFrom l m i) := by
  intro m
  induction m with
  | zero => intro i _ x hx; cases hx
  | succ m ih =>
    intro i hi
    have hr := (sAt_iff.1 (sortedB_iff.1 h i (by omega))).1
    exact InB.app (entL_in _ _ hr (by have := (nAt_le l i hr).2; omega)) (ih (i + 1) (by omega))
theorem encL_in (l : List Ent) (h : sortedB l = true) (hl : l.length ≤ 200) : InB (encL l) := InB.app (numL_range (by omega)) (encFrom_in l h l.length 0 (by omega))
theorem bytes_encL (l : List Ent) (h : sortedB l = true) (hl : l.length ≤ 200) : bytesOf (strOfNums (encL l)) = encL l := bytesOf_strOfNums (encL_in l h hl)
/-! ## Few digits -/
theorem numL_zero : numL 0 = [0] := by unfold numL; rw [bsize_zero]; rfl
theorem numL_small {n : Nat} (h0 : 0 < n) (h : n < 256) : numL n = [1, (n : Int)] := by
  unfold numL
  rw [bsize_pos h0, show n / 256 = 0 by omega, bsize_zero]
  simp only [digs]
  rw [show n % 256 = n by omega]
  rfl
end Go.Proofs.Ytgfgdpmpbpofbaa.Print

namespace Go.Proofs.Ytgfgdpmpbpofbaa.Print
open Go.RowKit Go.Proofs.YtgfgdpmpbpofbaaX Go.Proofs.YtgfgdpmpbpofbaaW.PrintWords Go.Proofs.YtgfgdpmpbpofbaaW.PrintLast
set_option linter.unusedVariables false
set_option linter.unusedSimpArgs false

def ex1 : Ent := ⟨⟨#[97, 98]⟩, 2, false, ⟨#[120]⟩⟩
def ex2 : Ent := ⟨⟨#[97, 99]⟩, 1, true, ⟨#[]⟩⟩
theorem ex_sorted : sortedB [ex1, ex2] = true := by
  unfold sortedB sAt rightB beforeB bless ex1 ex2
  simp only [ByteArray.toList_eq]
  decide +kernel
theorem ex_bytes : encL [ex1, ex2] = [1, 2, 0, 1, 2, 97, 98, 1, 2, 0, 1, 1, 120, 1, 1, 1, 1, 99, 1, 1, 1, 1] := by
  have n0 : nAt [ex1, ex2] 0 = 0 := rfl
  have n1 : nAt [ex1, ex2] 1 = 1 := by decide +kernel
  have g0 : gt [ex1, ex2] 0 = ex1 := rfl
  have g1 : gt [ex1, ex2] 1 = ex2 := rfl
  have c0 : cutK ex1.f0 0 = ⟨#[97, 98]⟩ := rfl
  have c1 : cutK ex2.f0 1 = ⟨#[99]⟩ := rfl
  have s1 : ex1.f1.toNat = 2 := rfl
  have s2 : ex2.f1.toNat = 1 := rfl
  have l2 : ([ex1, ex2] : List Ent).length = 2 := rfl
  have t0 : textL (⟨#[97, 98]⟩ : ByteArray) = [1, 2, 97, 98] := by unfold textL; rw [show (⟨#[97, 98]⟩ : ByteArray).size = 2 from rfl, numL_small (by omega) (by omega)]; rfl
  have t1 : textL (⟨#[99]⟩ : ByteArray) = [1, 1, 99] := by unfold textL; rw [show (⟨#[99]⟩ : ByteArray).size = 1 from rfl, numL_small (by omega) (by omega)]; rfl
  have t2 : textL ex1.f3 = [1, 1, 120] := by unfold textL; rw [show ex1.f3.size = 1 from rfl, numL_small (by omega) (by omega)]; rfl
  unfold encL
  rw [l2]
  simp only [encFrom]
  rw [n0, n1, g0, g1]
  unfold entL
  rw [c0, c1, s1, s2, t0, t1, t2, numL_zero, numL_small (n := 2) (by omega) (by omega), numL_small (n := 1) (by omega) (by omega)]
  rfl
theorem examples_big (k : Nat) (hk : 4 ≤ k) : palinodelaw12_examples.f k = some true := by
  unfold palinodelaw12_examples.f
  rw [encode_eq []]
  have e0 : encR [] = (strOfNums [0], none) := by unfold encR encL; rw [if_neg (by simp), if_pos (show sortedB [] = true from rfl), show ([] : List Ent).length = 0 from rfl, numL_zero]; rfl
  have e1 : encR [ex1, ex2] = (strOfNums [1, 2, 0, 1, 2, 97, 98, 1, 2, 0, 1, 1, 120, 1, 1, 1, 1, 99, 1, 1, 1, 1], none) := by unfold encR; rw [if_neg (by simp), if_pos ex_sorted, ex_bytes]
  rw [e0, Option.bind_some, Option.bind_some, show ([⟨⟨#[97, 98]⟩, 2, false, ⟨#[120]⟩⟩, ⟨⟨#[97, 99]⟩, 1, true, ⟨#[]⟩⟩] : List Ent) = [ex1, ex2] from rfl, encode_eq, e1, Option.bind_some]
  rw [if_pos (by rw [ByteArray.toList_eq]; decide +kernel), if_pos (show (none : Option Int).isNone = true from rfl), if_pos (by rw [ByteArray.toList_eq]; decide +kernel), if_pos (show (none : Option Int).isNone = true from rfl), sorted_big [ex1, ex2] (by simp) k (by simp; omega), ex_sorted]
  rfl
theorem examples_true : ∀ k_ r_, palinodelaw12_examples.f k_ = some r_ → r_ = true := by
  intro k r h
  have h2 := at_rounds (g := fun k => palinodelaw12_examples.f k) (fun k => palinodelaw12_examples.mono k) (show k ≤ k + 4 by omega) h
  have h3 := examples_big (k + 4) (by omega)
  exact Option.some.inj (h2.symm.trans h3)
end Go.Proofs.Ytgfgdpmpbpofbaa.Print

namespace Go.Proofs.Ytgfgdpmpbpofbaa.Print
open Go.RowKit Go.Proofs.YtgfgdpmpbpofbaaX Go.Proofs.YtgfgdpmpbpofbaaW.PrintWords Go.Proofs.YtgfgdpmpbpofbaaW.PrintLast
set_option linter.unusedVariables false
set_option linter.unusedSimpArgs false

theorem SN_append (xs ys : List Int) : strOfNums (xs ++ ys) = strOfNums xs ++ strOfNums ys := by
  unfold strOfNums
  apply ByteArray.ext
  simp [ByteArray.data_append]
theorem SN_bytes (s : ByteArray) : strOfNums (bytesOf s) = s := bytesOf_inj (bytesOf_strOfNums (bytesOf_range s))
theorem SN_text (s : ByteArray) : strOfNums (textL s) = strOfNums (numL s.size) ++ s := by unfold textL; rw [SN_append, SN_bytes]
theorem SN_nil : strOfNums [] = (⟨#[]⟩ : ByteArray) := rfl
theorem app_nil (s : ByteArray) : s ++ (⟨#[]⟩ : ByteArray) = s := by apply bytesOf_inj; rw [bytesOf_append, bytesOf_nil, List.append_nil]
theorem app_assoc (a b c : ByteArray) : a ++ b ++ c = a ++ (b ++ c) := by apply bytesOf_inj; simp only [bytesOf_append, List.append_assoc]

/-! ## Reading -/
def rdN (b : ByteArray) : Option (Int × ByteArray) := match (readNum b).2.2 with | some _ => none | none => some ((readNum b).1, (readNum b).2.1)
def rdT (b : ByteArray) : Option (ByteArray × ByteArray) := match (readText b).2.2 with | some _ => none | none => some ((readText b).1, (readText b).2.1)
theorem rdN_num (m : Nat) (hm : m ≤ 9007199254740991) (rest : ByteArray) : rdN (strOfNums (numL m) ++ rest) = some ((m : Int), rest) := by unfold rdN; rw [readNum_num m hm]
theorem rdT_text (s : ByteArray) (h : s.size ≤ 1048576) (rest : ByteArray) : rdT (strOfNums (textL s) ++ rest) = some (s, rest) := by unfold rdT; rw [SN_text, readText_text s h]
theorem rdN_pos {b : ByteArray} {r : Int × ByteArray} (h : rdN b = some r) : 0 ≤ r.1 ∧ r.1 ≤ 9007199254740991 := by
  unfold rdN at h
  rcases readNum_cases b with ⟨e, he, _⟩ | ⟨n, rest, hn, he, hr⟩
  · rw [he] at h; cases h
  · rw [he] at h
    obtain rfl := Option.some.inj h
    exact ⟨by simp, by simp; omega⟩
theorem rdT_size {b : ByteArray} {r : ByteArray × ByteArray} (h : rdT b = some r) : r.1.size ≤ 1048576 := by
  unfold rdT readText at h
  rcases readNum_cases b with ⟨e, he, _⟩ | ⟨n, rest, hn, he, hr⟩
  · rw [he] at h; cases h
  · rw [he] at h
    simp only at h
    by_cases c1 : 1048576 < (n : Int)
    · rw [if_pos c1] at h; cases h
    · rw [if_neg c1] at h
      by_cases c2 : (rest.size : Int) < (n : Int)
      · rw [if_pos c2] at h; cases h
      · rw [if_neg c2] at h
        obtain rfl := Option.some.inj h
        rw [Int.toNat_natCast, ByteArray.size_extract]
        omega
def decEnt (s last : ByteArray) : Option (Ent × ByteArray) :=
  (rdN s).bind fun r1 => if r1.1 ≤ (last.size : Int) then (rdT r1.2).bind fun r2 => (rdN r2.2).bind fun r3 => (rdN r3.2).bind fun r4 =>
    if r4.1 = 0 then (rdT r4.2).bind fun r5 => some (⟨last.extract 0 r1.1.toNat ++ r2.1, r3.1, false, r5.1⟩, r5.2)
    else if r4.1 = 1 then some (⟨last.extract 0 r1.1.toNat ++ r2.1, r3.1, true, ⟨#[]⟩⟩, r4.2) else none
  else none
theorem rdN_some {b : ByteArray} (h : (readNum b).2.2 = none) : rdN b = some ((readNum b).1, (readNum b).2.1) := by unfold rdN; rw [h]
theorem rdN_none {b : ByteArray} {e : Int} (h : (readNum b).2.2 = some e) : rdN b = none := by unfold rdN; rw [h]
theorem rdN_of {b : ByteArray} {n : Int} {s : ByteArray} (h : readNum b = (n, s, none)) : rdN b = some (n, s) := by unfold rdN; rw [h]
theorem rdN_not {b : ByteArray} {n e : Int} {s : ByteArray} (h : readNum b = (n, s, some e)) : rdN b = none := by unfold rdN; rw [h]
theorem rdT_of {b t s : ByteArray} (h : readText b = (t, s, none)) : rdT b = some (t, s) := by unfold rdT; rw [h]
theorem rdT_not {b t s : ByteArray} {e : Int} (h : readText b = (t, s, some e)) : rdT b = none := by unfold rdT; rw [h]
theorem fN {b : ByteArray} {r : Int × ByteArray × Option Int} (h : readNum b = r) : pack_ReadNum.f b = some r := by unfold pack_ReadNum.f; rw [h]
theorem fT {b : ByteArray} {r : ByteArray × ByteArray × Option Int} (h : readText b = r) : pack_ReadText.f b = some r := by rw [readText_eq, h]
theorem none_yes : (none : Option Int).isNone = true := rfl
theorem some_no (e : Int) : ¬ (some e : Option Int).isNone = true := by simp
theorem dec_entry (s last : ByteArray) (hl : last.size ≤ 1152921504606846976) : decEntry s last = some (decEnt s last) := by
  unfold decEntry decEnt
  rcases h1 : readNum s with ⟨n, s1, _ | e⟩
  rotate_left
  · rw [fN h1, rdN_not h1, Option.bind_some, if_neg (some_no e)]; rfl
  have h1' := rdN_of h1
  have hp := rdN_pos h1'
  rw [fN h1, h1', Option.bind_some, Option.bind_some, if_pos none_yes]
  simp only at hp ⊢
  rw [if_neg (show ¬ n < 0 by omega)]
  by_cases c1 : n ≤ (last.size : Int)
  rotate_left
  · rw [if_pos c1, if_neg c1]
  rw [if_neg (not_not_intro c1), if_pos c1]
  rcases h2 : readText s1 with ⟨t, s2, _ | e⟩
  rotate_left
  · rw [fT h2, rdT_not h2, Option.bind_some, if_neg (some_no e)]; rfl
  have h2' := rdT_of h2
  have hz := rdT_size h2'
  rw [fT h2, h2', Option.bind_some, Option.bind_some, if_pos none_yes]
  simp only at hz ⊢
  rw [if_pos (show (last.extract 0 n.toNat).size + t.size ≤ 9223372036854775807 by rw [ByteArray.size_extract]; omega)]
  rcases h3 : readNum s2 with ⟨q, s3, _ | e⟩
  rotate_left
  · rw [fN h3, rdN_not h3, Option.bind_some, if_neg (some_no e)]; rfl
  rw [fN h3, rdN_of h3, Option.bind_some, Option.bind_some, if_pos none_yes]
  simp only
  rcases h4 : readNum s3 with ⟨d, s4, _ | e⟩
  rotate_left
  · rw [fN h4, rdN_not h4, Option.bind_some, if_neg (some_no e)]; rfl
  rw [fN h4, rdN_of h4, Option.bind_some, Option.bind_some, if_pos none_yes]
  simp only
  by_cases c4 : d = 0
  · rw [if_pos c4, if_pos c4]
    rcases h5 : readText s4 with ⟨v, s5, _ | e⟩
    rotate_left
    · rw [fT h5, rdT_not h5, Option.bind_some, if_neg (some_no e)]; rfl
    rw [fT h5, rdT_of h5, Option.bind_some, Option.bind_some, if_pos none_yes]
  · rw [if_neg c4, if_neg c4]
    by_cases c5 : d = 1
    · rw [if_pos c5, if_pos c5]
    · rw [if_neg c5, if_neg c5]
theorem decEnt_key {s last : ByteArray} {r : Ent × ByteArray} (h : decEnt s last = some r) : r.1.f0.size ≤ last.size + 1048576 := by
  unfold decEnt at h
  obtain ⟨r1, h1, h⟩ := Option.bind_eq_some_iff.1 h
  by_cases c1 : r1.1 ≤ (last.size : Int)
  · rw [if_pos c1] at h
    obtain ⟨r2, h2, h⟩ := Option.bind_eq_some_iff.1 h
    obtain ⟨r3, h3, h⟩ := Option.bind_eq_some_iff.1 h
    obtain ⟨r4, h4, h⟩ := Option.bind_eq_some_iff.1 h
    have hz := rdT_size h2
    have hk : (last.extract 0 r1.1.toNat ++ r2.1).size ≤ last.size + 1048576 := by rw [ByteArray.size_append, ByteArray.size_extract]; omega
    by_cases c4 : r4.1 = 0
    · rw [if_pos c4] at h
      obtain ⟨r5, h5, h⟩ := Option.bind_eq_some_iff.1 h
      obtain rfl := Option.some.inj h
      exact hk
    · rw [if_neg c4] at h
      by_cases c5 : r4.1 = 1
      · rw [if_pos c5] at h
        obtain rfl := Option.some.inj h
        exact hk
      · rw [if_neg c5] at h; cases h
  · rw [if_neg c1] at h; cases h
def decAll : Nat → ByteArray → ByteArray → List Ent → Option (List Ent × ByteArray)
  | 0, s, _, acc => some (acc, s)
  | m + 1, s, last, acc => (decEnt s last).bind fun r => decAll m r.2 r.1.f0 (acc ++ [r.1])
theorem decLoop_eq : ∀ (m : Nat) (s last : ByteArray) (acc : List Ent), last.size + m * 1048576 ≤ 1152921504606846976 → acc.length + m ≤ 900 → decLoop m s last acc = some ((decAll m s last acc).map (·.1)) := by
  intro m
  induction m with
  | zero => intro s last acc _ _; rfl
  | succ m ih =>
    intro s last acc h1 h2
    simp only [decLoop, decAll]
    rw [dec_entry s last (by omega), Option.bind_some]
    cases h : decEnt s last with
    | none => rfl
    | some r =>
      obtain ⟨e, rest⟩ := r
      have := decEnt_key h
      simp only at this ⊢
      rw [if_pos (by omega), Option.bind_some, ih _ _ _ (by omega) (by rw [List.length_append]; simp only [List.length_singleton]; omega)]
def decodeR (b : ByteArray) : List Ent × Option Int :=
  match rdN b with
  | none => ([], some 3)
  | some r => if r.1 ≤ 200 then (match decAll r.1.toNat r.2 ⟨#[]⟩ [] with
      | none => ([], some 3)
      | some l => if (encR l.1).2.isNone = true ∧ (encR l.1).1.toList = b.toList then (l.1, none) else ([], some 3))
    else ([], some 3)
theorem decode_eq (b : ByteArray) : block_Decode.f b = some (decodeR b) := by
  unfold block_Decode.f decodeR pack_ReadNum.f
  rw [Option.bind_some]
  cases h1 : (readNum b).2.2 with
  | some e => rw [rdN_none h1, if_neg (by simp)]
  | none =>
    have h1' := rdN_some h1
    have hp := rdN_pos h1'
    rw [h1', if_pos (show (none : Option Int).isNone = true from rfl)]
    simp only at hp ⊢
    by_cases c : (readNum b).1 ≤ 200
    · have hz : (⟨#[]⟩ : ByteArray).size = 0 := rfl
      rw [if_pos c, if_pos c, decLoop_eq _ _ _ _ (by rw [hz]; omega) (by simp only [List.length_nil]; omega), Option.bind_some]
      cases h2 : decAll (readNum b).1.toNat (readNum b).2.1 ⟨#[]⟩ [] with
      | none => rfl
      | some l =>
        obtain ⟨l, rest⟩ := l
        simp only [Option.map_some]
        rw [encode_eq, Option.bind_some]
        split <;> rfl
    · rw [if_neg c, if_neg c]
/-! ## What was written is read -/
theorem pre_take : ∀ x y : List Int, x.take (pre x y) = y.take (pre x y)
  | [], y => by simp [pre]
  | a :: x, [] => by simp [pre]
  | a :: x, b :: y => by
    simp only [pre]
    split
    · rename_i h; subst h; rw [List.take_succ_cons, List.take_succ_cons, pre_take x y]
    · rfl
theorem key_back (last key : ByteArray) (n : Nat) (h : (bytesOf last).take n = (bytesOf key).take n) : last.extract 0 n ++ cutK key n = key := by
  apply bytesOf_inj
  unfold cutK
  rw [bytesOf_append, bytesOf_extract, bytesOf_extract, List.drop_zero, Nat.sub_zero, h, List.take_of_length_le (l := List.drop n (bytesOf key)) (by rw [List.length_drop, bytesOf_length]; omega), List.take_append_drop]
theorem decEnt_back (n : Nat) (e : Ent) (last rest : ByteArray) (hr : rightB e = true) (hn : n ≤ last.size) (hn2 : n ≤ 80) (hk : (bytesOf last).take n = (bytesOf e.f0).take n) : decEnt (strOfNums (entL n e) ++ rest) last = some (e, rest) := by
  obtain ⟨h1, h2, h3, h4, h5, h6⟩ := right_iff.1 hr
  obtain ⟨q, hq⟩ := Int.eq_ofNat_of_zero_le (show 0 ≤ e.f1 by omega)
  obtain ⟨k, sq, dr, v⟩ := e
  simp only at h1 h2 h3 h4 h5 h6 hq hk
  unfold decEnt entL
  simp only [SN_append, app_assoc]
  rw [rdN_num n (by omega), Option.bind_some]
  simp only
  rw [if_pos (by omega), rdT_text _ (by rw [cutK_size]; omega), Option.bind_some]
  simp only
  rw [hq, Int.toNat_natCast, rdN_num q (by omega), Option.bind_some]
  simp only
  cases dr with
  | true =>
    have hv : v = ⟨#[]⟩ := by
      have := h1 rfl
      exact toList_eq_iff.1 (this.trans (by rw [ByteArray.toList_eq]))
    rw [if_pos rfl, rdN_num 1 (by omega), Option.bind_some]
    simp only
    rw [if_neg (by decide), if_pos (show ((1 : Nat) : Int) = 1 from rfl), Int.toNat_natCast, key_back _ _ _ hk, hv]
  | false =>
    rw [if_neg (by simp)]
    simp only [SN_append, app_assoc]
    rw [rdN_num 0 (by omega), Option.bind_some]
    simp only
    rw [if_pos (show ((0 : Nat) : Int) = 0 from rfl), rdT_text _ (by omega), Option.bind_some, Int.toNat_natCast, key_back _ _ _ hk]
def lastK (l : List Ent) (i : Nat) : ByteArray := if i = 0 then ⟨#[]⟩ else (gt l (i - 1)).f0
theorem decAll_back (l : List Ent) (hs : sortedB l = true) (rest : ByteArray) : ∀ (m i : Nat) (acc : List Ent), i + m = l.length → decAll m (strOfNums (encFrom l m i) ++ rest) (lastK l i) acc = some (acc ++ l.drop i, rest) := by
  intro m
  induction m with
  | zero =>
    intro i acc hi
    simp only [decAll, encFrom]
    have e : (⟨#[]⟩ : ByteArray) ++ rest = rest := by apply bytesOf_inj; rw [bytesOf_append, bytesOf_nil, List.nil_append]
    rw [SN_nil, List.drop_eq_nil_of_le (by omega), List.append_nil, e]
  | succ m ih =>
    intro i acc hi
    have hr := (sAt_iff.1 (sortedB_iff.1 hs i (by omega))).1
    have hn := nAt_le l i hr
    simp only [decAll, encFrom]
    rw [SN_append, app_assoc]
    have hk : nAt l i ≤ (lastK l i).size ∧ (bytesOf (lastK l i)).take (nAt l i) = (bytesOf (gt l i).f0).take (nAt l i) := by
      unfold nAt lastK
      by_cases c : i % 4 = 0
      · rw [if_pos c]; exact ⟨Nat.zero_le _, by simp⟩
      · rw [if_neg c, if_neg (by omega)]
        exact ⟨(shN_le _ _).1, pre_take _ _⟩
    rw [decEnt_back _ _ _ _ hr hk.1 hn.2 hk.2, Option.bind_some]
    simp only
    have hl : (gt l i).f0 = lastK l (i + 1) := by unfold lastK; rw [if_neg (by omega), Nat.add_sub_cancel]
    rw [hl, ih (i + 1) _ (by omega), List.append_assoc]
    congr 3
    rw [List.drop_eq_getElem_cons (show i < l.length by omega), gt_get (show i < l.length by omega)]
    rfl
theorem dec_back (l : List Ent) (hs : sortedB l = true) (hl : l.length ≤ 200) (rest : ByteArray) : rdN (strOfNums (encL l) ++ rest) = some ((l.length : Int), strOfNums (encFrom l l.length 0) ++ rest) ∧ decAll l.length (strOfNums (encFrom l l.length 0) ++ rest) ⟨#[]⟩ [] = some (l, rest) := by
  constructor
  · unfold encL
    rw [SN_append, app_assoc, rdN_num _ (by omega)]
  · have := decAll_back l hs rest l.length 0 [] (by omega)
    rw [List.nil_append, List.drop_zero] at this
    exact this
theorem encR_ok (l : List Ent) (h : (encR l).2.isNone = true) : sortedB l = true ∧ l.length ≤ 200 ∧ encR l = (strOfNums (encL l), none) := by
  unfold encR at h ⊢
  by_cases c : 200 < l.length
  · rw [if_pos c] at h; cases h
  · rw [if_neg c] at h ⊢
    by_cases d : sortedB l = true
    · rw [if_pos d]; exact ⟨d, by omega, rfl⟩
    · rw [if_neg d] at h; cases h
theorem decode_back (l : List Ent) (hs : sortedB l = true) (hl : l.length ≤ 200) : decodeR (strOfNums (encL l)) = (l, none) := by
  obtain ⟨h1, h2⟩ := dec_back l hs hl ⟨#[]⟩
  rw [app_nil] at h1 h2
  unfold decodeR
  rw [h1]
  simp only
  rw [app_nil, if_pos (by omega), Int.toNat_natCast, h2]
  simp only
  have he : encR l = (strOfNums (encL l), none) := by unfold encR; rw [if_neg (by omega), if_pos hs]
  rw [he, if_pos ⟨rfl, rfl⟩]
theorem decode_ok {b : ByteArray} (h : (decodeR b).2.isNone = true) : sortedB (decodeR b).1 = true ∧ (decodeR b).1.length ≤ 200 ∧ strOfNums (encL (decodeR b).1) = b ∧ decodeR b = ((decodeR b).1, none) := by
  unfold decodeR at h ⊢
  cases h1 : rdN b with
  | none => rw [h1] at h; cases h
  | some r =>
    rw [h1] at h
    simp only at h ⊢
    by_cases c : r.1 ≤ 200
    · rw [if_pos c] at h ⊢
      cases h2 : decAll r.1.toNat r.2 ⟨#[]⟩ [] with
      | none => rw [h2] at h; cases h
      | some l =>
        rw [h2] at h
        simp only at h ⊢
        by_cases d : (encR l.1).2.isNone = true ∧ (encR l.1).1.toList = b.toList
        · rw [if_pos d]
          obtain ⟨hs, hl, he⟩ := encR_ok l.1 d.1
          refine ⟨hs, hl, ?_, rfl⟩
          have := d.2
          rw [he] at this
          exact toList_eq_iff.1 this
        · rw [if_neg d] at h; cases h
    · rw [if_neg c] at h; cases h
theorem decode_bad {b : ByteArray} (h : ¬ (decodeR b).2.isNone = true) : decodeR b = ([], some 3) := by
  unfold decodeR at h ⊢
  cases h1 : rdN b with
  | none => rfl
  | some r =>
    rw [h1] at h
    simp only at h ⊢
    by_cases c : r.1 ≤ 200
    · rw [if_pos c] at h ⊢
      cases h2 : decAll r.1.toNat r.2 ⟨#[]⟩ [] with
      | none => rfl
      | some l =>
        rw [h2] at h
        simp only at h ⊢
        by_cases d : (encR l.1).2.isNone = true ∧ (encR l.1).1.toList = b.toList
        · rw [if_pos d] at h; exact absurd rfl h
        · rw [if_neg d]
    · rw [if_neg c]
/-- No block begins with another one. -/
theorem enc_prefix {l m : List Ent} (hl : sortedB l = true) (hm : sortedB m = true) (h1 : l.length ≤ 200) (h2 : m.length ≤ 200) {rest : ByteArray} (h : strOfNums (encL l) ++ rest = strOfNums (encL m)) : rest = ⟨#[]⟩ := by
  obtain ⟨a1, a2⟩ := dec_back l hl h1 rest
  obtain ⟨b1, b2⟩ := dec_back m hm h2 ⟨#[]⟩
  rw [app_nil] at b1
  rw [h, b1] at a1
  have e := Option.some.inj a1
  have e1 : m.length = l.length := by have := congrArg Prod.fst e; simp only at this; omega
  have e2 := congrArg Prod.snd e
  simp only at e2
  rw [← e2, ← e1, b2] at a2
  have := congrArg Prod.snd (Option.some.inj a2)
  exact this.symm
end Go.Proofs.Ytgfgdpmpbpofbaa.Print

namespace Go.Proofs.Ytgfgdpmpbpofbaa.Print
open Go.RowKit Go.Proofs.YtgfgdpmpbpofbaaX Go.Proofs.YtgfgdpmpbpofbaaW.PrintWords Go.Proofs.YtgfgdpmpbpofbaaW.PrintLast
set_option linter.unusedVariables false
set_option linter.unusedSimpArgs false

theorem refRight_eq (e : Ent) : palinoderef10_Right.f e.f0 e.f1 e.f2 e.f3 = some (rightB e) := by
  have key : ∀ b : Bool, (rightB e = b) → palinoderef10_Right.f e.f0 e.f1 e.f2 e.f3 = some b := by
    intro b hb
    unfold palinoderef10_Right.f
    have no : ∀ p : Prop, ¬ p → (rightB e = true → p) → b = false := fun p hp h => by
      cases b with
      | false => rfl
      | true => exact absurd (h hb) hp
    have hR := fun h => (right_iff (e := e)).1 h
    by_cases c1 : e.f0.toList = ([] : List UInt8)
    · rw [if_pos c1, no (0 < e.f0.size) (by rw [toList_nil_iff] at c1; omega) (fun h => (hR h).2.2.2.1)]
    · rw [if_neg c1]
      have z0 : 0 < e.f0.size := by rw [toList_nil_iff] at c1; omega
      by_cases c2 : (e.f0.size : Int) ≤ 80
      · rw [if_pos c2]
        by_cases c3 : (e.f3.size : Int) ≤ 300
        · rw [if_pos c3]
          by_cases c4 : e.f1 ≥ 1
          · rw [if_pos c4]
            by_cases c5 : e.f1 ≤ 9007199254740991
            · rw [if_pos c5]
              by_cases c6 : e.f2 = true
              · rw [if_pos c6, ← hb]
                congr 1
                rw [Bool.eq_iff_iff, beq_iff_eq, right_iff]
                exact ⟨fun h => ⟨fun _ => h, c4, c5, z0, by omega, by omega⟩, fun h => h.1 c6⟩
              · rw [if_neg c6, ← hb]
                congr 1
                symm
                rw [right_iff]
                exact ⟨fun h => absurd h c6, c4, c5, z0, by omega, by omega⟩
            · rw [if_neg c5, no _ c5 (fun h => (hR h).2.2.1)]
          · rw [if_neg c4, no (1 ≤ e.f1) (by omega) (fun h => (hR h).2.1)]
        · rw [if_neg c3, no (e.f3.size ≤ 300) (by omega) (fun h => (hR h).2.2.2.2.2)]
      · rw [if_neg c2, no (e.f0.size ≤ 80) (by omega) (fun h => (hR h).2.2.2.2.1)]
  exact key _ rfl
theorem refBefore_eq (x y : Ent) : palinoderef10_Before.f x.f0 x.f1 x.f2 x.f3 y.f0 y.f1 y.f2 y.f3 = some (beforeB x y) := by
  unfold palinoderef10_Before.f beforeB bless
  by_cases d : x.f0.toList = y.f0.toList
  · rw [if_pos d, d, bl_irr]; simp
  · rw [if_neg d, beq_eq_false_iff_ne.mpr d]; simp
theorem refSorted_l0 (l : List Ent) (hl : l.length ≤ 4611686018427387904) : ∀ (n i k : Nat), l.length - i = n → i ≤ l.length → n < k → palinoderef12_Sorted.l0 k l (i : Int) = some (((List.range l.length).drop i).all (sAt l)) := by
  intro n
  induction n with
  | zero =>
    intro i k hn hi hk
    obtain ⟨k, rfl⟩ : ∃ j, k = j + 1 := ⟨k - 1, by omega⟩
    simp only [palinoderef12_Sorted.l0]
    rw [if_neg (by omega), List.drop_eq_nil_of_le (by simp; omega)]
    rfl
  | succ n ih =>
    intro i k hn hi hk
    obtain ⟨k, rfl⟩ : ∃ j, k = j + 1 := ⟨k - 1, by omega⟩
    simp only [palinoderef12_Sorted.l0]
    rw [if_pos (by omega), if_pos (by omega), rd_gt, refRight_eq, Option.bind_some, range_drop _ _ (by omega), List.all_cons, wrap_of ((i : Int) + 1) (by omega) (by omega), show (i : Int) + 1 = ((i + 1 : Nat) : Int) by omega, ih (i + 1) k (by omega) (by omega) (by omega)]
    unfold sAt
    cases hr : rightB (gt l i) with
    | false => rw [if_neg (by simp)]; simp
    | true =>
      rw [if_pos rfl]
      by_cases h0 : i = 0
      · subst h0
        rw [if_neg (by omega)]
        simp
      · rw [if_pos (by omega), wrap_of ((i : Int) - 1) (by omega) (by omega), show (i : Int) - 1 = ((i - 1 : Nat) : Int) by omega, if_pos (by omega), if_pos (by omega), rd_gt, refBefore_eq, Option.bind_some, decide_eq_false h0]
        cases hb : beforeB (gt l (i - 1)) (gt l i) with
        | false => rw [if_neg (by simp)]; simp
        | true => rw [if_pos rfl]; simp
theorem refSorted_big (l : List Ent) (hl : l.length ≤ 4611686018427387904) (k : Nat) (hk : l.length < k) : palinoderef12_Sorted.f k l = some (sortedB l) := by
  unfold palinoderef12_Sorted.f
  have h := refSorted_l0 l hl l.length 0 k (by omega) (by omega) hk
  rw [show ((0 : Nat) : Int) = 0 from rfl, List.drop_zero] at h
  exact h
theorem refShared_l0 (a b : ByteArray) (ha : a.size ≤ 4611686018427387904) : ∀ (n i k : Nat), min a.size b.size - i = n → i ≤ min a.size b.size → n < k →
    palinoderef12_shared.l0 k a b (i : Int) = some ((i + pre ((bytesOf a).drop i) ((bytesOf b).drop i) : Nat) : Int) := by
  intro n
  induction n with
  | zero =>
    intro i k hn hi hk
    obtain ⟨k, rfl⟩ : ∃ j, k = j + 1 := ⟨k - 1, by omega⟩
    simp only [palinoderef12_shared.l0]
    have hp : pre ((bytesOf a).drop i) ((bytesOf b).drop i) = 0 := by
      have := pre_le ((bytesOf a).drop i) ((bytesOf b).drop i)
      rw [List.length_drop, List.length_drop, bytesOf_length, bytesOf_length] at this
      omega
    rw [hp]
    by_cases c : (i : Int) < (a.size : Int)
    · rw [if_pos c, if_neg (by omega)]; rfl
    · rw [if_neg c]; rfl
  | succ n ih =>
    intro i k hn hi hk
    obtain ⟨k, rfl⟩ : ∃ j, k = j + 1 := ⟨k - 1, by omega⟩
    simp only [palinoderef12_shared.l0]
    have h1 : i < (bytesOf a).length := by rw [bytesOf_length]; omega
    have h2 : i < (bytesOf b).length := by rw [bytesOf_length]; omega
    rw [if_pos (by omega), if_pos (by omega), if_pos (by omega), List.drop_eq_getElem_cons h1, List.drop_eq_getElem_cons h2, bt_get a i h1, bt_get b i h2]
    simp only [pre]
    by_cases c : (bytesOf a)[i] = (bytesOf b)[i]
    · rw [if_pos c, if_pos c, wrap_of _ (by omega) (by omega), show (i : Int) + 1 = ((i + 1 : Nat) : Int) by omega, ih (i + 1) k (by omega) (by omega) (by omega)]
      congr 2
      omega
    · rw [if_neg c, if_neg c]; rfl
theorem refShared_eq (a b : ByteArray) (k : Nat) (hk : a.size < k) (ha : a.size ≤ 4611686018427387904) : palinoderef12_shared.f k a b = some (shN a b : Int) := by
  unfold palinoderef12_shared.f
  have h := refShared_l0 a b ha (min a.size b.size) 0 k (by omega) (by omega) (by omega)
  rw [show ((0 : Nat) : Int) = 0 from rfl, List.drop_zero, List.drop_zero, Nat.zero_add] at h
  exact h
theorem rnum_eq (n : Nat) (h : n ≤ 9007199254740991) : palinoderef12_num.f 1000 (n : Int) = some (strOfNums (numL n)) := by
  unfold palinoderef12_num.f
  rw [refnum_big _ 1000 (by omega), Option.bind_some]
  unfold numR
  rw [if_neg (show ¬ ((n : Int) < 0 ∨ 9007199254740991 < (n : Int)) by omega), Int.toNat_natCast]
theorem rtext_eq (s : ByteArray) (h : s.size ≤ 1000) : palinoderef12_text.f 1000 s = some (strOfNums (textL s)) := by
  unfold palinoderef12_text.f
  rw [reftext_big _ 1000 (by omega), Option.bind_some]
  unfold textR
  rw [if_neg (show ¬ 1048576 < s.size by omega), SN_text]
theorem rapp_eq (xs ys : List Int) (h : xs.length + ys.length ≤ 1000000000) : rapp (strOfNums xs) (strOfNums ys) = some (strOfNums (xs ++ ys)) := by
  unfold rapp
  rw [if_pos (by rw [size_strOfNums, size_strOfNums]; exact h), SN_append]
theorem refTail_eq (xs : List Int) (n : Nat) (e : Ent) (h : rightB e = true) (hn : n ≤ e.f0.size) (hx : xs.length ≤ 800000000) : refTail e (n : Int) (strOfNums xs) = some (strOfNums (xs ++ entL n e)) := by
  obtain ⟨h1, h2, h3, h4, h5, h6⟩ := right_iff.1 h
  unfold refTail
  have a := numL_len (n := n) (by omega)
  have b := textL_len (cutK e.f0 n) (by rw [cutK_size]; omega)
  have c := numL_len (n := e.f1.toNat) (by omega)
  have d := textL_len e.f3 (by omega)
  rw [cutK_size] at b
  have f0 := numL_len (n := 0) (by omega)
  have f1 := numL_len (n := 1) (by omega)
  obtain ⟨q, hq⟩ := Int.eq_ofNat_of_zero_le (show 0 ≤ e.f1 by omega)
  rw [hq, Int.toNat_natCast] at c
  rw [rnum_eq _ (by omega), Option.bind_some, rapp_eq _ _ (by omega), Option.bind_some, if_pos ⟨by omega, by omega⟩, Int.toNat_natCast, show e.f0.extract n e.f0.size = cutK e.f0 n from rfl, rtext_eq _ (by rw [cutK_size]; omega), Option.bind_some, rapp_eq _ _ (by rw [List.length_append]; omega), Option.bind_some, hq, rnum_eq _ (by omega), Option.bind_some, rapp_eq _ _ (by rw [List.length_append, List.length_append]; omega), Option.bind_some]
  unfold entL
  rw [hq, Int.toNat_natCast]
  cases hd : e.f2 with
  | true =>
    rw [if_pos rfl, if_pos rfl, show (1 : Int) = ((1 : Nat) : Int) from rfl, rnum_eq _ (by omega), Option.bind_some, rapp_eq _ _ (by rw [List.length_append, List.length_append, List.length_append]; omega)]
    simp only [List.append_assoc]
  | false =>
    rw [if_neg (by simp), if_neg (by simp), show (0 : Int) = ((0 : Nat) : Int) from rfl, rnum_eq _ (by omega), Option.bind_some, rapp_eq _ _ (by rw [List.length_append, List.length_append, List.length_append]; omega), Option.bind_some, rtext_eq _ (by omega), Option.bind_some, rapp_eq _ _ (by rw [List.length_append, List.length_append, List.length_append, List.length_append]; omega)]
    simp only [List.append_assoc]
theorem refOneE_eq (l : List Ent) (i : Nat) (xs : List Int) (h : rightB (gt l i) = true) (hp : i % 4 ≠ 0 → (gt l (i - 1)).f0.size ≤ 80) (hx : xs.length ≤ 800000000) : refOne l i (strOfNums xs) = some (strOfNums (xs ++ entL (nAt l i) (gt l i))) := by
  unfold refOne
  have hn := nAt_le l i h
  unfold nAt at hn ⊢
  by_cases c : i % 4 = 0
  · rw [if_pos c, if_pos c, rd_gt, show (0 : Int) = ((0 : Nat) : Int) from rfl, refTail_eq _ _ _ h (by omega) hx]
  · rw [if_neg c] at hn
    rw [if_neg c, if_neg c, show (i : Int) - 1 = ((i - 1 : Nat) : Int) by omega, rd_gt, rd_gt, refShared_eq _ _ _ (by have := hp c; omega) (by have := hp c; omega), Option.bind_some, refTail_eq _ _ _ h hn.1 hx]
theorem refLoop_eq (l : List Ent) (h : sortedB l = true) (hl : l.length ≤ 200) : ∀ (m i : Nat) (xs : List Int), i + m = l.length → xs.length ≤ 10 + 500 * i → refLoop l m i (strOfNums xs) = some (strOfNums (xs ++ encFrom l m i)) := by
  intro m
  induction m with
  | zero => intro i xs _ _; simp only [refLoop, encFrom, List.append_nil]
  | succ m ih =>
    intro i xs hi hx
    have hr := (sAt_iff.1 (sortedB_iff.1 h i (by omega))).1
    have hp : i % 4 ≠ 0 → (gt l (i - 1)).f0.size ≤ 80 := fun c => (right_iff.1 (sAt_iff.1 (sortedB_iff.1 h (i - 1) (by omega))).1).2.2.2.2.1
    have hlen := entL_len (nAt l i) (gt l i) hr (by have := (nAt_le l i hr).2; omega)
    simp only [refLoop, encFrom]
    rw [refOneE_eq l i xs hr hp (by omega), Option.bind_some, ih (i + 1) _ (by omega) (by rw [List.length_append]; omega), List.append_assoc]
def codeR (r : ByteArray × Option Int) : ByteArray × Int := (r.1, r.2.getD 0)
theorem refEncode_eq (l : List Ent) : palinoderef12_Encode.f l = some (codeR (encR l)) := by
  unfold palinoderef12_Encode.f encR
  by_cases c : 200 < l.length
  · rw [if_pos c, if_pos c]; rfl
  · rw [if_neg c, if_neg c, refSorted_big l (by omega) 1000 (by omega), Option.bind_some]
    by_cases d : sortedB l = true
    · have a := numL_len (n := l.length) (by omega)
      rw [if_pos d, if_pos d, rnum_eq _ (by omega), Option.bind_some, refLoop_eq l d (by omega) _ 0 _ (by omega) (by omega), Option.bind_some]
      rfl
    · rw [if_neg d, if_neg d]; rfl
/-! ## Reading, the document's -/
theorem rdN_rest {b : ByteArray} {r : Int × ByteArray} (h : rdN b = some r) : r.2.size ≤ b.size := by
  unfold rdN at h
  rcases readNum_cases b with ⟨e, he, _⟩ | ⟨n, rest, hn, he, hr⟩
  · rw [he] at h; cases h
  · rw [he] at h
    obtain rfl := Option.some.inj h
    have := congrArg ByteArray.size hr
    rw [ByteArray.size_append] at this
    simp only
    omega
theorem rdT_rest {b : ByteArray} {r : ByteArray × ByteArray} (h : rdT b = some r) : r.2.size ≤ b.size := by
  unfold rdT readText at h
  rcases readNum_cases b with ⟨e, he, _⟩ | ⟨n, rest, hn, he, hr⟩
  · rw [he] at h; cases h
  · have hs := congrArg ByteArray.size hr
    rw [ByteArray.size_append] at hs
    rw [he] at h
    simp only at h
    by_cases c1 : 1048576 < (n : Int)
    · rw [if_pos c1] at h; cases h
    · rw [if_neg c1] at h
      by_cases c2 : (rest.size : Int) < (n : Int)
      · rw [if_pos c2] at h; cases h
      · rw [if_neg c2] at h
        obtain rfl := Option.some.inj h
        simp only
        rw [ByteArray.size_extract]
        omega
theorem gN {b : ByteArray} {n : Int} {s : ByteArray} {E : Option Int} (h : readNum b = (n, s, E)) (hb : b.size ≤ 140737488351232) (k : Nat) (hk : 30 ≤ k) : palinoderef01_ReadNum.f k b = some (n, s, E.getD 0) := by rw [refread_big b hb k hk]; unfold refRead; rw [h]
theorem gT {b t s : ByteArray} {E : Option Int} (h : readText b = (t, s, E)) (hb : b.size ≤ 140737488351232) (k : Nat) (hk : 30 ≤ k) : palinoderef01_ReadText.f k b = some (t, s, E.getD 0) := by rw [refreadtext_big b hb k hk]; unfold refReadText; rw [h]
theorem errN {b : ByteArray} {n e : Int} {s : ByteArray} (h : readNum b = (n, s, some e)) : e ≠ 0 := by
  have := readNum_err b; rw [h] at this; simpa using this
theorem errT {b t s : ByteArray} {e : Int} (h : readText b = (t, s, some e)) : e ≠ 0 := by
  have := readText_err b; rw [h] at this; simpa using this
def oneP (o : Option (Ent × ByteArray)) (t : ByteArray × Int × Bool × ByteArray × ByteArray × Bool) : Prop :=
  match o with
  | none => t.2.2.2.2.2 = false
  | some r => t = (r.1.f0, r.1.f1, r.1.f2, r.1.f3, r.2, true)
theorem refOne_big (s last : ByteArray) (hs : s.size ≤ 140737488351232) (hl : last.size ≤ 1152921504606846976) (k : Nat) (hk : 40 ≤ k) : ∃ t, palinoderef12_one.f k s last = some t ∧ oneP (decEnt s last) t := by
  obtain ⟨k, rfl⟩ : ∃ j, k = j + 2 := ⟨k - 2, by omega⟩
  unfold palinoderef12_one.f decEnt
  rcases h1 : readNum s with ⟨n, s1, _ | e⟩
  rotate_left
  · rw [gN h1 hs _ (by omega), rdN_not h1, Option.bind_some]; simp only [Option.getD_some]; rw [if_neg (errN h1)]
    simp only [palinoderef12_one.j0, if_true]
    exact ⟨_, rfl, rfl⟩
  have h1' := rdN_of h1
  have hp := rdN_pos h1'
  have hr1 := rdN_rest h1'
  simp only at hp hr1
  rw [gN h1 hs _ (by omega), h1', Option.bind_some, Option.bind_some]
  simp only [Option.getD_none, if_true]
  simp only [palinoderef12_one.j0]
  by_cases c1 : n ≤ (last.size : Int)
  rotate_left
  · rw [if_pos (by simp; omega), if_neg c1]; exact ⟨_, rfl, rfl⟩
  rw [if_neg (by simp; omega), if_pos c1]
  rcases h2 : readText s1 with ⟨t, s2, _ | e⟩
  rotate_left
  · rw [gT h2 (by omega) _ (by omega), rdT_not h2, Option.bind_some]; simp only [Option.getD_some]; rw [if_neg (errT h2)]; exact ⟨_, rfl, rfl⟩
  have h2' := rdT_of h2
  have hz := rdT_size h2'
  have hr2 := rdT_rest h2'
  simp only at hz hr2
  rw [gT h2 (by omega) _ (by omega), h2', Option.bind_some, Option.bind_some]
  simp only [Option.getD_none, if_true]
  rcases h3 : readNum s2 with ⟨q, s3, _ | e⟩
  rotate_left
  · rw [gN h3 (by omega) _ (by omega), rdN_not h3, Option.bind_some]; simp only [Option.getD_some]; rw [if_neg (errN h3)]; exact ⟨_, rfl, rfl⟩
  have h3' := rdN_of h3
  have hr3 := rdN_rest h3'
  simp only at hr3
  rw [gN h3 (by omega) _ (by omega), h3', Option.bind_some, Option.bind_some]
  simp only [Option.getD_none, if_true]
  rcases h4 : readNum s3 with ⟨d, s4, _ | e⟩
  rotate_left
  · rw [gN h4 (by omega) _ (by omega), rdN_not h4, Option.bind_some]; simp only [Option.getD_some]; rw [if_neg (errN h4)]
    simp only [palinoderef12_one.j1, if_true]
    exact ⟨_, rfl, rfl⟩
  have h4' := rdN_of h4
  have hr4 := rdN_rest h4'
  have hp4 := rdN_pos h4'
  simp only at hr4 hp4
  rw [gN h4 (by omega) _ (by omega), h4', Option.bind_some, Option.bind_some]
  simp only [Option.getD_none, if_true]
  simp only [palinoderef12_one.j1]
  have hsz : (last.extract 0 n.toNat).size + t.size ≤ 9223372036854775807 := by rw [ByteArray.size_extract]; omega
  by_cases c4 : d = 0
  · subst c4
    rw [if_neg (by simp), if_pos hp.1, if_pos c1, if_pos hsz, if_neg (by omega), if_pos rfl]
    rcases h5 : readText s4 with ⟨v, s5, _ | e⟩
    · rw [gT h5 (by omega) _ (by omega), rdT_of h5, Option.bind_some, Option.bind_some]; simp only [Option.getD_none, if_true]; exact ⟨_, rfl, rfl⟩
    · rw [gT h5 (by omega) _ (by omega), rdT_not h5, Option.bind_some]; simp only [Option.getD_some]; rw [if_neg (errT h5)]; exact ⟨_, rfl, rfl⟩
  · rw [if_neg c4]
    by_cases c5 : d = 1
    · subst c5
      rw [if_neg (by simp), if_pos hp.1, if_pos c1, if_pos hsz, if_pos rfl, if_pos rfl]; exact ⟨_, rfl, rfl⟩
    · rw [if_pos (by simp; omega), if_neg c5]; exact ⟨_, rfl, rfl⟩
theorem decEnt_rest {s last : ByteArray} {r : Ent × ByteArray} (h : decEnt s last = some r) : r.2.size ≤ s.size := by
  unfold decEnt at h
  obtain ⟨r1, h1, h⟩ := Option.bind_eq_some_iff.1 h
  by_cases c1 : r1.1 ≤ (last.size : Int)
  · rw [if_pos c1] at h
    obtain ⟨r2, h2, h⟩ := Option.bind_eq_some_iff.1 h
    obtain ⟨r3, h3, h⟩ := Option.bind_eq_some_iff.1 h
    obtain ⟨r4, h4, h⟩ := Option.bind_eq_some_iff.1 h
    have a1 := rdN_rest h1; have a2 := rdT_rest h2; have a3 := rdN_rest h3; have a4 := rdN_rest h4
    by_cases c4 : r4.1 = 0
    · rw [if_pos c4] at h
      obtain ⟨r5, h5, h⟩ := Option.bind_eq_some_iff.1 h
      have a5 := rdT_rest h5
      obtain rfl := Option.some.inj h
      simp only
      omega
    · rw [if_neg c4] at h
      by_cases c5 : r4.1 = 1
      · rw [if_pos c5] at h
        obtain rfl := Option.some.inj h
        simp only
        omega
      · rw [if_neg c5] at h; cases h
  · rw [if_neg c1] at h; cases h
def wantR (b : ByteArray) (o : Option (List Ent × ByteArray)) : List Ent × Bool :=
  match o with
  | none => ([], false)
  | some l => if (encR l.1).2.isNone = true ∧ (encR l.1).1.toList = b.toList then (l.1, true) else ([], false)
theorem encR_code (l : List Ent) : ((encR l).2.getD 0 = 0) ↔ (encR l).2.isNone = true := by
  unfold encR
  split
  · simp
  · split <;> simp
theorem refDec_l0 (b : ByteArray) (n : Nat) (hn : n ≤ 200) : ∀ (m i k : Nat) (s last : ByteArray) (acc : List Ent), i + m = n → m + 100 < k → acc.length = i → s.size ≤ 140737488351232 → last.size + m * 1048576 ≤ 1152921504606846976 →
    palinoderef12_Decode.l0 k b (n : Int) s acc last (i : Int) = some (wantR b (decAll m s last acc)) := by
  intro m
  induction m with
  | zero =>
    intro i k s last acc hi hk ha hs hl
    obtain ⟨k, rfl⟩ : ∃ j, k = j + 1 := ⟨k - 1, by omega⟩
    simp only [palinoderef12_Decode.l0, decAll, wantR]
    rw [if_neg (by omega), refEncode_eq, Option.bind_some]
    unfold codeR
    simp only
    by_cases c : (encR acc).2.isNone = true
    · rw [if_pos ((encR_code acc).2 c)]
      by_cases d : (encR acc).1.toList = b.toList
      · rw [if_pos d, if_pos ⟨c, d⟩]
      · rw [if_neg d, if_neg (fun e => d e.2)]
    · rw [if_neg (fun e => c ((encR_code acc).1 e)), if_neg (fun e => c e.1)]
  | succ m ih =>
    intro i k s last acc hi hk ha hs hl
    obtain ⟨k, rfl⟩ : ∃ j, k = j + 1 := ⟨k - 1, by omega⟩
    simp only [palinoderef12_Decode.l0, decAll]
    obtain ⟨t, ht, hp⟩ := refOne_big s last hs (by omega) k (by omega)
    rw [if_pos (by omega), ht, Option.bind_some]
    cases hd : decEnt s last with
    | none =>
      rw [hd] at hp
      have hp : t.2.2.2.2.2 = false := hp
      rw [hp, if_neg (by simp)]
      rfl
    | some r =>
      rw [hd] at hp
      have hp : t = (r.1.f0, r.1.f1, r.1.f2, r.1.f3, r.2, true) := hp
      subst hp
      simp only
      have h1 := decEnt_key hd
      have h2 := decEnt_rest hd
      rw [if_pos trivial, if_pos (by omega), Option.bind_some, wrap_of _ (by omega) (by omega), show (i : Int) + 1 = ((i + 1 : Nat) : Int) by omega]
      exact ih (i + 1) k r.2 r.1.f0 (acc ++ [r.1]) (by omega) (by omega) (by rw [List.length_append]; simp only [List.length_singleton]; omega) (by omega) (by omega)
theorem refDecode_big (b : ByteArray) (hb : b.size ≤ 140737488351232) (k : Nat) (hk : 400 ≤ k) : palinoderef12_Decode.f k b = some ((decodeR b).1, (decodeR b).2.isNone) := by
  obtain ⟨k, rfl⟩ : ∃ j, k = j + 1 := ⟨k - 1, by omega⟩
  unfold palinoderef12_Decode.f decodeR
  rcases h1 : readNum b with ⟨n, s1, _ | e⟩
  rotate_left
  · rw [gN h1 hb _ (by omega), rdN_not h1, Option.bind_some]; simp only [Option.getD_some]; rw [if_neg (errN h1)]
    simp [palinoderef12_Decode.j0]
  have h1' := rdN_of h1
  have hp := rdN_pos h1'
  have hr1 := rdN_rest h1'
  simp only at hp hr1
  rw [gN h1 hb _ (by omega), h1', Option.bind_some]
  simp only [Option.getD_none, if_true]
  simp only [palinoderef12_Decode.j0]
  by_cases c : n ≤ 200
  · obtain ⟨m, rfl⟩ := Int.eq_ofNat_of_zero_le hp.1
    rw [if_neg (by simp; omega), if_pos c, Int.toNat_natCast]
    have h := refDec_l0 b m (by omega) m 0 k s1 ⟨#[]⟩ [] (by omega) (by omega) rfl (by omega) (by rw [show (⟨#[]⟩ : ByteArray).size = 0 from rfl]; omega)
    rw [show ((0 : Nat) : Int) = 0 from rfl] at h
    rw [h]
    cases hd : decAll m s1 ⟨#[]⟩ [] with
    | none => rfl
    | some l =>
      unfold wantR
      simp only
      by_cases d : (encR l.1).2.isNone = true ∧ (encR l.1).1.toList = b.toList
      · rw [if_pos d, if_pos d]; rfl
      · rw [if_neg d, if_neg d]; rfl
  · rw [if_pos (by simp; omega), if_neg c]; rfl
end Go.Proofs.Ytgfgdpmpbpofbaa.Print
