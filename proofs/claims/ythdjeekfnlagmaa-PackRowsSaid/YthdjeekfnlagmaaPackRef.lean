import Derived.Test.YthdjeekfnlagmaaPackText
import Derived.Test.YthdjeekfnlagmaaPrint5
import Derived.Test.YthdjeekfnlagmaaPrint5
import Derived.Test.YthdjeekfnlagmaaPrint6
import Derived.Test.YthdjeekfnlagmaaPrint6
namespace Go.Proofs.Ythdjeekfnlagmaa.Print
open Go.RowKit Go.Proofs.YthdjeekfnlagmaaX Go.Proofs.YthdjeekfnlagmaaW.PrintWords Go.Proofs.YthdjeekfnlagmaaW.PrintLast
set_option linter.unusedVariables false
set_option linter.unusedSimpArgs false

theorem digs_rev_succ (k n : Nat) : (digs (k + 1) n).reverse = ((n % 256 : Nat) : Int) :: (digs k (n / 256)).reverse := by
  rw [digs, List.reverse_append]
  rfl
theorem refnum_l1 (l : List Int) : ∀ (i : Nat) (acc : List Int) (k : Nat), i ≤ l.length → i < k → acc.length + i < 1000 → l.length < 1000 →
    palinoderef01_Num.l1 k l acc ((i : Int) - 1) = some (strOfNums (acc ++ (l.take i).reverse), true) := by
  intro i
  induction i with
  | zero =>
    intro acc k hi hk ha hl
    obtain ⟨k, rfl⟩ : ∃ m, k = m + 1 := ⟨k - 1, by omega⟩
    simp only [palinoderef01_Num.l1]
    rw [if_neg (by omega)]
    simp
  | succ i ih =>
    intro acc k hi hk ha hl
    obtain ⟨k, rfl⟩ : ∃ m, k = m + 1 := ⟨k - 1, by omega⟩
    simp only [palinoderef01_Num.l1]
    have e : ((i + 1 : Nat) : Int) - 1 = (i : Int) := by omega
    rw [e, if_pos (by omega), if_pos (by omega), if_pos (by omega), if_pos (by omega), wrap_of _ (by omega) (by omega), ih _ k (by omega) (by omega) (by simp; omega) hl]
    have hil : i < l.length := by omega
    have hr : rd l (i : Int) = l[i] := by
      unfold rd
      rw [Int.toNat_natCast, List.getD_eq_getElem?_getD, List.getElem?_eq_getElem hil]
      rfl
    have hq : (l.take (i + 1)).reverse = l[i] :: (l.take i).reverse := by
      rw [List.take_add_one, List.getElem?_eq_getElem hil, List.reverse_append]
      rfl
    rw [hr, hq, List.append_assoc]
    rfl
theorem refnum_l0 (n : Nat) : ∀ (k : Nat) (acc : List Int), n ≤ 9007199254740991 → acc.length + bsize n ≤ 255 → acc.length + bsize n + bsize n + 3 ≤ k →
    palinoderef01_Num.l0 k (n : Int) acc = some (strOfNums (((acc.length + bsize n : Nat) : Int) :: (acc ++ (digs (bsize n) n).reverse).reverse), true) := by
  induction n using Nat.strongRecOn with
  | _ n ih =>
    intro k acc hn ha hk
    obtain ⟨k, rfl⟩ : ∃ m, k = m + 1 := ⟨k - 1, by omega⟩
    simp only [palinoderef01_Num.l0]
    by_cases h0 : n = 0
    · subst h0
      rw [if_neg (by omega), bsize_zero]
      have h1 := refnum_l1 acc acc.length [((acc.length : Int)) % 256] k (Nat.le_refl _) (by omega) (by simp; omega) (by omega)
      rw [wrap_of _ (by omega) (by omega), h1]
      rw [List.take_length]
      have e : ((acc.length : Int)) % 256 = ((acc.length + 0 : Nat) : Int) := by omega
      simp [digs, e]
    · have hp := bsize_pos (n := n) (by omega)
      have hq : wrap64 (Int.tdiv (n : Int) 256) = ((n / 256 : Nat) : Int) := by
        rw [Int.tdiv_eq_ediv_of_nonneg (by omega), wrap_of _ (by omega) (by omega)]
        omega
      have hm : Int.tmod (n : Int) 256 % 256 = ((n % 256 : Nat) : Int) := by
        rw [Int.tmod_eq_emod_of_nonneg (by omega)]
        omega
      rw [if_pos (by omega), if_pos (by omega), hq, hm, ih (n / 256) (by omega) k _ (by omega) (by simp; omega) (by simp; omega), hp, digs_rev_succ]
      have e1 : ((((acc ++ [((n % 256 : Nat) : Int)]).length + bsize (n / 256) : Nat)) : Int) = ((acc.length + (bsize (n / 256) + 1) : Nat) : Int) := by
        simp
        omega
      have e2 : acc ++ [((n % 256 : Nat) : Int)] ++ (digs (bsize (n / 256)) (n / 256)).reverse = acc ++ ((n % 256 : Nat) : Int) :: (digs (bsize (n / 256)) (n / 256)).reverse := by
        rw [List.append_assoc]
        rfl
      rw [e1, e2]
theorem refnum_ev (n : Int) : ∃ K, ∀ k, K ≤ k → palinoderef01_Num.f k n = some ((numR n).1, (numR n).2.isNone) := by
  refine ⟨30, fun k hk => ?_⟩
  obtain ⟨k, rfl⟩ : ∃ m, k = m + 1 := ⟨k - 1, by omega⟩
  unfold palinoderef01_Num.f numR
  by_cases h0 : n < 0
  · rw [if_pos h0, if_pos (.inl h0)]
    simp [palinoderef01_Num.j0]
  by_cases h1 : 9007199254740991 < n
  · rw [if_neg h0, if_pos (.inr h1)]
    simp [palinoderef01_Num.j0, h1]
  obtain ⟨m, rfl⟩ := Int.eq_ofNat_of_zero_le (show 0 ≤ n by omega)
  have h7 := bsize_7 (n := m) (by omega)
  rw [if_neg h0, if_neg (by omega)]
  simp only [palinoderef01_Num.j0]
  rw [if_neg (by simpa using h1), refnum_l0 m k [] (by omega) (by simp; omega) (by simp; omega)]
  simp [numL]
/-- What the document's reading of a number comes to. -/
def refRead (b : ByteArray) : Int × ByteArray × Int := ((readNum b).1, (readNum b).2.1, (readNum b).2.2.getD 0)
theorem pval_top (b : ByteArray) (k : Nat) : (bt b 1).toNat * 256 ^ k ≤ pval b (k + 1) ∧ pval b (k + 1) < ((bt b 1).toNat + 1) * 256 ^ k := by
  induction k with
  | zero =>
    have := bt_range b 1
    simp only [pval, Nat.pow_zero, Nat.zero_mul, Nat.zero_add, Nat.mul_one]
    have e : ((0 : Nat) : Int) + 1 = 1 := by omega
    rw [e]
    omega
  | succ k ih =>
    have := bt_range b (((k + 1 : Nat) : Int) + 1)
    rw [pval, Nat.pow_succ]
    have h1 := ih.1
    have h2 := ih.2
    have e1 : (bt b 1).toNat * (256 ^ k * 256) = ((bt b 1).toNat * 256 ^ k) * 256 := by rw [Nat.mul_assoc]
    have e2 : ((bt b 1).toNat + 1) * (256 ^ k * 256) = (((bt b 1).toNat + 1) * 256 ^ k) * 256 := by rw [Nat.mul_assoc]
    rw [e1, e2]
    omega
theorem bsize_top (b : ByteArray) (k : Nat) : bsize (pval b (k + 1)) = k + 1 ↔ bt b 1 ≠ 0 := by
  have h := pval_top b k
  have hr := bt_range b 1
  have hle : bsize (pval b (k + 1)) ≤ k + 1 := bsize_le (pval_lt b (k + 1))
  constructor
  · intro he h0
    rw [h0] at h
    have : bsize (pval b (k + 1)) ≤ k := bsize_le (by simpa using h.2)
    omega
  · intro h0
    rcases Nat.lt_or_ge (bsize (pval b (k + 1))) (k + 1) with hlt | hge
    · have h1 := lt_of_bsize (pval b (k + 1))
      have h2 : 256 ^ bsize (pval b (k + 1)) ≤ 256 ^ k := Nat.pow_le_pow_right (by decide) (by omega)
      have h3 : 1 * 256 ^ k ≤ (bt b 1).toNat * 256 ^ k := Nat.mul_le_mul_right _ (by omega)
      omega
    · omega
theorem refread_l0 (b : ByteArray) (s : Nat) (hs : s ≤ 7) (hlt : s < b.size) (hb : b.size ≤ 140737488351232) : ∀ (d i k : Nat), i + d = s → d < k →
    palinoderef01_ReadNum.l0 k b (s : Int) ((pval b i : Nat) : Int) (i : Int) = if 9007199254740991 < pval b s then some (0, ⟨#[]⟩, 3) else some (((pval b s : Nat) : Int), b.extract (1 + s) b.size, 0) := by
  intro d
  induction d with
  | zero =>
    intro i k hi hk
    obtain ⟨k, rfl⟩ : ∃ m, k = m + 1 := ⟨k - 1, by omega⟩
    obtain rfl : i = s := by omega
    simp only [palinoderef01_ReadNum.l0]
    rw [if_neg (by omega)]
    by_cases c : 9007199254740991 < pval b i
    · rw [if_pos (by omega), if_pos c]
    · rw [if_neg (by omega), if_neg c, wrap_of _ (by omega) (by omega), if_pos (by omega), if_pos (by omega)]
      congr 3
  | succ d ih =>
    intro i k hi hk
    obtain ⟨k, rfl⟩ : ∃ m, k = m + 1 := ⟨k - 1, by omega⟩
    simp only [palinoderef01_ReadNum.l0]
    have h1 := pval_lt b i
    have h2 : 256 ^ i ≤ 256 ^ 6 := Nat.pow_le_pow_right (by decide) (by omega)
    have h3 := bt_range b (1 + (i : Int))
    rw [if_pos (by omega), wrap_of (1 + (i : Int)) (by omega) (by omega), if_pos (by omega), if_pos (by omega), wrap_of (256 * _) (by omega) (by omega), wrap_of (bt b _) (by omega) (by omega), wrap_of (256 * _ + _) (by omega) (by omega), wrap_of ((i : Int) + 1) (by omega) (by omega)]
    have e1 : 256 * ((pval b i : Nat) : Int) + bt b (1 + (i : Int)) = ((pval b (i + 1) : Nat) : Int) := by
      rw [pval, show (1 + (i : Int)) = (i : Int) + 1 by omega]
      have h4 := bt_range b ((i : Int) + 1)
      omega
    have e2 : (i : Int) + 1 = ((i + 1 : Nat) : Int) := by omega
    rw [e1, e2, ih (i + 1) k (by omega) (by omega)]
theorem refread_ev (b : ByteArray) (hb : b.size ≤ 140737488351232) : ∃ K, ∀ k, K ≤ k → palinoderef01_ReadNum.f k b = some (refRead b) := by
  refine ⟨30, fun k hk => ?_⟩
  have b0 := bt_range b 0
  have b1 := bt_range b 1
  unfold palinoderef01_ReadNum.f refRead readNum
  by_cases c0 : b.size = 0
  · rw [if_pos (toList_nil_iff.2 c0), if_pos c0]
    rfl
  rw [if_neg (fun h => c0 (toList_nil_iff.1 h)), if_neg c0, if_pos (by omega), wrap_of (bt b 0) (by omega) (by omega)]
  obtain ⟨s, hs⟩ := Int.eq_ofNat_of_zero_le b0.1
  rw [hs] at b0 ⊢
  simp only [Int.toNat_natCast]
  by_cases c1 : 7 < s
  · rw [if_pos (by omega), if_pos c1]
    rfl
  rw [if_neg (by omega), if_neg c1, wrap_of _ (by omega) (by omega)]
  by_cases c2 : b.size ≤ s
  · rw [if_pos (by omega), if_pos c2]
    rfl
  rw [if_neg (by omega), if_neg c2]
  obtain ⟨k, rfl⟩ : ∃ m, k = m + 1 := ⟨k - 1, by omega⟩
  have loop := refread_l0 b s (by omega) (by omega) hb s 0 k (by omega) (by omega)
  have e0 : ((pval b 0 : Nat) : Int) = 0 := rfl
  rw [e0, show ((0 : Nat) : Int) = 0 from rfl] at loop
  by_cases c3 : s = 0
  · subst c3
    rw [if_neg (by omega)]
    simp only [palinoderef01_ReadNum.j0]
    rw [if_neg (by simp), loop, show pval b 0 = 0 from rfl, bsize_zero]
    simp
  · obtain ⟨q, rfl⟩ : ∃ q, s = q + 1 := ⟨s - 1, by omega⟩
    have ht := bsize_top b q
    rw [if_pos (by omega), if_pos (by omega)]
    simp only [palinoderef01_ReadNum.j0]
    by_cases c4 : bt b 1 = 0
    · rw [c4, if_pos (by simp), if_pos (by rw [ne_eq, ht]; simp [c4])]
      rfl
    · rw [if_neg (by simpa using c4), if_neg (by rw [ne_eq, ht]; simp [c4]), loop]
      by_cases c5 : 9007199254740991 < pval b (q + 1)
      · rw [if_pos c5, if_pos c5]
        rfl
      · rw [if_neg c5, if_neg c5]
        rfl
theorem readNum_err (b : ByteArray) : (readNum b).2.2 ≠ some 0 := by
  rcases readNum_cases b with ⟨e, he, h⟩ | ⟨n, rest, hn, he, hr⟩
  · rw [he]
    rcases h with rfl | rfl <;> simp
  · rw [he]
    simp
theorem reftext_ev (s : ByteArray) : ∃ K, ∀ k, K ≤ k → palinoderef01_Text.f k s = some ((textR s).1, (textR s).2.isNone) := by
  obtain ⟨K, hK⟩ := refnum_ev (s.size : Int)
  refine ⟨K, fun k hk => ?_⟩
  unfold palinoderef01_Text.f textR
  by_cases h : 1048576 < s.size
  · rw [if_pos (by omega), if_pos h]
    rfl
  · rw [if_neg (by omega), if_neg h, hK k hk, numR, if_neg (by omega)]
    simp only [Option.bind_some, Int.toNat_natCast]
    rw [if_pos]
    · rfl
    · rw [size_strOfNums, numL_length]
      have := bsize_text (n := s.size) (by omega)
      omega
def refReadText (b : ByteArray) : ByteArray × ByteArray × Int := ((readText b).1, (readText b).2.1, (readText b).2.2.getD 0)
theorem refreadtext_ev (b : ByteArray) (hb : b.size ≤ 140737488351232) : ∃ K, ∀ k, K ≤ k → palinoderef01_ReadText.f k b = some (refReadText b) := by
  obtain ⟨K, hK⟩ := refread_ev b hb
  refine ⟨K, fun k hk => ?_⟩
  unfold palinoderef01_ReadText.f refReadText
  rw [hK k hk]
  simp only [Option.bind_some, refRead]
  rcases readNum_cases b with ⟨e, he, h⟩ | ⟨n, rest, hn, he, hr⟩
  · have : e ≠ 0 := by rcases h with rfl | rfl <;> decide
    simp [readText, he, this]
  · rw [readText, he]
    simp only [Option.getD_none, if_true]
    by_cases c1 : 1048576 < (n : Int)
    · rw [if_pos c1, if_pos c1]
      rfl
    · rw [if_neg c1, if_neg c1]
      by_cases c2 : (rest.size : Int) < (n : Int)
      · rw [if_pos c2, if_pos c2]
        rfl
      · rw [if_neg c2, if_neg c2, if_pos (by omega), if_pos (by omega)]
        rfl
theorem readText_err (b : ByteArray) : (readText b).2.2 ≠ some 0 := by
  rcases readNum_cases b with ⟨e, he, h⟩ | ⟨n, rest, hn, he, hr⟩
  · rw [readText, he]
    rcases h with rfl | rfl <;> simp
  · rw [readText, he]
    simp only
    split
    · simp
    · split <;> simp
end Go.Proofs.Ythdjeekfnlagmaa.Print
