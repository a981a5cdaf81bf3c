import Derived.Test.YtbdkfmhkgeoeaaaTabC
import Derived.Test.YtbdkfmhkgeoeaaaHBlockRefEnc
import Derived.Test.YtbdkfmhkgeoeaaaPrint13
import Derived.Test.YtbdkfmhkgeoeaaaPrint19
import Derived.Test.YtbdkfmhkgeoeaaaPrint14
import Derived.Test.YtbdkfmhkgeoeaaaPrint17
import Derived.Test.YtbdkfmhkgeoeaaaPrint20
import Derived.Test.YtbdkfmhkgeoeaaaHBloomAll
namespace Go.Proofs.Ytbdkfmhkgeoeaaa.Print
open Go.RowKit Go.Proofs.YtbdkfmhkgeoeaaaX Go.Proofs.YtbdkfmhkgeoeaaaW.PrintWords Go.Proofs.YtbdkfmhkgeoeaaaW.PrintLast Go.Proofs.YtbdkfmhkgeoeaaaW.PrintMore
set_option linter.unusedVariables false
set_option linter.unusedSimpArgs false

theorem digs_rev_succ (k n : Nat) : (digs (k + 1) n).reverse = ((n % 256 : Nat) : Int) :: (digs k (n / 256)).reverse := by
  rw [digs, List.reverse_append]
  rfl
theorem refnum_l1 (l : List Int) : ∀ (i : Nat) (acc : List Int) (k : Nat), i ≤ l.length → i < k → acc.length + i < 1000 → l.length < 1000 →
    palinoderef01_Num.l1 k l acc ((i : Int) - 1) = some (strOfNums (acc ++ (l.take i).reverse), true) := by
  intro i
  induction i with
  | zero =>
    intro acc k hi hk ha hl
    obtain ⟨k, rfl⟩ : ∃ m, k = m + 1 := ⟨k - 1, by omega⟩
    simp only [palinoderef01_Num.l1]
    rw [if_neg (by omega)]
    simp
  | succ i ih =>
    intro acc k hi hk ha hl
    obtain ⟨k, rfl⟩ : ∃ m, k = m + 1 := ⟨k - 1, by omega⟩
    simp only [palinoderef01_Num.l1]
    have e : ((i + 1 : Nat) : Int) - 1 = (i : Int) := by omega
    rw [e, if_pos (by omega), if_pos (by omega), if_pos (by omega), if_pos (by omega), wrap_of _ (by omega) (by omega), ih _ k (by omega) (by omega) (by simp; omega) hl]
    have hil : i < l.length := by omega
    have hr : rd l (i : Int) = l[i] := by
      unfold rd
      rw [Int.toNat_natCast, List.getD_eq_getElem?_getD, List.getElem?_eq_getElem hil]
      rfl
    have hq : (l.take (i + 1)).reverse = l[i] :: (l.take i).reverse := by
      rw [List.take_add_one, List.getElem?_eq_getElem hil, List.reverse_append]
      rfl
    rw [hr, hq, List.append_assoc]
    rfl
theorem refnum_l0 (n : Nat) : ∀ (k : Nat) (acc : List Int), n ≤ 9007199254740991 → acc.length + bsize n ≤ 255 → acc.length + bsize n + bsize n + 3 ≤ k →
    palinoderef01_Num.l0 k (n : Int) acc = some (strOfNums (((acc.length + bsize n : Nat) : Int) :: (acc ++ (digs (bsize n) n).reverse).reverse), true) := by
  induction n using Nat.strongRecOn with
  | _ n ih =>
    intro k acc hn ha hk
    obtain ⟨k, rfl⟩ : ∃ m, k = m + 1 := ⟨k - 1, by omega⟩
    simp only [palinoderef01_Num.l0]
    by_cases h0 : n = 0
    · subst h0
      rw [if_neg (by omega), bsize_zero]
      have h1 := refnum_l1 acc acc.length [((acc.length : Int)) % 256] k (Nat.le_refl _) (by omega) (by simp; omega) (by omega)
      rw [wrap_of _ (by omega) (by omega), h1]
      rw [List.take_length]
      have e : ((acc.length : Int)) % 256 = ((acc.length + 0 : Nat) : Int) := by omega
      simp [digs, e]
    · have hp := bsize_pos (n := n) (by omega)
      have hq : wrap64 (Int.tdiv (n : Int) 256) = ((n / 256 : Nat) : Int) := by
        rw [Int.tdiv_eq_ediv_of_nonneg (by omega), wrap_of _ (by omega) (by omega)]
        omega
      have hm : Int.tmod (n : Int) 256 % 256 = ((n % 256 : Nat) : Int) := by
        rw [Int.tmod_eq_emod_of_nonneg (by omega)]
        omega
      rw [if_pos (by omega), if_pos (by omega), hq, hm, ih (n / 256) (by omega) k _ (by omega) (by simp; omega) (by simp; omega), hp, digs_rev_succ]
      have e1 : ((((acc ++ [((n % 256 : Nat) : Int)]).length + bsize (n / 256) : Nat)) : Int) = ((acc.length + (bsize (n / 256) + 1) : Nat) : Int) := by
        simp
        omega
      have e2 : acc ++ [((n % 256 : Nat) : Int)] ++ (digs (bsize (n / 256)) (n / 256)).reverse = acc ++ ((n % 256 : Nat) : Int) :: (digs (bsize (n / 256)) (n / 256)).reverse := by
        rw [List.append_assoc]
        rfl
      rw [e1, e2]
theorem refnum_big (n : Int) (k : Nat) (hk : 30 ≤ k) : palinoderef01_Num.f k n = some ((numR n).1, (numR n).2.isNone) := by
  obtain ⟨k, rfl⟩ : ∃ m, k = m + 1 := ⟨k - 1, by omega⟩
  unfold palinoderef01_Num.f numR
  by_cases h0 : n < 0
  · rw [if_pos h0, if_pos (.inl h0)]
    simp [palinoderef01_Num.j0]
  by_cases h1 : 9007199254740991 < n
  · rw [if_neg h0, if_pos (.inr h1)]
    simp [palinoderef01_Num.j0, h1]
  obtain ⟨m, rfl⟩ := Int.eq_ofNat_of_zero_le (show 0 ≤ n by omega)
  have h7 := bsize_7 (n := m) (by omega)
  rw [if_neg h0, if_neg (by omega)]
  simp only [palinoderef01_Num.j0]
  rw [if_neg (by simpa using h1), refnum_l0 m k [] (by omega) (by simp; omega) (by simp; omega)]
  simp [numL]
theorem refnum_ev (n : Int) : ∃ K, ∀ k, K ≤ k → palinoderef01_Num.f k n = some ((numR n).1, (numR n).2.isNone) := ⟨30, refnum_big n⟩
theorem reftext_big (s : ByteArray) (k : Nat) (hk : 30 ≤ k) : palinoderef01_Text.f k s = some ((textR s).1, (textR s).2.isNone) := by
  have hK := refnum_big (s.size : Int)
  unfold palinoderef01_Text.f textR
  by_cases h : 1048576 < s.size
  · rw [if_pos (by omega), if_pos h]
    rfl
  · rw [if_neg (by omega), if_neg h, hK k hk, numR, if_neg (by omega)]
    simp only [Option.bind_some, Int.toNat_natCast]
    rw [if_pos]
    · rfl
    · rw [size_strOfNums, numL_length]
      have := bsize_text (n := s.size) (by omega)
      omega
theorem reftext_ev (s : ByteArray) : ∃ K, ∀ k, K ≤ k → palinoderef01_Text.f k s = some ((textR s).1, (textR s).2.isNone) := ⟨30, reftext_big s⟩
theorem refRight_eq (e : Ent) : palinoderef10_Right.f e.f0 e.f1 e.f2 e.f3 = some (rightB e) := by
  have key : ∀ b : Bool, (rightB e = b) → palinoderef10_Right.f e.f0 e.f1 e.f2 e.f3 = some b := by
    intro b hb
    unfold palinoderef10_Right.f
    have no : ∀ p : Prop, ¬ p → (rightB e = true → p) → b = false := fun p hp h => by
      cases b with
      | false => rfl
      | true => exact absurd (h hb) hp
    have hR := fun h => (right_iff (e := e)).1 h
    by_cases c1 : e.f0.toList = ([] : List UInt8)
    · rw [if_pos c1, no (0 < e.f0.size) (by rw [toList_nil_iff] at c1; omega) (fun h => (hR h).2.2.2.1)]
    · rw [if_neg c1]
      have z0 : 0 < e.f0.size := by rw [toList_nil_iff] at c1; omega
      by_cases c2 : (e.f0.size : Int) ≤ 80
      · rw [if_pos c2]
        by_cases c3 : (e.f3.size : Int) ≤ 300
        · rw [if_pos c3]
          by_cases c4 : e.f1 ≥ 1
          · rw [if_pos c4]
            by_cases c5 : e.f1 ≤ 9007199254740991
            · rw [if_pos c5]
              by_cases c6 : e.f2 = true
              · rw [if_pos c6, ← hb]
                congr 1
                rw [Bool.eq_iff_iff, beq_iff_eq, right_iff]
                exact ⟨fun h => ⟨fun _ => h, c4, c5, z0, by omega, by omega⟩, fun h => h.1 c6⟩
              · rw [if_neg c6, ← hb]
                congr 1
                symm
                rw [right_iff]
                exact ⟨fun h => absurd h c6, c4, c5, z0, by omega, by omega⟩
            · rw [if_neg c5, no _ c5 (fun h => (hR h).2.2.1)]
          · rw [if_neg c4, no (1 ≤ e.f1) (by omega) (fun h => (hR h).2.1)]
        · rw [if_neg c3, no (e.f3.size ≤ 300) (by omega) (fun h => (hR h).2.2.2.2.2)]
      · rw [if_neg c2, no (e.f0.size ≤ 80) (by omega) (fun h => (hR h).2.2.2.2.1)]
  exact key _ rfl
theorem refBefore_eq (x y : Ent) : palinoderef10_Before.f x.f0 x.f1 x.f2 x.f3 y.f0 y.f1 y.f2 y.f3 = some (beforeB x y) := by
  unfold palinoderef10_Before.f beforeB bless
  by_cases d : x.f0.toList = y.f0.toList
  · rw [if_pos d, d, bl_irr]; simp
  · rw [if_neg d, beq_eq_false_iff_ne.mpr d]; simp
theorem refSorted_l0 (l : List Ent) (hl : l.length ≤ 4611686018427387904) : ∀ (n i k : Nat), l.length - i = n → i ≤ l.length → n < k → palinoderef12_Sorted.l0 k l (i : Int) = some (((List.range l.length).drop i).all (sAt l)) := by
  intro n
  induction n with
  | zero =>
    intro i k hn hi hk
    obtain ⟨k, rfl⟩ : ∃ j, k = j + 1 := ⟨k - 1, by omega⟩
    simp only [palinoderef12_Sorted.l0]
    rw [if_neg (by omega), List.drop_eq_nil_of_le (by simp; omega)]
    rfl
  | succ n ih =>
    intro i k hn hi hk
    obtain ⟨k, rfl⟩ : ∃ j, k = j + 1 := ⟨k - 1, by omega⟩
    simp only [palinoderef12_Sorted.l0]
    rw [if_pos (by omega), if_pos (by omega), rd_gt, refRight_eq, Option.bind_some, range_drop _ _ (by omega), List.all_cons, wrap_of ((i : Int) + 1) (by omega) (by omega), show (i : Int) + 1 = ((i + 1 : Nat) : Int) by omega, ih (i + 1) k (by omega) (by omega) (by omega)]
    unfold sAt
    cases hr : rightB (gt l i) with
    | false => rw [if_neg (by simp)]; simp
    | true =>
      rw [if_pos rfl]
      by_cases h0 : i = 0
      · subst h0
        rw [if_neg (by omega)]
        simp
      · rw [if_pos (by omega), wrap_of ((i : Int) - 1) (by omega) (by omega), show (i : Int) - 1 = ((i - 1 : Nat) : Int) by omega, if_pos (by omega), if_pos (by omega), rd_gt, refBefore_eq, Option.bind_some, decide_eq_false h0]
        cases hb : beforeB (gt l (i - 1)) (gt l i) with
        | false => rw [if_neg (by simp)]; simp
        | true => rw [if_pos rfl]; simp
theorem refSorted_big (l : List Ent) (hl : l.length ≤ 4611686018427387904) (k : Nat) (hk : l.length < k) : palinoderef12_Sorted.f k l = some (sortedB l) := by
  unfold palinoderef12_Sorted.f
  have h := refSorted_l0 l hl l.length 0 k (by omega) (by omega) hk
  rw [show ((0 : Nat) : Int) = 0 from rfl, List.drop_zero] at h
  exact h
theorem refShared_l0 (a b : ByteArray) (ha : a.size ≤ 4611686018427387904) : ∀ (n i k : Nat), min a.size b.size - i = n → i ≤ min a.size b.size → n < k →
    palinoderef12_shared.l0 k a b (i : Int) = some ((i + pre ((bytesOf a).drop i) ((bytesOf b).drop i) : Nat) : Int) := by
  intro n
  induction n with
  | zero =>
    intro i k hn hi hk
    obtain ⟨k, rfl⟩ : ∃ j, k = j + 1 := ⟨k - 1, by omega⟩
    simp only [palinoderef12_shared.l0]
    have hp : pre ((bytesOf a).drop i) ((bytesOf b).drop i) = 0 := by
      have := pre_le ((bytesOf a).drop i) ((bytesOf b).drop i)
      rw [List.length_drop, List.length_drop, bytesOf_length, bytesOf_length] at this
      omega
    rw [hp]
    by_cases c : (i : Int) < (a.size : Int)
    · rw [if_pos c, if_neg (by omega)]; rfl
    · rw [if_neg c]; rfl
  | succ n ih =>
    intro i k hn hi hk
    obtain ⟨k, rfl⟩ : ∃ j, k = j + 1 := ⟨k - 1, by omega⟩
    simp only [palinoderef12_shared.l0]
    have h1 : i < (bytesOf a).length := by rw [bytesOf_length]; omega
    have h2 : i < (bytesOf b).length := by rw [bytesOf_length]; omega
    rw [if_pos (by omega), if_pos (by omega), if_pos (by omega), List.drop_eq_getElem_cons h1, List.drop_eq_getElem_cons h2, bt_get a i h1, bt_get b i h2]
    simp only [pre]
    by_cases c : (bytesOf a)[i] = (bytesOf b)[i]
    · rw [if_pos c, if_pos c, wrap_of _ (by omega) (by omega), show (i : Int) + 1 = ((i + 1 : Nat) : Int) by omega, ih (i + 1) k (by omega) (by omega) (by omega)]
      congr 2
      omega
    · rw [if_neg c, if_neg c]; rfl
theorem refShared_eq (a b : ByteArray) (k : Nat) (hk : a.size < k) (ha : a.size ≤ 4611686018427387904) : palinoderef12_shared.f k a b = some (shN a b : Int) := by
  unfold palinoderef12_shared.f
  have h := refShared_l0 a b ha (min a.size b.size) 0 k (by omega) (by omega) (by omega)
  rw [show ((0 : Nat) : Int) = 0 from rfl, List.drop_zero, List.drop_zero, Nat.zero_add] at h
  exact h
theorem rnum_eq (n : Nat) (h : n ≤ 9007199254740991) : palinoderef12_num.f 1000 (n : Int) = some (strOfNums (numL n)) := by
  unfold palinoderef12_num.f
  rw [refnum_big _ 1000 (by omega), Option.bind_some]
  unfold numR
  rw [if_neg (show ¬ ((n : Int) < 0 ∨ 9007199254740991 < (n : Int)) by omega), Int.toNat_natCast]
theorem rtext_eq (s : ByteArray) (h : s.size ≤ 1000) : palinoderef12_text.f 1000 s = some (strOfNums (textL s)) := by
  unfold palinoderef12_text.f
  rw [reftext_big _ 1000 (by omega), Option.bind_some]
  unfold textR
  rw [if_neg (show ¬ 1048576 < s.size by omega), SN_text]
theorem rapp_eq (xs ys : List Int) (h : xs.length + ys.length ≤ 1000000000) : rapp (strOfNums xs) (strOfNums ys) = some (strOfNums (xs ++ ys)) := by
  unfold rapp
  rw [if_pos (by rw [size_strOfNums, size_strOfNums]; exact h), SN_append]
theorem refTail_eq (xs : List Int) (n : Nat) (e : Ent) (h : rightB e = true) (hn : n ≤ e.f0.size) (hx : xs.length ≤ 800000000) : refTail e (n : Int) (strOfNums xs) = some (strOfNums (xs ++ entL n e)) := by
  obtain ⟨h1, h2, h3, h4, h5, h6⟩ := right_iff.1 h
  unfold refTail
  have a := numL_len (n := n) (by omega)
  have b := textL_len (cutK e.f0 n) (by rw [cutK_size]; omega)
  have c := numL_len (n := e.f1.toNat) (by omega)
  have d := textL_len e.f3 (by omega)
  rw [cutK_size] at b
  have f0 := numL_len (n := 0) (by omega)
  have f1 := numL_len (n := 1) (by omega)
  obtain ⟨q, hq⟩ := Int.eq_ofNat_of_zero_le (show 0 ≤ e.f1 by omega)
  rw [hq, Int.toNat_natCast] at c
  rw [rnum_eq _ (by omega), Option.bind_some, rapp_eq _ _ (by omega), Option.bind_some, if_pos ⟨by omega, by omega⟩, Int.toNat_natCast, show e.f0.extract n e.f0.size = cutK e.f0 n from rfl, rtext_eq _ (by rw [cutK_size]; omega), Option.bind_some, rapp_eq _ _ (by rw [List.length_append]; omega), Option.bind_some, hq, rnum_eq _ (by omega), Option.bind_some, rapp_eq _ _ (by rw [List.length_append, List.length_append]; omega), Option.bind_some]
  unfold entL
  rw [hq, Int.toNat_natCast]
  cases hd : e.f2 with
  | true =>
    rw [if_pos rfl, if_pos rfl, show (1 : Int) = ((1 : Nat) : Int) from rfl, rnum_eq _ (by omega), Option.bind_some, rapp_eq _ _ (by rw [List.length_append, List.length_append, List.length_append]; omega)]
    simp only [List.append_assoc]
  | false =>
    rw [if_neg (by simp), if_neg (by simp), show (0 : Int) = ((0 : Nat) : Int) from rfl, rnum_eq _ (by omega), Option.bind_some, rapp_eq _ _ (by rw [List.length_append, List.length_append, List.length_append]; omega), Option.bind_some, rtext_eq _ (by omega), Option.bind_some, rapp_eq _ _ (by rw [List.length_append, List.length_append, List.length_append, List.length_append]; omega)]
    simp only [List.append_assoc]
theorem refOneE_eq (l : List Ent) (i : Nat) (xs : List Int) (h : rightB (gt l i) = true) (hp : i % 4 ≠ 0 → (gt l (i - 1)).f0.size ≤ 80) (hx : xs.length ≤ 800000000) : refOne l i (strOfNums xs) = some (strOfNums (xs ++ entL (nAt l i) (gt l i))) := by
  unfold refOne
  have hn := nAt_le l i h
  unfold nAt at hn ⊢
  by_cases c : i % 4 = 0
  · rw [if_pos c, if_pos c, rd_gt, show (0 : Int) = ((0 : Nat) : Int) from rfl, refTail_eq _ _ _ h (by omega) hx]
  · rw [if_neg c] at hn
    rw [if_neg c, if_neg c, show (i : Int) - 1 = ((i - 1 : Nat) : Int) by omega, rd_gt, rd_gt, refShared_eq _ _ _ (by have := hp c; omega) (by have := hp c; omega), Option.bind_some, refTail_eq _ _ _ h hn.1 hx]
theorem refLoop_eq (l : List Ent) (h : sortedB l = true) (hl : l.length ≤ 200) : ∀ (m i : Nat) (xs : List Int), i + m = l.length → xs.length ≤ 10 + 500 * i → refLoop l m i (strOfNums xs) = some (strOfNums (xs ++ encFrom l m i)) := by
  intro m
  induction m with
  | zero => intro i xs _ _; simp only [refLoop, encFrom, List.append_nil]
  | succ m ih =>
    intro i xs hi hx
    have hr := (sAt_iff.1 (sortedB_iff.1 h i (by omega))).1
    have hp : i % 4 ≠ 0 → (gt l (i - 1)).f0.size ≤ 80 := fun c => (right_iff.1 (sAt_iff.1 (sortedB_iff.1 h (i - 1) (by omega))).1).2.2.2.2.1
    have hlen := entL_len (nAt l i) (gt l i) hr (by have := (nAt_le l i hr).2; omega)
    simp only [refLoop, encFrom]
    rw [refOneE_eq l i xs hr hp (by omega), Option.bind_some, ih (i + 1) _ (by omega) (by rw [List.length_append]; omega), List.append_assoc]
def codeR (r : ByteArray × Option Int) : ByteArray × Int := (r.1, r.2.getD 0)
theorem refEncode_eq (l : List Ent) : palinoderef12_Encode.f l = some (codeR (encR l)) := by
  unfold palinoderef12_Encode.f encR
  by_cases c : 200 < l.length
  · rw [if_pos c, if_pos c]; rfl
  · rw [if_neg c, if_neg c, refSorted_big l (by omega) 1000 (by omega), Option.bind_some]
    by_cases d : sortedB l = true
    · have a := numL_len (n := l.length) (by omega)
      rw [if_pos d, if_pos d, rnum_eq _ (by omega), Option.bind_some, refLoop_eq l d (by omega) _ 0 _ (by omega) (by omega), Option.bind_some]
      rfl
    · rw [if_neg d, if_neg d]; rfl
theorem refsum_l1 (s : ByteArray) (i : Int) : ∀ (d j n k : Nat), j + d = 8 → n < 4294967296 → palinoderef03_Sum.l1 (d + 1 + k) s (n : Int) i (j : Int) = palinoderef03_Sum.l0 k s (stsN d n : Int) (wrap64 (i + 1)) := by
  intro d
  induction d with
  | zero =>
    intro j n k hj hn
    rw [show 0 + 1 + k = k + 1 by omega]
    conv => lhs; unfold palinoderef03_Sum.l1
    rw [if_neg (by omega)]
    rfl
  | succ d ih =>
    intro j n k hj hn
    rw [show d + 1 + 1 + k = (d + 1 + k) + 1 by omega]
    conv => lhs; unfold palinoderef03_Sum.l1
    have hd : Int.tdiv (n : Int) 2 % 4294967296 = ((n / 2 : Nat) : Int) := by rw [Int.tdiv_eq_ediv_of_nonneg (by omega)]; omega
    have hm : Int.tmod (n : Int) 2 = ((n % 2 : Nat) : Int) := by rw [Int.tmod_eq_emod_of_nonneg (by omega)]; omega
    have hs := stN_lt hn
    rw [if_pos (by omega), hd, hm, wrap_of ((j : Int) + 1) (by omega) (by omega), show (j : Int) + 1 = ((j + 1 : Nat) : Int) by omega]
    have goal : ∀ q : Nat, q = stN n → palinoderef03_Sum.l1 (d + 1 + k) s (q : Int) i ((j + 1 : Nat) : Int) = palinoderef03_Sum.l0 k s (stsN (d + 1) n : Int) (wrap64 (i + 1)) := by
      rintro q rfl
      rw [ih (j + 1) (stN n) k (by omega) hs]
      rfl
    by_cases c : n % 2 = 1
    · rw [if_pos (by omega)]
      have hx := bits_xor (n / 2) 2197175160 (by omega) (by decide)
      rw [show (2197175160 : Int) = ((2197175160 : Nat) : Int) from rfl, hx]
      exact goal _ (by unfold stN; rw [if_pos c])
    · rw [if_neg (by omega)]
      exact goal _ (by unfold stN; rw [if_neg c])
theorem refsum_l0 (s : ByteArray) (h : s.size ≤ 140737488351232) : ∀ (d i e : Nat), i + d = s.size → palinoderef03_Sum.l0 (10 * d + 1 + e) s (sumN s i : Int) (i : Int) = some (sumR s) := by
  intro d
  induction d with
  | zero =>
    intro i e hi
    obtain rfl : i = s.size := by omega
    rw [show 10 * 0 + 1 + e = e + 1 by omega]
    conv => lhs; unfold palinoderef03_Sum.l0
    rw [if_neg (by omega), sumR_nat, show (4294967295 : Int) = ((4294967295 : Nat) : Int) from rfl, bits_xor _ _ (sumN_lt s _) (by decide), Nat.xor_comm]
  | succ d ih =>
    intro i e hi
    rw [show 10 * (d + 1) + 1 + e = (8 + 1 + (10 * d + 1 + e)) + 1 by omega]
    conv => lhs; unfold palinoderef03_Sum.l0
    have hb := bt_nat s (i : Int)
    have hl := sumN_lt s i
    have hx := xor_lt32 (a := sumN s i) (b := (bt s i).toNat) hl (by omega)
    have e1 : bits .xor .u32 (sumN s i : Int) (bt s (i : Int) % 4294967296) = ((sumN s i ^^^ (bt s i).toNat : Nat) : Int) := by
      rw [← bits_xor _ _ hl (by omega)]
      congr 1
      omega
    rw [if_pos (by omega), if_pos (by omega), e1]
    have := refsum_l1 s (i : Int) 8 0 (sumN s i ^^^ (bt s i).toNat) (10 * d + 1 + e) (by omega) hx
    rw [show ((0 : Nat) : Int) = 0 from rfl] at this
    rw [this, wrap_of ((i : Int) + 1) (by omega) (by omega), show (i : Int) + 1 = ((i + 1 : Nat) : Int) by omega]
    exact ih (i + 1) e (by omega)
theorem refsum_ev (s : ByteArray) (h : s.size ≤ 140737488351232) : ∃ K, ∀ k, K ≤ k → palinoderef03_Sum.f k s = some (sumR s) := by
  refine ⟨10 * s.size + 1, fun k hk => ?_⟩
  have := refsum_l0 s h s.size 0 (k - (10 * s.size + 1)) (by omega)
  rw [show 10 * s.size + 1 + (k - (10 * s.size + 1)) = k by omega] at this
  exact this
theorem refput_ev (s : ByteArray) (h : s.size ≤ 140737488351232) : ∃ K, ∀ k, K ≤ k → palinoderef03_Put.f k s = some ((putR s).1, (putR s).2.isNone) := by
  obtain ⟨K1, h1⟩ := reftext_ev s
  obtain ⟨K2, h2⟩ := refsum_ev s h
  refine ⟨K1 + K2, fun k hk => ?_⟩
  unfold palinoderef03_Put.f putR
  rw [h1 k (by omega), h2 k (by omega)]
  unfold textR
  by_cases c : 1048576 < s.size
  · rw [if_pos c, if_pos c]
    simp
  · rw [if_neg c, if_neg c]
    have hz := textL_size s
    have hb := bsize_text (n := s.size) (by omega)
    have hf : palinoderef03_four.f (sumR s) = some (fourS (sumR s)) := rfl
    simp only [Option.bind_some, Option.isNone_none, if_true]
    rw [hf]
    simp only [Option.bind_some]
    rw [fourS_size, if_pos (by omega)]
theorem rdOf_at (l : List ByteArray) (i : Nat) (h : i < l.length) : rdOf ByteArray.empty l (i : Int) = l[i] := by
  unfold rdOf
  rw [Int.toNat_natCast, List.getD_eq_getElem?_getD, List.getElem?_eq_getElem h]
  rfl
theorem rowR_no {s : ByteArray} {l : List ByteArray} {b : ByteArray} (h : ¬ (s.size ≤ 1048576 ∧ b.size + (textB s).size ≤ 1048576)) : rowR (s :: l) b = (⟨#[]⟩, some 5) := if_neg h
theorem rowR_yes {s : ByteArray} {l : List ByteArray} {b : ByteArray} (h : s.size ≤ 1048576 ∧ b.size + (textB s).size ≤ 1048576) : rowR (s :: l) b = rowR l (b ++ textB s) := if_pos h
theorem textR_no {s : ByteArray} (h : 1048576 < s.size) : textR s = (⟨#[]⟩, some 5) := if_pos h
theorem textR_yes {s : ByteArray} (h : ¬ 1048576 < s.size) : textR s = (textB s, none) := if_neg h
theorem refrow_step (l : List ByteArray) (i : Nat) (hi : i < l.length) (b : ByteArray) (k : Nat) (t : ByteArray × Bool) (hl : l.length ≤ 1000) (ht : palinoderef01_Text.f k l[i] = some t) (hs : b.size + t.1.size ≤ 9000000000000000000) :
    palinoderef01_Row.l0 (k + 1) l b (i : Int) = if t.2 = true then (if 1048576 < b.size + t.1.size then some (⟨#[]⟩, false) else palinoderef01_Row.l0 k l (b ++ t.1) ((i + 1 : Nat) : Int)) else some (⟨#[]⟩, false) := by
  conv => lhs; unfold palinoderef01_Row.l0
  rw [if_pos (by omega), if_pos (by omega), rdOf_at l i hi, ht]
  simp only [Option.bind_some]
  by_cases h : t.2 = true
  · rw [if_pos h, if_pos h, wrap_of _ (by omega) (by omega)]
    by_cases h2 : 1048576 < b.size + t.1.size
    · rw [if_pos (by omega), if_pos h2]
    · rw [if_neg (by omega), if_neg h2, if_pos (by omega), wrap_of _ (by omega) (by omega)]
      rfl
  · rw [if_neg h, if_neg h]
theorem refrow_l0 (l : List ByteArray) (hl : l.length ≤ 1000) : ∀ (d i : Nat) (b : ByteArray), i + d = l.length → b.size ≤ 1048576 →
    ∃ K, ∀ k, K ≤ k → palinoderef01_Row.l0 k l b (i : Int) = some ((rowR (l.drop i) b).1, (rowR (l.drop i) b).2.isNone) := by
  intro d
  induction d with
  | zero =>
    intro i b hi hb
    refine ⟨1, fun k hk => ?_⟩
    obtain ⟨k, rfl⟩ : ∃ m, k = m + 1 := ⟨k - 1, by omega⟩
    conv => lhs; unfold palinoderef01_Row.l0
    rw [if_neg (by omega), List.drop_of_length_le (by omega)]
    simp only [rowR, Option.isNone_none]
  | succ d ih =>
    intro i b hi hb
    have hlt : i < l.length := by omega
    obtain ⟨K1, k1⟩ := reftext_ev l[i]
    rw [List.drop_eq_getElem_cons hlt]
    by_cases h : 1048576 < l[i].size
    · refine ⟨K1 + 1, fun k hk => ?_⟩
      obtain ⟨k, rfl⟩ : ∃ m, k = m + 1 := ⟨k - 1, by omega⟩
      have ht := k1 k (by omega)
      rw [textR_no h] at ht
      have hz0 : (⟨#[]⟩ : ByteArray).size = 0 := rfl
      rw [refrow_step l i hlt b k _ hl ht (by simp only [hz0]; omega), rowR_no (fun h2 => by omega)]
      rfl
    · have hz := textB_sz l[i] (by omega)
      by_cases h2 : b.size + (textB l[i]).size ≤ 1048576
      · obtain ⟨K2, k2⟩ := ih (i + 1) (b ++ textB l[i]) (by omega) (by rw [app_size]; exact h2)
        refine ⟨K1 + K2 + 1, fun k hk => ?_⟩
        obtain ⟨k, rfl⟩ : ∃ m, k = m + 1 := ⟨k - 1, by omega⟩
        have ht := k1 k (by omega)
        rw [textR_yes h] at ht
        rw [refrow_step l i hlt b k _ hl ht (by show b.size + (textB l[i]).size ≤ _; omega), rowR_yes ⟨by omega, h2⟩]
        simp only [Option.isNone_none, if_true]
        rw [if_neg (by omega)]
        exact k2 k (by omega)
      · refine ⟨K1 + 1, fun k hk => ?_⟩
        obtain ⟨k, rfl⟩ : ∃ m, k = m + 1 := ⟨k - 1, by omega⟩
        have ht := k1 k (by omega)
        rw [textR_yes h] at ht
        rw [refrow_step l i hlt b k _ hl ht (by show b.size + (textB l[i]).size ≤ _; omega), rowR_no (fun h => h2 h.2)]
        simp only [Option.isNone_none, if_true]
        rw [if_pos (by omega)]
        simp only [Option.isNone_some]
theorem refrow_ev (l : List ByteArray) : ∃ K, ∀ k, K ≤ k → palinoderef01_Row.f k l = some ((rowS l).1, (rowS l).2.isNone) := by
  unfold rowS
  by_cases hl : l.length ≤ 1000
  · rw [if_pos hl]
    have h7 := bsize_7 (n := l.length) (by omega)
    obtain ⟨K1, k1⟩ := refnum_ev (l.length : Int)
    obtain ⟨K2, k2⟩ := refrow_l0 l hl l.length 0 (strOfNums (numL l.length)) (by omega) (by rw [size_strOfNums, numL_length]; omega)
    refine ⟨K1 + K2, fun k hk => ?_⟩
    unfold palinoderef01_Row.f
    rw [if_neg (by omega), k1 k (by omega), numR, if_neg (by omega), Int.toNat_natCast]
    have := k2 k (by omega)
    rw [List.drop_zero, show ((0 : Nat) : Int) = 0 from rfl] at this
    exact this
  · rw [if_neg hl]
    refine ⟨0, fun k hk => ?_⟩
    unfold palinoderef01_Row.f
    rw [if_pos (by omega)]
    rfl
theorem or64 (a b : Nat) (ha : a < 18446744073709551616) (hb : b < 18446744073709551616) : bits .or .u64 (a : Int) (b : Int) = ((a ||| b : Nat) : Int) := by
  have h : bits .or .u64 (a : Int) (b : Int) = IntKind.u64.wrap (((a : Int) % 2 ^ 64).toNat ||| ((b : Int) % 2 ^ 64).toNat : Nat) := rfl
  have e1 : ((a : Int) % 2 ^ 64).toNat = a := by omega
  have e2 : ((b : Int) % 2 ^ 64).toNat = b := by omega
  have : a ||| b < 18446744073709551616 := Nat.or_lt_two_pow (n := 64) ha hb
  rw [h, e1, e2, IntKind.wrap_u64]
  omega
theorem or_one (x : Nat) : x ||| 1 = if x % 2 = 0 then x + 1 else x := by
  have h := Nat.two_pow_add_eq_or_of_lt (i := 1) (b := 1) (by decide) (x / 2)
  split
  · have e : x = 2 ^ 1 * (x / 2) := by omega
    conv => lhs; rw [e]
    rw [← h]; omega
  · have e : x = 2 ^ 1 * (x / 2) ||| 1 := by rw [← h]; omega
    conv => lhs; rw [e]
    rw [Nat.or_assoc, Nat.or_self, ← h]; omega
theorem or64_one (x : Int) (h0 : 0 ≤ x) (h : x < 18446744073709551616) : bits .or .u64 x 1 = if x % 2 = 0 then x + 1 else x := by
  obtain ⟨n, rfl⟩ := Int.eq_ofNat_of_zero_le h0
  have := or64 n 1 (by omega) (by decide)
  rw [show ((1 : Nat) : Int) = 1 from rfl] at this
  rw [this, or_one]
  split <;> split <;> omega
theorem rotH_range (h : Int) (h0 : 0 ≤ h ∧ h < 18446744073709551616) : 0 ≤ rotH h ∧ rotH h < 18446744073709551616 := by
  unfold rotH
  obtain ⟨a, ha⟩ := Int.eq_ofNat_of_zero_le (show 0 ≤ IntKind.u64.wrap (h * 4294967296) by rw [IntKind.wrap_u64]; omega)
  obtain ⟨b, hb⟩ := Int.eq_ofNat_of_zero_le (show 0 ≤ h / 4294967296 by omega)
  have ha2 : a < 18446744073709551616 := by rw [IntKind.wrap_u64] at ha; omega
  have hb2 : b < 18446744073709551616 := by omega
  rw [ha, hb, or64 a b ha2 hb2]
  have : a ||| b < 18446744073709551616 := Nat.or_lt_two_pow (n := 64) ha2 hb2
  omega

theorem refHash_l (s : ByteArray) (hs : s.size ≤ 4611686018427387904) : ∀ (n i k : Nat), s.size - i = n → i ≤ s.size → n < k → palinoderef11_Hash.l0 k s (hashTo s i) (i : Int) = some (hashTo s s.size) := by
  intro n
  induction n with
  | zero =>
    intro i k hn hi hk
    obtain ⟨k, rfl⟩ : ∃ j, k = j + 1 := ⟨k - 1, by omega⟩
    obtain rfl : i = s.size := by omega
    simp only [palinoderef11_Hash.l0]
    rw [if_neg (by omega)]
  | succ n ih =>
    intro i k hn hi hk
    obtain ⟨k, rfl⟩ : ∃ j, k = j + 1 := ⟨k - 1, by omega⟩
    simp only [palinoderef11_Hash.l0]
    have hb := bt_range s (i : Int)
    have e : IntKind.u64.wrap ((bits .xor .u64 (hashTo s i) (IntKind.u64.wrap (bt s (i : Int)))) * 1099511628211) = hashTo s (i + 1) := by
      rw [IntKind.wrap_u64, IntKind.wrap_u64, show bt s (i : Int) % 18446744073709551616 = bt s (i : Int) by omega]
      rfl
    rw [if_pos (by omega), if_pos (by omega), e, wrap_of _ (by omega) (by omega), show (i : Int) + 1 = ((i + 1 : Nat) : Int) by omega, ih (i + 1) k (by omega) (by omega) (by omega)]
theorem refHash_big (s : ByteArray) (hs : s.size ≤ 4611686018427387904) (k : Nat) (hk : s.size < k) : palinoderef11_Hash.f k s = some (hashTo s s.size) := by
  unfold palinoderef11_Hash.f
  exact refHash_l s hs s.size 0 k (by omega) (by omega) hk
theorem hAt_eq (s : ByteArray) (i : Nat) : hAt s i = (hashTo s s.size + (i : Int) * stepG s) % 18446744073709551616 := by
  induction i with
  | zero =>
    have := hashTo_range s s.size
    show hashTo s s.size = _
    rw [show ((0 : Nat) : Int) * stepG s = 0 by simp, Int.add_zero]
    omega
  | succ i ih =>
    show (hAt s i + stepG s) % 18446744073709551616 = _
    rw [ih, Int.emod_add_emod]
    congr 1
    rw [show ((i + 1 : Nat) : Int) = (i : Int) + 1 by omega, Int.add_mul, Int.one_mul, Int.add_assoc]
theorem place_big (s : ByteArray) (hs : s.size ≤ 4611686018427387904) (m : Nat) (hm : 0 < m) (h2 : m ≤ 2000000000000000) (i : Nat) (hi : i ≤ 1000000) (k : Nat) (hk : s.size < k) : palinoderef11_place.f k s (i : Int) (m : Int) = some ((plc s m hm i).val : Int) := by
  have hr := hashTo_range s s.size
  have hq := rotH_range _ hr
  unfold palinoderef11_place.f
  rw [refHash_big s hs k hk]
  simp only [Option.bind_some]
  rw [show bits .or .u64 (IntKind.u64.wrap (hashTo s s.size * 4294967296)) (hashTo s s.size / 4294967296) = rotH (hashTo s s.size) from rfl, plc_val s m hm h2 i, hAt_eq]
  have hg : stepG s = if rotH (hashTo s s.size) % 2 = 0 then rotH (hashTo s s.size) + 1 else rotH (hashTo s s.size) := or64_one _ hq.1 hq.2
  have wm : IntKind.u64.wrap (m : Int) = (m : Int) := by rw [IntKind.wrap_u64]; omega
  have wi : IntKind.u64.wrap (i : Int) = (i : Int) := by rw [IntKind.wrap_u64]; omega
  rw [wm, wi, Int.tmod_eq_emod_of_nonneg hq.1]
  generalize hashTo s s.size = h at *
  generalize rotH h = q at *
  have e : ∀ g : Int, g = stepG s → Int.tmod (IntKind.u64.wrap (h + IntKind.u64.wrap ((i : Int) * g))) (m : Int) = (h + (i : Int) * stepG s) % 18446744073709551616 % (m : Int) := by
    rintro g rfl
    rw [IntKind.wrap_u64, IntKind.wrap_u64, Int.add_emod_emod, Int.tmod_eq_emod_of_nonneg (Int.emod_nonneg _ (by decide))]
  by_cases c : q % 2 = 0
  · rw [if_pos c] at hg
    have wq : IntKind.u64.wrap (q + 1) = stepG s := by rw [IntKind.wrap_u64, hg]; omega
    rw [if_pos c, if_neg (by omega), e _ wq]
  · rw [if_neg c] at hg
    rw [if_neg c, if_neg (by omega), e _ hg.symm]

theorem setBit_length (xs : List Int) (p : Nat) : (setBit xs p).length = xs.length := by unfold setBit; rw [List.length_set]
theorem shl_one (r : Nat) (h : r < 8) : shl .u8 1 (r : Int) = 2 ^ r := by
  have : r = 0 ∨ r = 1 ∨ r = 2 ∨ r = 3 ∨ r = 4 ∨ r = 5 ∨ r = 6 ∨ r = 7 := by omega
  rcases this with rfl | rfl | rfl | rfl | rfl | rfl | rfl | rfl <;> rfl
theorem setFold_cons (m : Nat) (xs : List Int) (p : Fin m) (ps : List (Fin m)) : setFold m xs (p :: ps) = setFold m (setBit xs p.val) ps := rfl
theorem refMake_l1 (l : List ByteArray) (N K B : Nat) (hm : 0 < 8 * N) (hN : N ≤ 6000) (hK : K ≤ 20) (hB : B ≤ 4611686018427387904) (i : Nat) (hi : i < l.length) (hl : l.length ≤ 2000) (hkey : (l[i]'hi).size ≤ B) :
    ∀ (n j k : Nat) (xs : List Int), K - j = n → j ≤ K → B < k → xs.length = N → palinoderef11_Make.l1 (k + n + 1) l (N : Int) (K : Int) (xs ++ [0]) (i : Int) (j : Int) = palinoderef11_Make.l0 k l (N : Int) (K : Int) (setFold (8 * N) xs (((List.range K).drop j).map (plc (l[i]'hi) (8 * N) hm)) ++ [0]) ((i + 1 : Nat) : Int) := by
  intro n
  induction n with
  | zero =>
    intro j k xs hn hj hk hx
    obtain rfl : j = K := by omega
    simp only [palinoderef11_Make.l1]
    rw [if_neg (by omega), wrap_of _ (by omega) (by omega), List.drop_eq_nil_of_le (by simp), List.map_nil, show (i : Int) + 1 = ((i + 1 : Nat) : Int) by omega]
    rfl
  | succ n ih =>
    intro j k xs hn hj hk hx
    obtain ⟨q, hq⟩ : ∃ q, q = k + n + 1 := ⟨_, rfl⟩
    rw [show k + (n + 1) + 1 = q + 1 by omega]
    simp only [palinoderef11_Make.l1]
    have hkv : rdOf ByteArray.empty l (i : Int) = l[i]'hi := by
      unfold rdOf
      rw [Int.toNat_natCast, List.getD_eq_getElem?_getD, List.getElem?_eq_getElem hi]
      rfl
    have hp := place_big (l[i]'hi) (by omega) (8 * N) hm (by omega) j (by omega) q (by omega)
    have w8 : wrap64 (8 * (N : Int)) = ((8 * N : Nat) : Int) := by rw [wrap_of _ (by omega) (by omega)]; omega
    rw [if_pos (by omega), if_pos (by omega), if_pos (by omega), hkv, w8, hp, Option.bind_some]
    have hlt := (plc (l[i]'hi) (8 * N) hm j).isLt
    have hd : (List.range K).drop j = j :: (List.range K).drop (j + 1) := by
      rw [List.drop_eq_getElem_cons (by simp; omega)]
      simp
    rw [hd, List.map_cons, setFold_cons]
    obtain ⟨p, hpp⟩ : ∃ p, (plc (l[i]'hi) (8 * N) hm j).val = p := ⟨_, rfl⟩
    rw [hpp] at hlt ⊢
    have ed : Int.tdiv (p : Int) 8 = ((p / 8 : Nat) : Int) := by rw [Int.tdiv_eq_ediv_of_nonneg (by omega)]; omega
    have em : Int.tmod (p : Int) 8 = ((p % 8 : Nat) : Int) := by rw [Int.tmod_eq_emod_of_nonneg (by omega)]; omega
    have e8 : (xs ++ [(0 : Int)]).length = N + 1 := by rw [List.length_append, hx]; rfl
    have hset : (xs ++ [(0 : Int)]).set (p / 8) (bits .or .u8 (rd (xs ++ [(0 : Int)]) ((p / 8 : Nat) : Int)) (shl .u8 1 ((p % 8 : Nat) : Int))) = setBit xs p ++ [0] := by
      rw [List.set_append_left _ _ (by omega), shl_one _ (Nat.mod_lt _ (by decide))]
      unfold setBit rd
      rw [Int.toNat_natCast, List.getD_eq_getElem?_getD, List.getElem?_append_left (by omega), ← List.getD_eq_getElem?_getD]
    rw [ed, em, wrap_of _ (by omega) (by omega), if_pos (by omega), e8, if_pos (by omega), if_pos (by omega), Int.toNat_natCast, hset, wrap_of _ (by omega) (by omega), show (j : Int) + 1 = ((j + 1 : Nat) : Int) by omega]
    subst hq
    exact ih (j + 1) k (setBit xs p) (by omega) (by omega) hk (by rw [setBit_length, hx])
theorem refMake_l0 (l : List ByteArray) (N K B : Nat) (hm : 0 < 8 * N) (hN : N ≤ 6000) (hK : K ≤ 20) (hB : B ≤ 4611686018427387904) (hl : l.length ≤ 2000) (hkey : ∀ x ∈ l, x.size ≤ B) (c : Nat) :
    ∀ (n i : Nat) (xs : List Int), l.length - i = n → i ≤ l.length → xs.length = N → palinoderef11_Make.l0 (B + 1 + n * (K + 2) + c + 1) l (N : Int) (K : Int) (xs ++ [0]) (i : Int) = some (strOfNums ((l.drop i).foldl (setKey (8 * N) hm K) xs ++ [(K : Int)]), 0) := by
  intro n
  induction n with
  | zero =>
    intro i xs hn hi hx
    obtain rfl : i = l.length := by omega
    simp only [palinoderef11_Make.l0]
    have e8 : (xs ++ [(0 : Int)]).length = N + 1 := by rw [List.length_append, hx]; rfl
    rw [if_neg (by omega), if_pos (by omega), e8, if_pos (by omega), Int.toNat_natCast, List.set_append_right _ _ (by omega), hx, Nat.sub_self, List.drop_length, List.foldl_nil]
    show some (strOfNums (xs ++ [(K : Int) % 256]), (0 : Int)) = _
    rw [show (K : Int) % 256 = (K : Int) by omega]
  | succ n ih =>
    intro i xs hn hi hx
    have hi' : i < l.length := by omega
    obtain ⟨q, hq⟩ : ∃ q, q = (B + 1 + n * (K + 2) + c + 1) + K + 1 := ⟨_, rfl⟩
    rw [show B + 1 + (n + 1) * (K + 2) + c + 1 = q + 1 by rw [Nat.add_mul]; omega]
    simp only [palinoderef11_Make.l0]
    subst hq
    have h1 := refMake_l1 l N K B hm hN hK hB i hi' hl (hkey _ (List.getElem_mem hi')) K 0 (B + 1 + n * (K + 2) + c + 1) xs (by omega) (by omega) (by omega) hx
    rw [show ((0 : Nat) : Int) = 0 from rfl] at h1
    rw [if_pos (by omega), h1, ih (i + 1) _ (by omega) (by omega) (by rw [setFold_length, hx]), List.drop_zero, List.drop_eq_getElem_cons hi', List.foldl_cons]
    rfl
theorem num1 (L E : Nat) (h : L * E ≤ 40000) : wrap64 ((L : Int) * (E : Int)) = ((L * E : Nat) : Int) := by
  rw [← Int.natCast_mul]
  generalize L * E = P at h
  exact wrap_of _ (by omega) (by omega)
theorem num2 (P : Nat) : mx 64 (P : Int) = ((max P 64 : Nat) : Int) := by unfold mx; split <;> omega
theorem num3 (Q : Nat) (h : Q ≤ 40000) : wrap64 (Int.tdiv (wrap64 ((Q : Int) + 7)) 8) = (((Q + 7) / 8 : Nat) : Int) := by
  rw [wrap_of ((Q : Int) + 7) (by omega) (by omega), Int.tdiv_eq_ediv_of_nonneg (by omega), wrap_of _ (by omega) (by omega)]; omega
theorem num4 (E : Nat) (h : E ≤ 20) : mx 1 (wrap64 (Int.tdiv (wrap64 ((E : Int) * 69)) 100)) = (nHash E : Int) := by
  rw [wrap_of ((E : Int) * 69) (by omega) (by omega), Int.tdiv_eq_ediv_of_nonneg (by omega), wrap_of _ (by omega) (by omega)]
  unfold mx nHash; split <;> omega
theorem num5 (N : Nat) (h : N ≤ 6000) : wrap64 ((N : Int) + 1) = ((N + 1 : Nat) : Int) := by rw [wrap_of _ (by omega) (by omega)]; rfl
theorem refMake_ev (l : List ByteArray) (each : Int) (hw : -9223372036854775808 ≤ each ∧ each ≤ 9223372036854775807) (B : Nat) (hB : B ≤ 4611686018427387904) (hkey : ∀ x ∈ l, x.size ≤ B) : ∃ K, ∀ k, K ≤ k → palinoderef11_Make.f k l each = some (codeR (makeR l each)) := by
  refine ⟨B + 1 + l.length * 22 + 3, fun k hk => ?_⟩
  obtain ⟨k, rfl⟩ : ∃ j, k = j + 1 := ⟨k - 1, by omega⟩
  unfold palinoderef11_Make.f makeR
  by_cases c1 : each < 1
  · rw [if_pos c1, if_pos (.inl c1)]; simp only [palinoderef11_Make.j0]; rw [if_pos trivial]; rfl
  · rw [if_neg c1]
    simp only [palinoderef11_Make.j0]
    by_cases c2 : each > 20
    · rw [if_pos (by simpa using c2), if_pos (.inr c2)]; rfl
    · rw [if_neg (by simpa using c2), if_neg (show ¬ (each < 1 ∨ 20 < each) by omega)]
      by_cases c3 : 2000 < l.length
      · rw [if_pos (show (l.length : Int) > 2000 by omega), if_pos c3]; rfl
      · rw [if_neg (show ¬ (l.length : Int) > 2000 by omega), if_neg c3]
        obtain ⟨E, rfl⟩ := Int.eq_ofNat_of_zero_le (show 0 ≤ each by omega)
        obtain ⟨P, hP⟩ : ∃ P, P = l.length * E := ⟨_, rfl⟩
        have hP2 : P ≤ 40000 := by rw [hP]; exact Nat.le_trans (Nat.mul_le_mul (show l.length ≤ 2000 by omega) (show E ≤ 20 by omega)) (by decide)
        obtain ⟨N, hN⟩ : ∃ N, N = nBytes l.length E := ⟨_, rfl⟩
        have hN2 : N = (max P 64 + 7) / 8 := by rw [hN, hP]; rfl
        have hN3 : N ≤ 6000 := by omega
        have a3 : N + 1 ≤ 281474976710656 := by omega
        have hK2 : nHash E ≤ 20 := by unfold nHash; omega
        have hE : E ≤ 20 := by omega
        have hm := nBytes_pos l.length E
        have hLE : l.length * E ≤ 40000 := by omega
        have hmx : max P 64 ≤ 40000 := by omega
        rw [num1 _ _ hLE, ← hP, num2 P, num3 _ hmx, num4 E hE, ← hN2, num5 N hN3, if_pos (Int.natCast_nonneg _), Int.toNat_natCast, if_pos a3, List.replicate_succ']
        have hz : (List.replicate N (0 : Int)).length = N := List.length_replicate
        have hb : l.length * (nHash E + 2) ≤ l.length * 22 := Nat.mul_le_mul_left _ (by omega)
        rw [← hN] at hm
        have h := refMake_l0 l N (nHash E) B hm (by omega) hK2 hB (by omega) hkey (k - (B + 1 + l.length * (nHash E + 2)) - 1) l.length 0 (List.replicate N 0) (by omega) (by omega) hz
        rw [show B + 1 + l.length * (nHash E + 2) + (k - (B + 1 + l.length * (nHash E + 2)) - 1) + 1 = k by omega, show ((0 : Nat) : Int) = 0 from rfl, List.drop_zero] at h
        rw [h]
        subst hN
        simp only [Int.toNat_natCast]
        rfl
end Go.Proofs.Ytbdkfmhkgeoeaaa.Print
