import Derived.Test.YtgfgdpmpbpofbaaEntLib
import Derived.Test.YtgfgdpmpbpofbaaPackRead
import Derived.Test.YtgfgdpmpbpofbaaHBlockEncode
import Derived.Test.YtgfgdpmpbpofbaaPrint6
namespace Go.Proofs.Ytgfgdpmpbpofbaa.Print
open Go.RowKit Go.Proofs.YtgfgdpmpbpofbaaX Go.Proofs.YtgfgdpmpbpofbaaW.PrintWords Go.Proofs.YtgfgdpmpbpofbaaW.PrintLast
set_option linter.unusedVariables false
set_option linter.unusedSimpArgs false

/-! ## How many bytes two texts begin with alike -/
def pre : List Int → List Int → Nat
  | a :: x, b :: y => if a = b then pre x y + 1 else 0
  | _, _ => 0
def shN (a b : ByteArray) : Nat := pre (bytesOf a) (bytesOf b)
theorem pre_le : ∀ x y : List Int, pre x y ≤ x.length ∧ pre x y ≤ y.length
  | [], y => by simp [pre]
  | a :: x, [] => by simp [pre]
  | a :: x, b :: y => by
    have := pre_le x y
    simp only [pre, List.length_cons]
    split <;> omega
theorem shN_le (a b : ByteArray) : shN a b ≤ a.size ∧ shN a b ≤ b.size := by
  have := pre_le (bytesOf a) (bytesOf b)
  rw [bytesOf_length, bytesOf_length] at this
  exact this
theorem bt_get (s : ByteArray) (i : Nat) (h : i < (bytesOf s).length) : bt s (i : Int) = (bytesOf s)[i] := by
  rw [bt_eq, Int.toNat_natCast, List.getD_eq_getElem?_getD, List.getElem?_eq_getElem h]; rfl
theorem shared_l0 (a b : ByteArray) (ha : a.size ≤ 4611686018427387904) (m : Nat) (hm : m = min a.size b.size) : ∀ (n i k : Nat), m - i = n → i ≤ m → n < k →
    block_shared.l0 k a b (m : Int) (i : Int) = some ((i + pre ((bytesOf a).drop i) ((bytesOf b).drop i) : Nat) : Int) := by
  intro n
  induction n with
  | zero =>
    intro i k hn hi hk
    obtain ⟨k, rfl⟩ : ∃ j, k = j + 1 := ⟨k - 1, by omega⟩
    simp only [block_shared.l0]
    rw [if_neg (by omega)]
    have hp : pre ((bytesOf a).drop i) ((bytesOf b).drop i) = 0 := by
      have := pre_le ((bytesOf a).drop i) ((bytesOf b).drop i)
      rw [List.length_drop, List.length_drop, bytesOf_length, bytesOf_length] at this
      omega
    rw [hp]
    unfold mn
    congr 1
    split <;> omega
  | succ n ih =>
    intro i k hn hi hk
    obtain ⟨k, rfl⟩ : ∃ j, k = j + 1 := ⟨k - 1, by omega⟩
    simp only [block_shared.l0]
    have h1 : i < (bytesOf a).length := by rw [bytesOf_length]; omega
    have h2 : i < (bytesOf b).length := by rw [bytesOf_length]; omega
    rw [if_pos (by omega), if_pos (by omega), if_pos (by omega), if_pos (by omega), List.drop_eq_getElem_cons h1, List.drop_eq_getElem_cons h2, bt_get a i h1, bt_get b i h2]
    simp only [pre]
    by_cases c : (bytesOf a)[i] = (bytesOf b)[i]
    · rw [if_pos c, if_pos c, wrap_of _ (by omega) (by omega), show (i : Int) + 1 = ((i + 1 : Nat) : Int) by omega, ih (i + 1) k (by omega) (by omega) (by omega)]
      congr 2
      omega
    · rw [if_neg c, if_neg c]; rfl
theorem shared_eq (a b : ByteArray) (k : Nat) (hk : a.size < k) (ha : a.size ≤ 4611686018427387904) : block_shared.f k a b = some (shN a b : Int) := by
  unfold block_shared.f
  have hm : mn (a.size : Int) (b.size : Int) = ((min a.size b.size : Nat) : Int) := by unfold mn; split <;> omega
  have h := shared_l0 a b ha (min a.size b.size) rfl (min a.size b.size) 0 k (by omega) (by omega) (by omega)
  rw [hm]
  rw [show ((0 : Nat) : Int) = 0 from rfl, List.drop_zero, List.drop_zero, Nat.zero_add] at h
  exact h

/-! ## A block's bytes -/
def textL (s : ByteArray) : List Int := numL s.size ++ bytesOf s
def cutK (s : ByteArray) (n : Nat) : ByteArray := s.extract n s.size
def entL (n : Nat) (e : Ent) : List Int := numL n ++ (textL (cutK e.f0 n) ++ (numL e.f1.toNat ++ (if e.f2 = true then numL 1 else numL 0 ++ textL e.f3)))
def nAt (l : List Ent) (i : Nat) : Nat := if i % 4 = 0 then 0 else shN (gt l (i - 1)).f0 (gt l i).f0
def encFrom (l : List Ent) : Nat → Nat → List Int
  | 0, _ => []
  | m + 1, i => entL (nAt l i) (gt l i) ++ encFrom l m (i + 1)
def encL (l : List Ent) : List Int := numL l.length ++ encFrom l l.length 0
theorem numL_len {n : Nat} (h : n ≤ 9007199254740991) : (numL n).length ≤ 8 := by rw [numL_length]; have := bsize_7 h; omega
theorem cutK_size (s : ByteArray) (n : Nat) : (cutK s n).size = s.size - n := by unfold cutK; rw [ByteArray.size_extract]; omega
theorem textL_len (s : ByteArray) (h : s.size ≤ 1000) : (textL s).length ≤ s.size + 8 := by
  unfold textL
  rw [List.length_append, bytesOf_length]
  have := numL_len (n := s.size) (by omega)
  omega
theorem right_iff {e : Ent} : rightB e = true ↔ (e.f2 = true → e.f3.toList = []) ∧ 1 ≤ e.f1 ∧ e.f1 ≤ 9007199254740991 ∧ 0 < e.f0.size ∧ e.f0.size ≤ 80 ∧ e.f3.size ≤ 300 := by
  unfold rightB
  simp only [Bool.and_eq_true, decide_eq_true_eq, Bool.not_eq_true', Bool.and_eq_false_iff, bne_eq_false_iff_eq]
  constructor
  · rintro ⟨⟨⟨⟨⟨h1, h2⟩, h3⟩, h4⟩, h5⟩, h6⟩
    exact ⟨fun h => h1.resolve_left (by rw [h]; simp), h2, h3, h4, h5, h6⟩
  · rintro ⟨h1, h2, h3, h4, h5, h6⟩
    refine ⟨⟨⟨⟨⟨?_, h2⟩, h3⟩, h4⟩, h5⟩, h6⟩
    cases h : e.f2 with
    | true => exact .inr (h1 h)
    | false => exact .inl rfl
theorem entL_len (n : Nat) (e : Ent) (h : rightB e = true) (hn : n ≤ 1000) : (entL n e).length ≤ 500 := by
  obtain ⟨h1, h2, h3, h4, h5, h6⟩ := right_iff.1 h
  unfold entL
  have a := numL_len (n := n) (by omega)
  have b := textL_len (cutK e.f0 n) (by rw [cutK_size]; omega)
  have c := numL_len (n := e.f1.toNat) (by omega)
  have d := textL_len e.f3 (by omega)
  rw [cutK_size] at b
  have f0 := numL_len (n := 0) (by omega)
  have f1 := numL_len (n := 1) (by omega)
  simp only [List.length_append]
  split
  · omega
  · rw [List.length_append]; omega
theorem nAt_le (l : List Ent) (i : Nat) (h : rightB (gt l i) = true) : nAt l i ≤ (gt l i).f0.size ∧ nAt l i ≤ 80 := by
  obtain ⟨_, _, _, _, h5, _⟩ := right_iff.1 h
  unfold nAt
  split
  · omega
  · have := shN_le (gt l (i - 1)).f0 (gt l i).f0; omega
theorem wnum_eq (xs : List Int) (n : Nat) (h : n ≤ 9007199254740991) (hx : xs.length ≤ 900000000) : wnum xs (n : Int) = some (xs ++ numL n) := by
  unfold wnum
  rw [num_big _ 1000 (by omega), Option.bind_some]
  have e : numR (n : Int) = (strOfNums (numL n), none) := by unfold numR; rw [if_neg (show ¬ ((n : Int) < 0 ∨ 9007199254740991 < (n : Int)) by omega), Int.toNat_natCast]
  rw [e]
  have := numL_len h
  simp only
  rw [if_pos (by rw [size_strOfNums]; omega), bytesOf_num h]
theorem wtext_eq (xs : List Int) (s : ByteArray) (h : s.size ≤ 1000) (hx : xs.length ≤ 900000000) : wtext xs s = some (xs ++ textL s) := by
  unfold wtext
  rw [text_big _ 1000 (by omega), Option.bind_some]
  have e : textR s = (strOfNums (numL s.size) ++ s, none) := by unfold textR; rw [if_neg (show ¬ 1048576 < s.size by omega)]
  rw [e]
  have := numL_len (n := s.size) (by omega)
  simp only
  rw [if_pos (by rw [ByteArray.size_append, size_strOfNums]; omega), bytesOf_append, bytesOf_num (by omega)]
  rfl
theorem encTail_eq (xs : List Int) (n : Nat) (e : Ent) (h : rightB e = true) (hn : n ≤ e.f0.size) (hx : xs.length ≤ 800000000) : encTail e (n : Int) xs = some (xs ++ entL n e) := by
  obtain ⟨h1, h2, h3, h4, h5, h6⟩ := right_iff.1 h
  unfold encTail
  have a := numL_len (n := n) (by omega)
  have b := textL_len (cutK e.f0 n) (by rw [cutK_size]; omega)
  have c := numL_len (n := e.f1.toNat) (by omega)
  rw [cutK_size] at b
  have f0 := numL_len (n := 0) (by omega)
  obtain ⟨q, hq⟩ := Int.eq_ofNat_of_zero_le (show 0 ≤ e.f1 by omega)
  rw [hq, Int.toNat_natCast] at c
  rw [wnum_eq _ _ (by omega) (by omega), Option.bind_some, if_pos ⟨by omega, by omega⟩, Int.toNat_natCast, show e.f0.extract n e.f0.size = cutK e.f0 n from rfl, wtext_eq _ _ (by rw [cutK_size]; omega) (by rw [List.length_append]; omega), Option.bind_some, hq, wnum_eq _ _ (by omega) (by rw [List.length_append, List.length_append]; omega), Option.bind_some]
  unfold entL
  rw [hq, Int.toNat_natCast] at *
  cases hd : e.f2 with
  | true =>
    rw [if_pos rfl, if_pos rfl, show (1 : Int) = ((1 : Nat) : Int) from rfl, wnum_eq _ _ (by omega) (by rw [List.length_append, List.length_append, List.length_append]; omega)]
    simp only [List.append_assoc]
  | false =>
    rw [if_neg (by simp), if_neg (by simp), show (0 : Int) = ((0 : Nat) : Int) from rfl, wnum_eq _ _ (by omega) (by rw [List.length_append, List.length_append, List.length_append]; omega), Option.bind_some, wtext_eq _ _ (by omega) (by rw [List.length_append, List.length_append, List.length_append, List.length_append]; omega)]
    simp only [List.append_assoc]
theorem encOne_eq (l : List Ent) (i : Nat) (xs : List Int) (h : rightB (gt l i) = true) (hp : i % 4 ≠ 0 → (gt l (i - 1)).f0.size ≤ 80) (hx : xs.length ≤ 800000000) : encOne l i xs = some (xs ++ entL (nAt l i) (gt l i)) := by
  unfold encOne
  have hn := nAt_le l i h
  unfold nAt at hn ⊢
  by_cases c : i % 4 = 0
  · rw [if_pos c, if_pos c, rd_gt, show (0 : Int) = ((0 : Nat) : Int) from rfl, encTail_eq _ _ _ h (by omega) hx]
  · rw [if_neg c] at hn
    rw [if_neg c, if_neg c, show (i : Int) - 1 = ((i - 1 : Nat) : Int) by omega, rd_gt, rd_gt, shared_eq _ _ _ (by have := hp c; omega) (by have := hp c; omega), Option.bind_some, encTail_eq _ _ _ h hn.1 hx]
theorem encLoop_eq (l : List Ent) (h : sortedB l = true) (hl : l.length ≤ 200) : ∀ (m i : Nat) (xs : List Int), i + m = l.length → xs.length ≤ 10 + 500 * i → encLoop l m i xs = some (xs ++ encFrom l m i) := by
  intro m
  induction m with
  | zero => intro i xs _ _; simp only [encLoop, encFrom, List.append_nil]
  | succ m ih =>
    intro i xs hi hx
    have hr := (sAt_iff.1 (sortedB_iff.1 h i (by omega))).1
    have hp : i % 4 ≠ 0 → (gt l (i - 1)).f0.size ≤ 80 := fun c => (right_iff.1 (sAt_iff.1 (sortedB_iff.1 h (i - 1) (by omega))).1).2.2.2.2.1
    have hlen := entL_len (nAt l i) (gt l i) hr (by have := (nAt_le l i hr).2; omega)
    simp only [encLoop, encFrom]
    rw [encOne_eq l i xs hr hp (by omega), Option.bind_some, ih (i + 1) _ (by omega) (by rw [List.length_append]; omega), List.append_assoc]
def encR (l : List Ent) : ByteArray × Option Int := if 200 < l.length then (⟨#[]⟩, some 5) else if sortedB l = true then (strOfNums (encL l), none) else (⟨#[]⟩, some 1)
theorem encode_eq (l : List Ent) : block_Encode.f l = some (encR l) := by
  unfold block_Encode.f encR
  by_cases c : 200 < l.length
  · rw [if_pos c, if_pos c]
  · rw [if_neg c, if_neg c, sorted_big l (by omega) 1000 (by omega), Option.bind_some]
    by_cases d : sortedB l = true
    · have a := numL_len (n := l.length) (by omega)
      rw [if_pos d, if_pos d, wnum_eq [] _ (by omega) (by simp), Option.bind_some, List.nil_append, encLoop_eq l d (by omega) _ 0 _ (by omega) (by omega), Option.bind_some]
      rfl
    · rw [if_neg d, if_neg d]
/-! The bytes are bytes. -/
def InB (xs : List Int) : Prop := ∀ x ∈ xs, 0 ≤ x ∧ x < 256
theorem InB.app {xs ys : List Int} (h : InB xs) (k : InB ys) : InB (xs ++ ys) := fun x hx => (List.mem_append.1 hx).elim (h x) (k x)
theorem textL_in (s : ByteArray) (h : s.size ≤ 1000) : InB (textL s) := InB.app (numL_range (by omega)) (bytesOf_range s)
theorem entL_in (n : Nat) (e : Ent) (h : rightB e = true) (hn : n ≤ 1000) : InB (entL n e) := by
  obtain ⟨h1, h2, h3, h4, h5, h6⟩ := right_iff.1 h
  unfold entL
  refine InB.app (numL_range (by omega)) (InB.app (textL_in _ (by rw [cutK_size]; omega)) (InB.app (numL_range (by omega)) ?_))
  split
  · exact numL_range (by omega)
  · exact InB.app (numL_range (by omega)) (textL_in _ (by omega))
theorem encFrom_in (l : List Ent) (h : sortedB l = true) : ∀ (m i : Nat), i + m = l.length → InB (encFrom l m i) := by
  intro m
  induction m with
  | zero => intro i _ x hx; cases hx
  | succ m ih =>
    intro i hi
    have hr := (sAt_iff.1 (sortedB_iff.1 h i (by omega))).1
    exact InB.app (entL_in _ _ hr (by have := (nAt_le l i hr).2; omega)) (ih (i + 1) (by omega))
theorem encL_in (l : List Ent) (h : sortedB l = true) (hl : l.length ≤ 200) : InB (encL l) := InB.app (numL_range (by omega)) (encFrom_in l h l.length 0 (by omega))
theorem bytes_encL (l : List Ent) (h : sortedB l = true) (hl : l.length ≤ 200) : bytesOf (strOfNums (encL l)) = encL l := bytesOf_strOfNums (encL_in l h hl)
/-! ## Few digits -/
theorem numL_zero : numL 0 = [0] := by unfold numL; rw [bsize_zero]; rfl
theorem numL_small {n : Nat} (h0 : 0 < n) (h : n < 256) : numL n = [1, (n : Int)] := by
  unfold numL
  rw [bsize_pos h0, show n / 256 = 0 by omega, bsize_zero]
  simp only [digs]
  rw [show n % 256 = n by omega]
  rfl
end Go.Proofs.Ytgfgdpmpbpofbaa.Print
