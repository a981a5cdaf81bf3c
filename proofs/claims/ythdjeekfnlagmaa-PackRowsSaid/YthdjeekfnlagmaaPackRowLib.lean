import Derived.Test.YthdjeekfnlagmaaPackText
import Derived.Test.YthdjeekfnlagmaaPackEx
import Derived.Test.YthdjeekfnlagmaaHPackRow
import Derived.Test.YthdjeekfnlagmaaPrint9
import Derived.Test.YthdjeekfnlagmaaPrint10
namespace Go.Proofs.Ythdjeekfnlagmaa.Print
open Go.RowKit Go.Proofs.YthdjeekfnlagmaaX Go.Proofs.YthdjeekfnlagmaaW.PrintWords Go.Proofs.YthdjeekfnlagmaaW.PrintLast
set_option linter.unusedVariables false
set_option linter.unusedSimpArgs false

/-! ## Rows of texts -/
def textL (s : ByteArray) : ByteArray := strOfNums (numL s.size) ++ s
def rowR : List ByteArray → ByteArray → ByteArray × Option Int
  | [], b => (b, none)
  | s :: l, b => if s.size ≤ 1048576 ∧ b.size + (textL s).size ≤ 1048576 then rowR l (b ++ textL s) else (⟨#[]⟩, some 5)
def rowS (l : List ByteArray) : ByteArray × Option Int := if l.length ≤ 1000 then rowR l (strOfNums (numL l.length)) else (⟨#[]⟩, some 5)
theorem app_size (a b : ByteArray) : (a ++ b).size = a.size + b.size := by rw [bytesOf_size, bytesOf_append, List.length_append, bytesOf_length, bytesOf_length]
theorem strOf_bytes (s : ByteArray) : strOfNums (bytesOf s) = s := bytesOf_inj (bytesOf_strOfNums (bytesOf_range s))
theorem textL_sz (s : ByteArray) (h : s.size ≤ 1048576) : 1 ≤ (textL s).size ∧ (textL s).size ≤ s.size + 4 := by
  have := bsize_text h
  unfold textL
  rw [textL_size]
  omega
theorem rowAcc_eq : ∀ (l : List ByteArray) (b : ByteArray), rowAcc l (bytesOf b) = some (rowR l b) := by
  intro l
  induction l with
  | nil => intro b; simp only [rowAcc, rowR, strOf_bytes]
  | cons s l ih =>
    intro b
    simp only [rowAcc, rowR]
    rw [text_big s 100 (by decide), textR]
    by_cases h : 1048576 < s.size
    · rw [if_pos h]
      simp only [Option.bind_some]
      rw [if_pos (by decide), if_neg (fun h => by cases h.1), if_neg (by omega)]
    · rw [if_neg h]
      simp only [Option.bind_some]
      have hz := textL_sz s (by omega)
      have e : strOfNums (numL s.size) ++ s = textL s := rfl
      rw [e, if_pos (by omega), bytesOf_length]
      by_cases h2 : b.size + (textL s).size ≤ 1048576
      · rw [if_pos ⟨rfl, h2⟩, if_pos ⟨by omega, h2⟩, ← bytesOf_append, ih]
      · rw [if_neg (fun h => h2 h.2), if_neg (fun h => h2 h.2)]
theorem row_eq (l : List ByteArray) : pack_Row.f l = some (rowS l) := by
  unfold pack_Row.f rowS
  by_cases h : l.length ≤ 1000
  · rw [if_pos h, if_pos h, num_big _ 100 (by decide), numR, if_neg (by omega), Int.toNat_natCast]
    simp only [Option.bind_some]
    have h7 := bsize_7 (n := l.length) (by omega)
    rw [if_pos (by rw [size_strOfNums, numL_length]; omega), rowAcc_eq]
  · rw [if_neg h, if_neg h]

/-! ## Bytes read as a row -/
def loopR : Nat → ByteArray → List ByteArray → List ByteArray × Option Int
  | 0, rest, acc => if rest.size = 0 then (acc, none) else ([], some 3)
  | m + 1, rest, acc => match (readText rest).2.2 with
    | some e => ([], some e)
    | none => loopR m (readText rest).2.1 (acc ++ [(readText rest).1])
def readRowR (b : ByteArray) : List ByteArray × Option Int :=
  if 1048576 < b.size then ([], some 5) else match (readNum b).2.2 with
    | some e => ([], some e)
    | none => if 1000 < (readNum b).1 then ([], some 5) else loopR (readNum b).1.toNat (readNum b).2.1 []
theorem readRow_l0 (n : Nat) (hn : n ≤ 1000) : ∀ (d i k : Nat) (rest : ByteArray) (acc : List ByteArray), i + d = n → d < k → acc.length = i →
    pack_ReadRow.l0 k rest acc (n : Int) (i : Int) = some (loopR d rest acc) := by
  intro d
  induction d with
  | zero =>
    intro i k rest acc hi hk ha
    obtain ⟨k, rfl⟩ : ∃ m, k = m + 1 := ⟨k - 1, by omega⟩
    simp only [pack_ReadRow.l0, loopR]
    rw [if_neg (by omega)]
    by_cases h : rest.size = 0
    · rw [if_pos (toList_nil_iff.2 h), if_pos h]
    · rw [if_neg (fun h2 => h (toList_nil_iff.1 h2)), if_neg h]
  | succ d ih =>
    intro i k rest acc hi hk ha
    obtain ⟨k, rfl⟩ : ∃ m, k = m + 1 := ⟨k - 1, by omega⟩
    simp only [pack_ReadRow.l0, loopR]
    rw [if_pos (by omega), readText_eq]
    simp only [Option.bind_some]
    cases he : (readText rest).2.2 with
    | some e => rfl
    | none =>
      rw [if_pos (by rfl), if_pos (by omega), wrap_of _ (by omega) (by omega), show (i : Int) + 1 = ((i + 1 : Nat) : Int) by omega]
      exact ih (i + 1) k _ _ (by omega) (by omega) (by rw [List.length_append, List.length_cons, List.length_nil, ha])
theorem readNum_nn (b : ByteArray) : 0 ≤ (readNum b).1 := by
  rcases readNum_cases b with ⟨e, h, _⟩ | ⟨n, rest, h1, h, _⟩
  · rw [h]; exact Int.le_refl 0
  · rw [h]; simp
theorem readRow_eq (b : ByteArray) (k : Nat) (hk : 1001 < k) : pack_ReadRow.f k b = some (readRowR b) := by
  unfold pack_ReadRow.f readRowR
  by_cases h : 1048576 < b.size
  · rw [if_pos (by omega), if_pos h]
  · rw [if_neg (by omega), if_neg h]
    have e : pack_ReadNum.f b = some (readNum b) := rfl
    have hn := readNum_nn b
    rw [e]
    simp only [Option.bind_some]
    cases he : (readNum b).2.2 with
    | some e => rfl
    | none =>
      rw [if_pos (by rfl)]
      by_cases h2 : 1000 < (readNum b).1
      · rw [if_pos h2]; simp only; rw [if_pos h2]
      · rw [if_neg h2]
        simp only
        rw [if_neg h2]
        have := readRow_l0 (readNum b).1.toNat (by omega) (readNum b).1.toNat 0 k (readNum b).2.1 [] (by omega) (by omega) rfl
        rw [Int.toNat_of_nonneg hn, show ((0 : Nat) : Int) = 0 from rfl] at this
        exact this
theorem loopR_err : ∀ (m : Nat) (rest : ByteArray) (acc : List ByteArray), (loopR m rest acc).2 ≠ some 0 ∧ ((loopR m rest acc).1.length ≤ acc.length + m) := by
  intro m
  induction m with
  | zero =>
    intro rest acc
    simp only [loopR]
    by_cases h : rest.size = 0
    · rw [if_pos h]; exact ⟨by simp, by simp⟩
    · rw [if_neg h]; exact ⟨by simp, by simp⟩
  | succ m ih =>
    intro rest acc
    simp only [loopR]
    have he0 : (readText rest).2.2 ≠ some 0 := by
      unfold readText
      rcases readNum_cases rest with ⟨e, h, hee⟩ | ⟨n, r, h1, h, _⟩
      · rw [h]; simp only; intro hh; have := Option.some.inj hh; omega
      · rw [h]
        simp only
        by_cases c1 : 1048576 < (n : Int)
        · rw [if_pos c1]; simp
        · rw [if_neg c1]
          by_cases c2 : (r.size : Int) < (n : Int)
          · rw [if_pos c2]; simp
          · rw [if_neg c2]; simp
    cases he : (readText rest).2.2 with
    | some e => rw [he] at he0; exact ⟨he0, by simp⟩
    | none =>
      have := ih (readText rest).2.1 (acc ++ [(readText rest).1])
      rw [List.length_append, List.length_cons, List.length_nil] at this
      refine ⟨this.1, ?_⟩
      show (loopR m (readText rest).2.1 (acc ++ [(readText rest).1])).1.length ≤ _
      omega
theorem readRowR_err (b : ByteArray) : (readRowR b).2 ≠ some 0 ∧ (readRowR b).1.length ≤ 1000 := by
  unfold readRowR
  by_cases h : 1048576 < b.size
  · rw [if_pos h]; exact ⟨by simp, by simp⟩
  · rw [if_neg h]
    cases he : (readNum b).2.2 with
    | some e =>
      rcases readNum_cases b with ⟨e', h', hee⟩ | ⟨n, rest, h1, h', _⟩
      · rw [h'] at he
        have := Option.some.inj he
        exact ⟨fun hh => by have := Option.some.inj hh; omega, by simp⟩
      · rw [h'] at he; cases he
    | none =>
      simp only
      by_cases h2 : 1000 < (readNum b).1
      · rw [if_pos h2]; exact ⟨by simp, by simp⟩
      · rw [if_neg h2]
        have := loopR_err (readNum b).1.toNat (readNum b).2.1 []
        exact ⟨this.1, Nat.le_trans this.2 (by simp; omega)⟩
theorem texts_l0 (l : List ByteArray) (hl : l.length ≤ 1000) : ∀ (d i k : Nat), i + d = l.length → d < k → palinodelaw01_texts.l0 k l l (i : Int) = some true := by
  intro d
  induction d with
  | zero =>
    intro i k hi hk
    obtain ⟨k, rfl⟩ : ∃ m, k = m + 1 := ⟨k - 1, by omega⟩
    simp only [palinodelaw01_texts.l0]
    rw [if_neg (by omega)]
  | succ d ih =>
    intro i k hi hk
    obtain ⟨k, rfl⟩ : ∃ m, k = m + 1 := ⟨k - 1, by omega⟩
    simp only [palinodelaw01_texts.l0]
    rw [if_pos (by omega), if_pos (by omega), if_pos (by omega), if_pos trivial, wrap_of _ (by omega) (by omega)]
    exact ih (i + 1) k (by omega) (by omega)
theorem texts_same (l : List ByteArray) (hl : l.length ≤ 1000) (k : Nat) (hk : l.length < k) : palinodelaw01_texts.f k l l = some true := by
  unfold palinodelaw01_texts.f
  rw [if_pos rfl]
  exact texts_l0 l hl l.length 0 k (by omega) (by omega)
end Go.Proofs.Ythdjeekfnlagmaa.Print
