/- Any entries are written, and any bytes are read, as the document says: for all arguments that the row lets in. -/
import Derived.Test.YtgfgdpmpbpofbaaBlockAll
import Derived.Test.YtgfgdpmpbpofbaaPrint11
import Derived.Test.YtgfgdpmpbpofbaaPrint20
namespace Go.Proofs.Ytgfgdpmpbpofbaa.Pure
open Go.RowKit Go.Proofs.Ytgfgdpmpbpofbaa.Print Go.Proofs.YtgfgdpmpbpofbaaX Go.Proofs.YtgfgdpmpbpofbaaW.PrintWords Go.Proofs.YtgfgdpmpbpofbaaW.PrintLast
set_option linter.unusedVariables false
set_option linter.unusedSimpArgs false
theorem entriesB_l0 (l : List Ent) (hl : l.length ≤ 4611686018427387904) : ∀ (n i k : Nat), l.length - i = n → i ≤ l.length → n < k → palinodelaw12_entries.l0 k l l (i : Int) = some true := by
  intro n
  induction n with
  | zero =>
    intro i k hn hi hk
    obtain ⟨k, rfl⟩ : ∃ j, k = j + 1 := ⟨k - 1, by omega⟩
    simp only [palinodelaw12_entries.l0]
    rw [if_neg (by omega)]
  | succ n ih =>
    intro i k hn hi hk
    obtain ⟨k, rfl⟩ : ∃ j, k = j + 1 := ⟨k - 1, by omega⟩
    simp only [palinodelaw12_entries.l0]
    rw [if_pos (by omega), if_pos (by omega), if_pos (by omega), if_neg (by simp), wrap_of _ (by omega) (by omega), show (i : Int) + 1 = ((i + 1 : Nat) : Int) by omega, ih (i + 1) k (by omega) (by omega) (by omega)]
theorem entriesB (l : List Ent) (hl : l.length ≤ 4611686018427387904) (k : Nat) (hk : l.length < k) : palinodelaw12_entries.f k l l = some true := by
  unfold palinodelaw12_entries.f
  rw [if_pos rfl]
  exact entriesB_l0 l hl l.length 0 k (by omega) (by omega) hk
theorem bytes_l1 (x0 : List Ent) (x1 : ByteArray) (x5 : Bool) (x6 : ByteArray) (x7 : Option Int) (x8 : ByteArray) (x9 : Int) (x10 : List Ent) (x11 : Bool) (x12 : Int) : ∀ (n i k : Nat) (m : List Ent), m.length - i = n → i ≤ m.length → m.length ≤ 4611686018427387904 →
    palinodelaw12_BlockBytes.l1 (n + 1 + k) x0 x1 x5 x6 x7 x8 x9 x10 x11 x12 m (i : Int) = palinodelaw12_BlockBytes.l0 k x0 x1 x5 x6 x7 x8 x9 x10 x11 (wrap64 (x12 + 1)) := by
  intro n
  induction n with
  | zero =>
    intro i k m hn hi hm
    rw [show 0 + 1 + k = k + 1 by omega]
    simp only [palinodelaw12_BlockBytes.l1]
    rw [if_neg (by omega)]
  | succ n ih =>
    intro i k m hn hi hm
    rw [show n + 1 + 1 + k = (n + 1 + k) + 1 by omega]
    simp only [palinodelaw12_BlockBytes.l1]
    rw [if_pos (by omega), if_pos (by omega), wrap_of ((i : Int) + 1) (by omega) (by omega), show (i : Int) + 1 = ((i + 1 : Nat) : Int) by omega, ih (i + 1) k _ (by rw [List.length_set]; omega) (by rw [List.length_set]; omega) (by rw [List.length_set]; omega)]
theorem dec_len (b : ByteArray) : (decodeR b).1.length ≤ 200 := by
  by_cases c : (decodeR b).2.isNone = true
  · exact (decode_ok c).2.1
  · rw [decode_bad c]; simp
theorem bytes_j1 (x0 : List Ent) (x1 : ByteArray) (x5 : Bool) (x6 : ByteArray) (x7 : Option Int) (x8 : ByteArray) (x9 : Int) (x10 : List Ent) (x11 : Bool) (t : Int) (h0 : 0 ≤ t) (h2 : t < 2) (m : List Ent) (hm : m.length ≤ 200) (k : Nat) :
    palinodelaw12_BlockBytes.j1 (m.length + 2 + k) x0 x1 x5 x6 x7 x8 x9 x10 x11 t m false = palinodelaw12_BlockBytes.l0 k x0 x1 x5 x6 x7 x8 x9 x10 x11 (t + 1) := by
  rw [show m.length + 2 + k = (m.length + 1 + k) + 1 by omega]
  simp only [palinodelaw12_BlockBytes.j1]
  rw [if_neg (by simp)]
  have h := bytes_l1 x0 x1 x5 x6 x7 x8 x9 x10 x11 t m.length 0 k m (by omega) (by omega) (by omega)
  rw [show ((0 : Nat) : Int) = 0 from rfl] at h
  rw [h, wrap_of (t + 1) (by omega) (by omega)]
theorem bytes_turn (x0 : List Ent) (b : ByteArray) (x5 : Bool) (x6 : ByteArray) (x7 : Option Int) (x8 : ByteArray) (x9 : Int) (t : Int) (h0 : 0 ≤ t) (h2 : t < 2) (k : Nat) (hk : 300 ≤ k) :
    palinodelaw12_BlockBytes.l0 ((decodeR b).1.length + 3 + k) x0 b x5 x6 x7 x8 x9 (decodeR b).1 (decodeR b).2.isNone t = palinodelaw12_BlockBytes.l0 k x0 b x5 x6 x7 x8 x9 (decodeR b).1 (decodeR b).2.isNone (t + 1) := by
  have hl := dec_len b
  have hj := bytes_j1 x0 b x5 x6 x7 x8 x9 (decodeR b).1 (decodeR b).2.isNone t h0 h2 (decodeR b).1 hl k
  rw [show (decodeR b).1.length + 3 + k = ((decodeR b).1.length + 2 + k) + 1 by omega]
  simp only [palinodelaw12_BlockBytes.l0]
  rw [if_pos h2, decode_eq, Option.bind_some, entriesB _ (by omega) _ (by omega), Option.bind_some, if_pos rfl, ← hj]
  by_cases c : (decodeR b).2.isNone = true
  · rw [c, if_pos rfl, if_neg (by simp), if_pos rfl]
  · rw [if_neg c, Bool.eq_false_iff.2 c, if_neg (by simp), if_neg (by simp), decode_bad c]
    rfl
theorem code_is (l : List Ent) : palinodelaw12_is.f (encR l).2 (codeR (encR l)).2 = some true := by
  unfold codeR encR
  split
  · rfl
  · split <;> rfl
theorem BlockBytes : palinodelaw12_BlockBytes.Pure := by
  refine ⟨examples_true, ?_⟩
  intro l b v1 v2
  refine ⟨(decodeR b).1.length + 3 + ((decodeR b).1.length + 3 + (l.length + 900)), ?_⟩
  unfold palinodelaw12_BlockBytes.f
  rw [examples_big _ (by omega), Option.bind_some, encode_eq, Option.bind_some, refEncode_eq, Option.bind_some, refDecode_big b v2 _ (by omega), Option.bind_some]
  simp only
  rw [bytes_turn l b true (encR l).1 (encR l).2 (codeR (encR l)).1 (codeR (encR l)).2 0 (by omega) (by omega) _ (by omega), bytes_turn l b true (encR l).1 (encR l).2 (codeR (encR l)).1 (codeR (encR l)).2 (0 + 1) (by omega) (by omega) _ (by omega), show l.length + 900 = (l.length + 899) + 1 by omega]
  simp only [palinodelaw12_BlockBytes.l0]
  rw [if_neg (by omega), if_pos trivial, if_pos (show (encR l).1.toList = (codeR (encR l)).1.toList from rfl), code_is, Option.bind_some, if_pos rfl, sorted_big l (by omega) _ (by omega), Option.bind_some, refSorted_big l (by omega) _ (by omega), Option.bind_some]
  simp
end Go.Proofs.Ytgfgdpmpbpofbaa.Pure
