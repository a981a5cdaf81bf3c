/- Entries that are written are read as they were; what was read is written as it stood, and is sorted: for all arguments that the row lets in. -/
import Derived.Test.YtgfgdpmpbpofbaaBlockEx
import Derived.Test.YtgfgdpmpbpofbaaBlockDec
import Derived.Test.YtgfgdpmpbpofbaaPrint11
namespace Go.Proofs.Ytgfgdpmpbpofbaa.Print
open Go.RowKit Go.Proofs.Ytgfgdpmpbpofbaa.Print Go.Proofs.YtgfgdpmpbpofbaaX Go.Proofs.YtgfgdpmpbpofbaaW.PrintWords Go.Proofs.YtgfgdpmpbpofbaaW.PrintLast
set_option linter.unusedVariables false
set_option linter.unusedSimpArgs false
theorem entries_l0 (l : List Ent) (hl : l.length ≤ 4611686018427387904) : ∀ (n i k : Nat), l.length - i = n → i ≤ l.length → n < k → palinodelaw12_entries.l0 k l l (i : Int) = some true := by
  intro n
  induction n with
  | zero =>
    intro i k hn hi hk
    obtain ⟨k, rfl⟩ : ∃ j, k = j + 1 := ⟨k - 1, by omega⟩
    simp only [palinodelaw12_entries.l0]
    rw [if_neg (by omega)]
  | succ n ih =>
    intro i k hn hi hk
    obtain ⟨k, rfl⟩ : ∃ j, k = j + 1 := ⟨k - 1, by omega⟩
    simp only [palinodelaw12_entries.l0]
    rw [if_pos (by omega), if_pos (by omega), if_pos (by omega), if_neg (by simp), wrap_of _ (by omega) (by omega), show (i : Int) + 1 = ((i + 1 : Nat) : Int) by omega, ih (i + 1) k (by omega) (by omega) (by omega)]
theorem entries_same (l : List Ent) (hl : l.length ≤ 4611686018427387904) (k : Nat) (hk : l.length < k) : palinodelaw12_entries.f k l l = some true := by
  unfold palinodelaw12_entries.f
  rw [if_pos rfl]
  exact entries_l0 l hl l.length 0 k (by omega) (by omega) hk
end Go.Proofs.Ytgfgdpmpbpofbaa.Print
namespace Go.Proofs.Ytgfgdpmpbpofbaa.Pure
open Go.RowKit Go.Proofs.Ytgfgdpmpbpofbaa.Print Go.Proofs.YtgfgdpmpbpofbaaX Go.Proofs.YtgfgdpmpbpofbaaW.PrintWords Go.Proofs.YtgfgdpmpbpofbaaW.PrintLast

theorem back_tail (b : ByteArray) (k : Nat) (hk : 300 ≤ k) :
    ((block_Decode.f b).bind fun bt278 => (if bt278.2.isNone = true then ((block_Encode.f bt278.1).bind fun bt283 => (if true = true then (if bt283.1.toList = b.toList then (if bt283.2.isNone = true then ((block_Sorted.f k bt278.1).bind fun t286 => (some t286)) else (some false)) else (some false)) else (some false))) else (if true = true then (some ((bt278.1.length : Int) == 0)) else (some false)))) = some true := by
  rw [decode_eq, Option.bind_some]
  by_cases c : (decodeR b).2.isNone = true
  · obtain ⟨h1, h2, h3, h4⟩ := decode_ok c
    rw [if_pos c, encode_eq, Option.bind_some, if_pos rfl]
    have he : encR (decodeR b).1 = (b, none) := by unfold encR; rw [if_neg (by omega), if_pos h1, h3]
    rw [he, if_pos rfl, if_pos none_yes, sorted_big _ (by omega) k (by omega), h1]
    rfl
  · rw [if_neg c, if_pos rfl, decode_bad c]
    rfl
theorem BlockBack : palinodelaw12_BlockBack.Pure := by
  refine ⟨examples_true, ?_⟩
  intro l b v1 v2
  refine ⟨l.length + 300, ?_⟩
  unfold palinodelaw12_BlockBack.f
  rw [examples_big _ (by omega), Option.bind_some, encode_eq, Option.bind_some]
  by_cases c : (encR l).2.isNone = true
  · obtain ⟨h1, h2, h3⟩ := encR_ok l c
    rw [if_pos c, h3, decode_eq, Option.bind_some]
    simp only
    rw [decode_back l h1 h2]
    simp only
    rw [entries_same l (by omega) _ (by omega), Option.bind_some, if_pos rfl, if_pos none_yes]
    exact back_tail b _ (by omega)
  · rw [if_neg c]
    exact back_tail b _ (by omega)
end Go.Proofs.Ytgfgdpmpbpofbaa.Pure
