import Derived.Test.YteljlfodjbgejaaEntLib
import Derived.Test.YteljlfodjbgejaaPrint5
namespace Go.Proofs.Yteljlfodjbgejaa.Print
open Go.RowKit Go.Proofs.YteljlfodjbgejaaX Go.Proofs.YteljlfodjbgejaaW.PrintWords Go.Proofs.YteljlfodjbgejaaW.PrintLast
set_option linter.unusedVariables false
set_option linter.unusedSimpArgs false

def hit (key : ByteArray) (seq : Int) (e : Ent) : Bool := e.f0.toList == key.toList && decide (e.f1 ≤ seq)
def findR (l : List Ent) (key : ByteArray) (seq : Int) : ByteArray × Int × Bool × ByteArray × Bool :=
  match l.find? (hit key seq) with
  | some e => (e.f0, e.f1, e.f2, e.f3, true)
  | none => (⟨#[]⟩, 0, false, ⟨#[]⟩, false)
theorem findR_hit {e : Ent} {l : List Ent} {key : ByteArray} {seq : Int} (h : e.f0.toList = key.toList) (h2 : e.f1 ≤ seq) : findR (e :: l) key seq = (e.f0, e.f1, e.f2, e.f3, true) := by
  unfold findR
  rw [List.find?_cons_of_pos (by unfold hit; rw [h, decide_eq_true h2]; simp)]
theorem findR_miss {e : Ent} {l : List Ent} {key : ByteArray} {seq : Int} (h : ¬ (e.f0.toList = key.toList ∧ e.f1 ≤ seq)) : findR (e :: l) key seq = findR l key seq := by
  unfold findR
  rw [List.find?_cons_of_neg (by unfold hit; rw [Bool.and_eq_true, beq_iff_eq, decide_eq_true_eq]; exact h)]
theorem find_l0 (l : List Ent) (key : ByteArray) (seq : Int) (hl : l.length ≤ 4611686018427387904) : ∀ (n i k : Nat), l.length - i = n → i ≤ l.length → n < k → block_Find.l0 k key seq l (l.length : Int) (i : Int) = some (findR (l.drop i) key seq) := by
  intro n
  induction n with
  | zero =>
    intro i k hn hi hk
    obtain ⟨k, rfl⟩ : ∃ j, k = j + 1 := ⟨k - 1, by omega⟩
    simp only [block_Find.l0]
    rw [if_neg (by omega), List.drop_eq_nil_of_le (by omega)]
    rfl
  | succ n ih =>
    intro i k hn hi hk
    obtain ⟨k, rfl⟩ : ∃ j, k = j + 1 := ⟨k - 1, by omega⟩
    have hi' : i < l.length := by omega
    simp only [block_Find.l0]
    rw [if_pos (by omega), if_pos (by omega), if_pos (by omega), rd_gt, wrap_of _ (by omega) (by omega), show (i : Int) + 1 = ((i + 1 : Nat) : Int) by omega, ih (i + 1) k (by omega) (by omega) (by omega), List.drop_eq_getElem_cons hi', gt_get hi']
    by_cases c : l[i].f0.toList = key.toList
    · rw [if_pos c]
      by_cases d : l[i].f1 ≤ seq
      · rw [if_pos d, findR_hit c d]
      · rw [if_neg d, findR_miss (fun h => d h.2)]
    · rw [if_neg c, findR_miss (fun h => c h.1)]
theorem find_big (l : List Ent) (key : ByteArray) (seq : Int) (hl : l.length ≤ 4611686018427387904) (k : Nat) (hk : l.length < k) : block_Find.f k l key seq = some (findR l key seq) := by
  unfold block_Find.f
  have h := find_l0 l key seq hl l.length 0 k (by omega) (by omega) hk
  rw [show ((0 : Nat) : Int) = 0 from rfl, List.drop_zero] at h
  exact h
end Go.Proofs.Yteljlfodjbgejaa.Print
