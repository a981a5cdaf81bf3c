import Derived.Test.YteljlfodjbgejaaMergeVals
import Derived.Test.YteljlfodjbgejaaPrint9
namespace Go.Proofs.Yteljlfodjbgejaa.Print
open Go.RowKit Go.Proofs.YteljlfodjbgejaaX Go.Proofs.YteljlfodjbgejaaW.PrintWords Go.Proofs.YteljlfodjbgejaaW.PrintLast
set_option linter.unusedVariables false
set_option linter.unusedSimpArgs false

theorem entries_l0 (a : List Ent) (ha : a.length ≤ 4611686018427387904) : ∀ (n i k : Nat), a.length - i = n → i ≤ a.length → n < k → palinodelaw15_entries.l0 k a a (i : Int) = some true := by
  intro n
  induction n with
  | zero =>
    intro i k hn hi hk
    obtain ⟨k, rfl⟩ : ∃ j, k = j + 1 := ⟨k - 1, by omega⟩
    simp only [palinodelaw15_entries.l0]
    rw [if_neg (by omega)]
  | succ n ih =>
    intro i k hn hi hk
    obtain ⟨k, rfl⟩ : ∃ j, k = j + 1 := ⟨k - 1, by omega⟩
    simp only [palinodelaw15_entries.l0]
    rw [if_pos (by omega), if_pos (by omega), if_pos (by omega), if_neg (by simp), wrap_of _ (by omega) (by omega), show (i : Int) + 1 = ((i + 1 : Nat) : Int) by omega]
    exact ih (i + 1) k (by omega) (by omega) (by omega)
theorem entries_self (a : List Ent) (ha : a.length ≤ 4611686018427387904) (k : Nat) (hk : a.length < k) : palinodelaw15_entries.f k a a = some true := by
  unfold palinodelaw15_entries.f
  rw [if_pos rfl]
  exact entries_l0 a ha a.length 0 k (by omega) (by omega) hk
theorem mn_take (l : List Ent) (m : Nat) : ∃ q : List Ent, q.length ≤ m ∧ q = l.take (mn (l.length : Int) (m : Int)).toNat ∧ (0 : Int) ≤ mn (l.length : Int) (m : Int) ∧ mn (l.length : Int) (m : Int) ≤ (l.length : Int) := by
  have h : (mn (l.length : Int) (m : Int)).toNat ≤ m ∧ (0 : Int) ≤ mn (l.length : Int) (m : Int) ∧ mn (l.length : Int) (m : Int) ≤ (l.length : Int) := by unfold mn; omega
  exact ⟨_, by rw [List.length_take]; omega, rfl, h.2.1, h.2.2⟩
theorem fold_len (keep : List Int) (bottom : Bool) (l : List Ent) : (foldR keep bottom l).length ≤ l.length := (foldR_sub keep bottom l).length_le
theorem seeG_len (s : Int) (g : List Ent) : (seeG s g).length ≤ 1 := by
  unfold seeG
  split
  · split <;> simp
  · simp
theorem see_len (s : Int) {l : List Ent} (h : SSorted l) : (seeR s l).length ≤ l.length := by
  have h1 := flat_count (grps l) (fun g hg => List.length_pos_iff.2 ((grps_ok h).1 g hg).1)
  rw [grps_flat] at h1
  refine Nat.le_trans ?_ h1
  unfold seeR
  generalize grps l = gs
  induction gs with
  | nil => exact Nat.le_refl _
  | cons g gs ih =>
    rw [List.flatMap_cons, List.length_append, List.length_cons]
    have := seeG_len s g
    omega
end Go.Proofs.Yteljlfodjbgejaa.Print
