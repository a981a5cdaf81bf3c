/- A part of a sorted list is sorted; two that are sorted are sorted one behind the other just if the first one's last goes ahead of the second one's first: for all arguments that the row lets in. -/
import Derived.Test.YtgfgdpmpbpofbaaBlockEx
import Derived.Test.YtgfgdpmpbpofbaaPrint9
namespace Go.Proofs.Ytgfgdpmpbpofbaa.Pure
open Go.RowKit Go.Proofs.Ytgfgdpmpbpofbaa.Print Go.Proofs.YtgfgdpmpbpofbaaX Go.Proofs.YtgfgdpmpbpofbaaW.PrintWords Go.Proofs.YtgfgdpmpbpofbaaW.PrintLast
set_option linter.unusedVariables false
set_option linter.unusedSimpArgs false

theorem parts_j1 (l : List Ent) (n k : Nat) (hn : n ≤ l.length) (hl : l.length ≤ 4611686018427387904) (b : Bool) (hb : b = (sortedB l && !(sortedB (l.take n) && sortedB (l.drop n)))) :
    palinodelaw12_BlockParts.j1 (k + 1) l (n : Int) true (sortedB (l.take n)) (sortedB (l.drop n)) (sortedB l) b = some true := by
  simp only [palinodelaw12_BlockParts.j1]
  have hp := sorted_parts l n hn
  have hbf : b = false := by
    rw [hb, hp]
    cases sortedB (l.take n) <;> cases sortedB (l.drop n) <;> simp
  rw [hbf, if_neg (by simp)]
  cases h1 : sortedB (l.take n) with
  | false => rw [if_neg (by simp)]; rfl
  | true =>
    rw [if_pos rfl]
    cases h2 : sortedB (l.drop n) with
    | false => rw [if_neg (by simp)]; rfl
    | true =>
      rw [if_pos rfl]
      rw [h1, h2] at hp
      by_cases c0 : n = 0
      · rw [if_pos (by omega), if_pos trivial, hp, c0]; simp
      · rw [if_neg (by omega)]
        by_cases c1 : n = l.length
        · rw [if_pos (by omega), if_pos trivial, hp, decide_eq_true c1]; simp
        · rw [if_neg (by omega), wrap_of _ (by omega) (by omega), show (n : Int) - 1 = ((n - 1 : Nat) : Int) by omega, if_pos (by omega), if_pos (by omega), if_pos (by omega), if_pos (by omega), if_pos trivial, rd_gt, rd_gt, hp, decide_eq_false c0, decide_eq_false c1]
          unfold beforeB bless
          by_cases c2 : Op.bytesLess (gt l (n - 1)).f0.toList (gt l n).f0.toList = true
          · rw [if_pos c2, c2]; simp
          · rw [if_neg c2, show Op.bytesLess (gt l (n - 1)).f0.toList (gt l n).f0.toList = false by simpa using c2]
            by_cases c3 : (gt l (n - 1)).f0.toList = (gt l n).f0.toList
            · rw [if_pos c3, c3]; simp
            · rw [if_neg c3, beq_eq_false_iff_ne.mpr c3]; simp
theorem parts_j0 (l : List Ent) (a : Int) (h0 : 0 ≤ a) (hl : l.length ≤ 4611686018427387903) (k : Nat) (hk : l.length + 5 ≤ k) : palinodelaw12_BlockParts.j0 (k + 1) l a true = some true := by
  simp only [palinodelaw12_BlockParts.j0]
  rw [wrap_of ((l.length : Int) + 1) (by omega) (by omega), if_neg (by omega), Int.tmod_eq_emod_of_nonneg h0]
  obtain ⟨n, hn⟩ := Int.eq_ofNat_of_zero_le (Int.emod_nonneg a (show (l.length : Int) + 1 ≠ 0 by omega))
  have hlt := Int.emod_lt_of_pos a (show 0 < (l.length : Int) + 1 by omega)
  rw [hn] at hlt ⊢
  have h1 : (l.take n).length ≤ l.length := by rw [List.length_take]; omega
  have h2 : (l.drop n).length ≤ l.length := by rw [List.length_drop]; omega
  obtain ⟨k, rfl⟩ : ∃ j, k = j + 1 := ⟨k - 1, by omega⟩
  rw [if_pos (by omega), if_pos (by omega), Int.toNat_natCast, sorted_big _ (by omega) _ (by omega), Option.bind_some, sorted_big _ (by omega) _ (by omega), Option.bind_some, sorted_big _ (by omega) _ (by omega), Option.bind_some]
  have key := fun b hb => parts_j1 l n k (by omega) (by omega) b hb
  have hp := sorted_parts l n (by omega)
  by_cases c1 : sortedB l = true
  · rw [if_pos c1]
    by_cases c2 : sortedB (l.take n) = true
    · rw [if_pos c2]
      exact key _ (by rw [c1, c2]; simp)
    · rw [if_neg c2]
      exact absurd (sorted_take c1 n) c2
  · rw [if_neg c1]
    exact key _ (by rw [show sortedB l = false by simpa using c1]; simp)
theorem BlockParts : palinodelaw12_BlockParts.Pure := by
  refine ⟨examples_true, ?_⟩
  intro l a v1 v2
  have hw := wf_i64 v2
  refine ⟨l.length + 6, ?_⟩
  unfold palinodelaw12_BlockParts.f
  rw [examples_big _ (by omega), Option.bind_some]
  by_cases c : a < 0
  · rw [if_pos c, wrap_of (a + 1) (by omega) (by omega), wrap_of _ (by omega) (by omega)]
    exact parts_j0 l _ (by omega) (by omega) _ (by omega)
  · rw [if_neg c]
    exact parts_j0 l _ (by omega) (by omega) _ (by omega)
end Go.Proofs.Ytgfgdpmpbpofbaa.Pure
