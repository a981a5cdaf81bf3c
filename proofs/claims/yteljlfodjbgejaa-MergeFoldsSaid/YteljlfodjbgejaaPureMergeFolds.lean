/- Any list is folded, and seen, as the chapter says, or refused: for all arguments that the row lets in. -/
import Derived.Test.YteljlfodjbgejaaMergeB
import Derived.Test.YteljlfodjbgejaaPrint14
namespace Go.Proofs.Yteljlfodjbgejaa.Pure
open Go.RowKit Go.Proofs.Yteljlfodjbgejaa.Print Go.Proofs.YteljlfodjbgejaaX Go.Proofs.YteljlfodjbgejaaW.PrintWords Go.Proofs.YteljlfodjbgejaaW.PrintLast
set_option linter.unusedVariables false
set_option linter.unusedSimpArgs false

theorem MergeFolds : palinodelaw15_MergeFolds.Pure := by
  refine ⟨fun r h => by rw [examples_val] at h; exact (Option.some.inj h).symm, ?_⟩
  intro l0 l1 a2 a3 _ h1 _
  have hk : l1.length ≤ 4611686018427387904 := by omega
  obtain ⟨q, hq, hq2, m1, m2⟩ := mn_take l0 100
  have e100 : ((100 : Nat) : Int) = 100 := rfl
  rw [e100] at hq2 m1 m2
  obtain ⟨k, hkk⟩ : ∃ k, k = q.length * 2000 + l1.length + 1000 := ⟨_, rfl⟩
  have hk2 : q.length * 2000 + l1.length + 10 ≤ k := by rw [hkk]; exact Nat.add_le_add_left (by decide) _
  have hk3 : 1000 ≤ k := by rw [hkk]; exact Nat.le_add_left _ _
  clear hkk
  refine ⟨k, ?_⟩
  unfold palinodelaw15_MergeFolds.f
  have hF := refFold_val q l1 a2 (by omega) hk k hk2
  clear hk2
  rw [examples_val, Option.bind_some, if_pos m1, if_pos m2, Option.bind_some, ← hq2, fold_val q l1 a2 (by omega) hk, hF, refSee_val q a3 (by omega) k (by omega), see_val q a3 (by omega)]
  have hf := fold_len l1 a2 q
  cases hs : sortedB q with
  | false =>
    rw [if_neg (show ¬ (false = true) by decide), if_neg (show ¬ (false = true) by decide), if_neg (show ¬ (false = true) by decide), if_neg (show ¬ (false = true) by decide)]
    simp only [Option.bind_some]
    rw [entries_self [] (by simp) k (by simp; omega)]
    rfl
  | true =>
    have hsl := see_len a3 (ss_of hs)
    rw [if_pos (show true = true from rfl), if_pos (show true = true from rfl), if_pos (show true = true from rfl), if_pos (show true = true from rfl)]
    simp only [Option.bind_some]
    rw [entries_self _ (by omega) k (by omega), Option.bind_some, entries_self _ (by omega) k (by omega)]
    rfl
end Go.Proofs.Yteljlfodjbgejaa.Pure
