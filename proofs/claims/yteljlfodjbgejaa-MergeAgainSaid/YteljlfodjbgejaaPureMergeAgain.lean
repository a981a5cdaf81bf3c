/- What was folded, folded again, stays; with less kept there is no more: for all arguments that the row lets in. -/
import Derived.Test.YteljlfodjbgejaaMergeEnt
import Derived.Test.YteljlfodjbgejaaPrint15
namespace Go.Proofs.Yteljlfodjbgejaa.Pure
open Go.RowKit Go.Proofs.Yteljlfodjbgejaa.Print Go.Proofs.YteljlfodjbgejaaX Go.Proofs.YteljlfodjbgejaaW.PrintWords Go.Proofs.YteljlfodjbgejaaW.PrintLast
set_option linter.unusedVariables false
set_option linter.unusedSimpArgs false

theorem MergeAgain : palinodelaw15_MergeAgain.Pure := by
  refine ⟨fun r h => by rw [examples_val] at h; exact (Option.some.inj h).symm, ?_⟩
  intro l0 l1 a2 _ h1
  have hk : l1.length ≤ 4611686018427387904 := by omega
  refine ⟨1000, ?_⟩
  unfold palinodelaw15_MergeAgain.f
  obtain ⟨q, hq, hq2, m1, m2⟩ := mn_take l0 80
  have e80 : ((80 : Nat) : Int) = 80 := rfl
  rw [e80] at hq2 m1 m2
  rw [examples_val, Option.bind_some, if_pos m1, if_pos m2, Option.bind_some, ← hq2, fold_val q l1 a2 (by omega) hk]
  cases hs : sortedB q with
  | false => rfl
  | true =>
    have hf := fold_len l1 a2 q
    have hfs := foldR_sorted l1 a2 hs
    rw [if_pos rfl, Option.bind_some, if_pos (show (none : Option Int).isNone = true from rfl)]
    dsimp only
    rw [fold_val (foldR l1 a2 q) l1 a2 (by omega) hk, if_pos hfs, fold_fold l1 a2 (ss_of hs), Option.bind_some, fold_val q [] a2 (by omega) (by simp), if_pos hs, Option.bind_some]
    dsimp only
    rw [entries_self _ (by omega) 1000 (by omega), Option.bind_some, if_pos rfl, if_pos (show (none : Option Int).isNone = true from rfl), if_pos (show (none : Option Int).isNone = true from rfl), if_pos rfl, decide_eq_true (by have := fold_less l1 a2 (ss_of hs); omega)]
end Go.Proofs.Yteljlfodjbgejaa.Pure
