/- What is seen of a folded list is what was seen of the list: for all arguments that the row lets in. -/
import Derived.Test.YteljlfodjbgejaaMergeA
import Derived.Test.YteljlfodjbgejaaPrint14
namespace Go.Proofs.Yteljlfodjbgejaa.Pure
open Go.RowKit Go.Proofs.Yteljlfodjbgejaa.Print Go.Proofs.YteljlfodjbgejaaX Go.Proofs.YteljlfodjbgejaaW.PrintWords Go.Proofs.YteljlfodjbgejaaW.PrintLast
set_option linter.unusedVariables false
set_option linter.unusedSimpArgs false

theorem kept_j2 (q : List Ent) (keep : List Int) (bottom : Bool) (hq : q.length ≤ 80) (hs : sortedB q = true) (s : Int) (h : s ∈ keep ∨ ∀ x ∈ q, x.f1 ≤ s) : palinodelaw15_MergeKept.j2 1000 q true (foldR keep bottom q) s = some true := by
  have hf := fold_len keep bottom q
  have hfs := foldR_sorted keep bottom hs
  have hsl := see_len s (ss_of hs)
  show (merge_See.f q s).bind _ = _
  rw [see_val q s (by omega), if_pos hs, Option.bind_some, see_val (foldR keep bottom q) s (by omega), if_pos hfs, Option.bind_some]
  dsimp only
  rw [see_fold keep bottom s (ss_of hs) h, entries_self _ (by omega) 999 (by omega), Option.bind_some, if_pos rfl, if_pos (show (none : Option Int).isNone = true from rfl), if_pos (show (none : Option Int).isNone = true from rfl), if_pos rfl,
    sorted_big (foldR keep bottom q) (by omega) 999 (by omega), hfs, Option.bind_some, if_pos rfl, decide_eq_true (by omega)]
theorem kept_j0 (q : List Ent) (keep : List Int) (bottom : Bool) (hq : q.length ≤ 80) (hs : sortedB q = true) (hk : keep.length ≤ 17592186043904) (w : Int) (hw : 0 ≤ w) (hw2 : w ≤ 9223372036854775807) : palinodelaw15_MergeKept.j0 1002 q keep w true (foldR keep bottom q) 9007199254740991 = some true := by
  have hmax : ∀ x ∈ q, x.f1 ≤ 9007199254740991 := fun x hx => by
    have h := ((sorted_iff q).1 hs).1 x hx
    unfold rightB at h
    simp only [Bool.and_eq_true, decide_eq_true_eq] at h
    omega
  have h2 := kept_j2 q keep bottom hq hs 9007199254740991 (.inr hmax)
  show (if (keep.length : Int) > 0 then _ else _) = _
  by_cases c : (keep.length : Int) > 0
  · rw [if_pos c]
    show (if (Int.tmod w 2 == 1) = true then _ else _) = _
    by_cases d : (Int.tmod w 2 == 1) = true
    · rw [if_pos d, if_neg (by omega)]
      have hdv : Int.tdiv w 2 = w / 2 := Int.tdiv_eq_ediv_of_nonneg hw
      have hwr : wrap64 (Int.tdiv w 2) = w / 2 := by rw [hdv]; unfold wrap64; omega
      have hmd : Int.tmod (w / 2) (keep.length : Int) = (w / 2) % (keep.length : Int) := Int.tmod_eq_emod_of_nonneg (by omega)
      have hm1 : 0 ≤ (w / 2) % (keep.length : Int) := Int.emod_nonneg _ (by omega)
      have hm2 : (w / 2) % (keep.length : Int) < (keep.length : Int) := Int.emod_lt_of_pos _ c
      rw [hwr, hmd, if_pos hm1, if_pos hm2]
      obtain ⟨j, hj⟩ : ∃ j : Nat, (w / 2) % (keep.length : Int) = (j : Int) := ⟨((w / 2) % (keep.length : Int)).toNat, by omega⟩
      rw [hj] at hm2 ⊢
      have hmem : rd keep (j : Int) ∈ keep := by
        unfold rd
        rw [Int.toNat_natCast, List.getD_eq_getElem?_getD, List.getElem?_eq_getElem (by omega)]
        exact List.getElem_mem _
      exact kept_j2 q keep bottom hq hs _ (.inl hmem)
    · rw [if_neg d]; exact h2
  · rw [if_neg c]
    exact h2
theorem MergeKept : palinodelaw15_MergeKept.Pure := by
  refine ⟨fun r h => by rw [examples_val] at h; exact (Option.some.inj h).symm, ?_⟩
  intro l0 l1 a2 a3 _ h1 hw
  have hk : l1.length ≤ 17592186043904 := by omega
  have hr : -9223372036854775808 ≤ a3 ∧ a3 ≤ 9223372036854775807 := wf_i64 hw
  refine ⟨1002, ?_⟩
  unfold palinodelaw15_MergeKept.f
  obtain ⟨q, hq, hq2, m1, m2⟩ := mn_take l0 80
  have e80 : ((80 : Nat) : Int) = 80 := rfl
  rw [e80] at hq2 m1 m2
  rw [examples_val, Option.bind_some, if_pos m1, if_pos m2, Option.bind_some, ← hq2, fold_val q l1 a2 (by omega) (by omega)]
  cases hs : sortedB q with
  | false =>
    rw [if_neg (by decide), Option.bind_some]
    dsimp only
    rw [if_neg (by decide), if_pos rfl, sorted_big q (by omega) 1002 (by omega), hs]
    rfl
  | true =>
    rw [if_pos rfl, Option.bind_some]
    dsimp only
    rw [if_pos (show (none : Option Int).isNone = true from rfl)]
    by_cases c : a3 < 0
    · rw [if_pos c]
      exact kept_j0 q l1 a2 hq hs hk _ (by unfold wrap64; omega) (by unfold wrap64; omega)
    · rw [if_neg c]
      exact kept_j0 q l1 a2 hq hs hk _ (by omega) (by omega)
end Go.Proofs.Yteljlfodjbgejaa.Pure
