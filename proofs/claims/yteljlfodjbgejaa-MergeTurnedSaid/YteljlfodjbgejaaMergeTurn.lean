import Derived.Test.YteljlfodjbgejaaMergeEnt
namespace Go.Proofs.Yteljlfodjbgejaa.Print
open Go.RowKit Go.Proofs.YteljlfodjbgejaaX Go.Proofs.YteljlfodjbgejaaW.PrintWords Go.Proofs.YteljlfodjbgejaaW.PrintLast
set_option linter.unusedVariables false
set_option linter.unusedSimpArgs false

theorem entries_some (a b : List Ent) (ha : a.length ≤ 4611686018427387904) (hab : a.length = b.length) : ∀ (n i k : Nat), a.length - i = n → i ≤ a.length → n < k → ∃ r, palinodelaw15_entries.l0 k a b (i : Int) = some r := by
  intro n
  induction n with
  | zero =>
    intro i k hn hi hk
    obtain ⟨k, rfl⟩ : ∃ j, k = j + 1 := ⟨k - 1, by omega⟩
    simp only [palinodelaw15_entries.l0]
    rw [if_neg (by omega)]
    exact ⟨_, rfl⟩
  | succ n ih =>
    intro i k hn hi hk
    obtain ⟨k, rfl⟩ : ∃ j, k = j + 1 := ⟨k - 1, by omega⟩
    simp only [palinodelaw15_entries.l0]
    rw [if_pos (by omega), if_pos (by omega), if_pos (by omega)]
    split
    · exact ⟨_, rfl⟩
    · rw [wrap_of _ (by omega) (by omega), show (i : Int) + 1 = ((i + 1 : Nat) : Int) by omega]
      exact ih (i + 1) k (by omega) (by omega) (by omega)
theorem entries_any (a b : List Ent) (ha : a.length ≤ 4611686018427387904) (k : Nat) (hk : a.length < k) : ∃ r, palinodelaw15_entries.f k a b = some r ∧ (a = b → r = true) := by
  by_cases h : a = b
  · subst h
    exact ⟨true, entries_self a ha k hk, fun _ => rfl⟩
  · unfold palinodelaw15_entries.f
    by_cases c : (a.length : Int) = (b.length : Int)
    · rw [if_pos c]
      obtain ⟨r, hr⟩ := entries_some a b ha (by omega) a.length 0 k (by omega) (by omega) hk
      exact ⟨r, hr, fun e => absurd e h⟩
    · rw [if_neg c]
      exact ⟨_, rfl, fun e => absurd e h⟩
theorem mergeR_sorted {ls : List (List Ent)} (hs : ls.all sortedB = true) : sortedB (mergeR ls) = true := by
  obtain ⟨h1, h2⟩ := mergeR_spec ls (allSorted_of hs)
  have hCs := List.all_eq_true.1 hs
  refine (sorted_iff _).2 ⟨fun x hx => ?_, h1⟩
  obtain ⟨l, hl, hxl⟩ := List.mem_flatten.1 (List.mem_filter.1 (List.mem_of_mem_head? ((h2 x).1 hx))).1
  exact ((sorted_iff l).1 (hCs l hl)).1 x hxl
theorem same_fun {x z : Ent} (h : Same x z) (l : List Ent) : l.filter (sameB z) = l.filter (sameB x) := by
  apply List.filter_congr
  intro u _
  rw [Bool.eq_iff_iff, same_iff, same_iff]
  exact ⟨fun k => h.trans k, fun k => h.symm.trans k⟩
theorem mergeR_sub {ls : List (List Ent)} (hs : ls.all sortedB = true) {x : Ent} (hx : x ∈ mergeR ls) : x ∈ ls.flatten :=
  (List.mem_filter.1 (List.mem_of_mem_head? (((mergeR_spec ls (allSorted_of hs)).2 x).1 hx))).1
theorem mergeR_has {ls : List (List Ent)} (hs : ls.all sortedB = true) {x : Ent} (hx : x ∈ ls.flatten) : ∃ z ∈ mergeR ls, Same x z := by
  obtain ⟨_, h2⟩ := mergeR_spec ls (allSorted_of hs)
  cases hf : ls.flatten.filter (sameB x) with
  | nil =>
    have : x ∈ ls.flatten.filter (sameB x) := List.mem_filter.2 ⟨hx, same_iff.2 (Same.refl x)⟩
    rw [hf] at this; cases this
  | cons z zs =>
    have hz : z ∈ ls.flatten.filter (sameB x) := by rw [hf]; exact List.mem_cons_self
    have hzs := same_iff.1 (List.mem_filter.1 hz).2
    exact ⟨z, (h2 z).2 (by rw [same_fun hzs, hf]; rfl), hzs⟩
/-- The first of a key in what is merged is the first of it in the lists. -/
theorem mergeR_head {ls : List (List Ent)} (hs : ls.all sortedB = true) (x : Ent) : ((mergeR ls).filter (sameB x)).head? = (ls.flatten.filter (sameB x)).head? := by
  obtain ⟨_, h2⟩ := mergeR_spec ls (allSorted_of hs)
  cases hf : (mergeR ls).filter (sameB x) with
  | nil =>
    cases hg : ls.flatten.filter (sameB x) with
    | nil => rfl
    | cons z zs =>
      have hz : z ∈ ls.flatten.filter (sameB x) := by rw [hg]; exact List.mem_cons_self
      obtain ⟨hz1, hz2⟩ := List.mem_filter.1 hz
      obtain ⟨u, hu, hzu⟩ := mergeR_has hs hz1
      have : u ∈ (mergeR ls).filter (sameB x) := List.mem_filter.2 ⟨hu, same_iff.2 ((same_iff.1 hz2).trans hzu)⟩
      rw [hf] at this; cases this
  | cons z zs =>
    have hz : z ∈ (mergeR ls).filter (sameB x) := by rw [hf]; exact List.mem_cons_self
    obtain ⟨hz1, hz2⟩ := List.mem_filter.1 hz
    have := (h2 z).1 hz1
    rw [same_fun (same_iff.1 hz2)] at this
    rw [this]; rfl
theorem mergeR_nil : mergeR [] = [] := by
  have := (mergeR_spec [] (allSorted_of rfl)).2
  cases h : mergeR [] with
  | nil => rfl
  | cons x l =>
    have h1 := (this x).1 (by rw [h]; exact List.mem_cons_self)
    simp at h1
/-- One by one. -/
theorem mergeR_step {ls : List (List Ent)} {q : List Ent} (hs : ls.all sortedB = true) (hq : sortedB q = true) : mergeR [mergeR ls, q] = mergeR (ls ++ [q]) := by
  have hs2 : ([mergeR ls, q] : List (List Ent)).all sortedB = true := by simp [mergeR_sorted hs, hq]
  have hs3 : (ls ++ [q]).all sortedB = true := by rw [List.all_append, hs]; simp [hq]
  obtain ⟨a1, a2⟩ := mergeR_spec _ (allSorted_of hs2)
  obtain ⟨b1, b2⟩ := mergeR_spec _ (allSorted_of hs3)
  refine ssorted_ext _ _ a1 b1 (fun x => ?_)
  rw [a2 x, b2 x]
  have e1 : ([mergeR ls, q] : List (List Ent)).flatten = mergeR ls ++ q := by simp
  have e2 : (ls ++ [q]).flatten = ls.flatten ++ q := by simp
  rw [e1, e2, List.filter_append, List.filter_append, List.head?_append, List.head?_append, mergeR_head hs]
/-- An entry's key and number alone. -/
def nrm (x : Ent) : Ent := ⟨x.f0, x.f1, false, ByteArray.empty⟩
theorem nrm_same (x : Ent) : Same x (nrm x) := ⟨rfl, rfl⟩
theorem nrm_eq {x y : Ent} (h : Same x y) : nrm x = nrm y := by unfold nrm; rw [h.1, h.2]
theorem ss_nrm {l : List Ent} (h : SSorted l) : SSorted (l.map nrm) := by
  refine List.pairwise_map.2 (h.imp (fun {a b} hab => ?_))
  exact lt_same_r (lt_same_l (nrm_same a).symm hab) (nrm_same b)
theorem mergeR_perm_len {ls ms : List (List Ent)} (hs : ls.all sortedB = true) (hm : ms.all sortedB = true) (h : ∀ x, x ∈ ls.flatten ↔ x ∈ ms.flatten) : (mergeR ls).length = (mergeR ms).length := by
  have key : ∀ {ls ms : List (List Ent)}, ls.all sortedB = true → ms.all sortedB = true → (∀ x, x ∈ ls.flatten → x ∈ ms.flatten) → ∀ y, y ∈ (mergeR ls).map nrm → y ∈ (mergeR ms).map nrm := by
    intro ls ms hs hm h y hy
    obtain ⟨x, hx, rfl⟩ := List.mem_map.1 hy
    obtain ⟨z, hz, hxz⟩ := mergeR_has hm (h x (mergeR_sub hs hx))
    exact List.mem_map.2 ⟨z, hz, (nrm_eq hxz).symm⟩
  have := ssorted_ext _ _ (ss_nrm (mergeR_spec _ (allSorted_of hs)).1) (ss_nrm (mergeR_spec _ (allSorted_of hm)).1) (fun y => ⟨key hs hm (fun x => (h x).1) y, key hm hs (fun x => (h x).2) y⟩)
  have := congrArg List.length this
  simpa using this
theorem perm_of_sub : ∀ (l m : List Ent), l.Nodup → (∀ x ∈ l, x ∈ m) → m.length ≤ l.length → m.Perm l := by
  intro l
  induction l with
  | nil => intro m _ _ h; rw [List.length_eq_zero_iff.1 (Nat.le_zero.1 h)]
  | cons x l ih =>
    intro m hn hs hl
    obtain ⟨hx, hn2⟩ := List.nodup_cons.1 hn
    obtain ⟨s, t, rfl⟩ := List.append_of_mem (hs x List.mem_cons_self)
    refine List.perm_middle.trans (List.Perm.cons x (ih (s ++ t) hn2 (fun y hy => ?_) ?_))
    · have h1 := hs y (List.mem_cons_of_mem _ hy)
      have h2 : y ≠ x := fun e => hx (e ▸ hy)
      rcases List.mem_append.1 h1 with h1 | h1
      · exact List.mem_append_left _ h1
      · rcases List.mem_cons.1 h1 with h1 | h1
        · exact absurd h1 h2
        · exact List.mem_append_right _ h1
    · simp only [List.length_append, List.length_cons] at hl ⊢; omega
theorem ss_nodup {l : List Ent} (h : SSorted l) : l.Nodup := by
  refine List.Pairwise.imp (S := fun a b => a ≠ b) ?_ h
  intro a b hab e
  subst e
  exact lt_irr _ hab
theorem uniq_head {l : List Ent} (hp : l.Pairwise (fun a b => ¬ Same a b)) (x : Ent) : (l.filter (sameB x)).head? = some x ↔ x ∈ l := by
  constructor
  · intro h; exact (List.mem_filter.1 (List.mem_of_mem_head? h)).1
  · intro h
    induction l with
    | nil => cases h
    | cons y l ih =>
      obtain ⟨h1, h2⟩ := List.pairwise_cons.1 hp
      rcases List.mem_cons.1 h with rfl | h
      · rw [List.filter_cons, if_pos (same_iff.2 (Same.refl _))]; rfl
      · rw [List.filter_cons, if_neg (fun e => h1 x h (same_iff.1 e).symm)]
        exact ih h2 h
/-- Lists that share nothing may be merged in any order. -/
theorem mergeR_perm {ls ms : List (List Ent)} (hs : ls.all sortedB = true) (hm : ms.all sortedB = true) (h : ls.flatten.Perm ms.flatten) (hl : ls.flatten.length ≤ (mergeR ls).length) : mergeR ls = mergeR ms := by
  obtain ⟨a1, a2⟩ := mergeR_spec _ (allSorted_of hs)
  obtain ⟨b1, b2⟩ := mergeR_spec _ (allSorted_of hm)
  have hp := perm_of_sub (mergeR ls) ls.flatten (ss_nodup a1) (fun x hx => mergeR_sub hs hx) hl
  have p0 : (mergeR ls).Pairwise (fun a b => ¬ Same a b) := a1.imp (fun hab => lt_not_same hab)
  have sym : ∀ {a b : Ent}, ¬ Same a b → ¬ Same b a := fun h e => h e.symm
  have p1 : ls.flatten.Pairwise (fun a b => ¬ Same a b) := (hp.pairwise_iff sym).2 p0
  have p2 : ms.flatten.Pairwise (fun a b => ¬ Same a b) := (h.pairwise_iff sym).1 p1
  refine ssorted_ext _ _ a1 b1 (fun x => ?_)
  rw [a2 x, b2 x, uniq_head p1, uniq_head p2, h.mem_iff]
theorem rev_perm (ls : List (List Ent)) : ls.flatten.Perm ls.reverse.flatten := (List.reverse_perm ls).symm.flatten
theorem rev_sorted {ls : List (List Ent)} : ls.reverse.all sortedB = ls.all sortedB := List.all_reverse
theorem mergeR_len {C : List (List Ent)} (h8 : C.length ≤ 8) (h40 : ∀ l ∈ C, l.length ≤ 40) : (mergeR C).length ≤ 10000 := by
  have h1 := mergeStep_fold (mergedF C (restF C (List.replicate C.length 0) + 1) (List.replicate C.length 0)) []
  have h2 := merged_len C (restF C (List.replicate C.length 0) + 1) (List.replicate C.length 0)
  have h3 := rest_le C (List.replicate C.length 0) (fun l hl => by have := h40 l hl; omega)
  unfold mergeR
  simp only [List.length_nil] at h1
  omega
theorem len_of_sub : ∀ (l m : List Ent), l.Nodup → (∀ x ∈ l, x ∈ m) → l.length ≤ m.length := by
  intro l
  induction l with
  | nil => intro m _ _; exact Nat.zero_le _
  | cons x l ih =>
    intro m hn hs
    obtain ⟨hx, hn2⟩ := List.nodup_cons.1 hn
    obtain ⟨s, t, rfl⟩ := List.append_of_mem (hs x List.mem_cons_self)
    have := ih (s ++ t) hn2 (fun y hy => ?_)
    · simp only [List.length_append, List.length_cons] at this ⊢; omega
    · have h1 := hs y (List.mem_cons_of_mem _ hy)
      have h2 : y ≠ x := fun e => hx (e ▸ hy)
      rcases List.mem_append.1 h1 with h1 | h1
      · exact List.mem_append_left _ h1
      · rcases List.mem_cons.1 h1 with h1 | h1
        · exact absurd h1 h2
        · exact List.mem_append_right _ h1
theorem flat_len (n : Nat) : ∀ (ls : List (List Ent)), (∀ l ∈ ls, l.length ≤ n) → ls.flatten.length ≤ n * ls.length
  | [], _ => by simp
  | l :: ls, h => by
    have h1 := flat_len n ls (fun x hx => h x (List.mem_cons_of_mem _ hx))
    have h2 := h l List.mem_cons_self
    rw [List.flatten_cons, List.length_append, List.length_cons, Nat.mul_succ]
    omega
theorem mergeR_le {ls : List (List Ent)} (hs : ls.all sortedB = true) : (mergeR ls).length ≤ ls.flatten.length :=
  len_of_sub _ _ (ss_nodup (mergeR_spec ls (allSorted_of hs)).1) (fun x hx => mergeR_sub hs hx)
end Go.Proofs.Yteljlfodjbgejaa.Print
