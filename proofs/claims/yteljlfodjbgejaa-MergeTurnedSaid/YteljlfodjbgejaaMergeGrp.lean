import Derived.Test.YteljlfodjbgejaaMergeOrd
import Derived.Test.YteljlfodjbgejaaHMergeFold
import Derived.Test.YteljlfodjbgejaaHMergeSee
namespace Go.Proofs.Yteljlfodjbgejaa.Print
open Go.RowKit Go.Proofs.YteljlfodjbgejaaX Go.Proofs.YteljlfodjbgejaaW.PrintWords Go.Proofs.YteljlfodjbgejaaW.PrintLast
set_option linter.unusedVariables false
set_option linter.unusedSimpArgs false

/-! ## Parts of a sorted list -/
/-- A part: one key, numbers falling. -/
def Grp (g : List Ent) : Prop := g ≠ [] ∧ (∀ x ∈ g, x.f0 = (gt g 0).f0) ∧ g.Pairwise (fun x y => y.f1 < x.f1)
theorem idxF_take {α : Type} (p : α → Bool) : ∀ (l : List α) (i : Nat), (idxF p l i = -1 ∧ ∀ x ∈ l, p x = false) ∨ ∃ (n : Nat) (h : n < l.length), idxF p l i = ((i + n : Nat) : Int) ∧ (∀ x ∈ l.take n, p x = false) ∧ p l[n] = true := by
  intro l
  induction l with
  | nil => intro i; exact .inl ⟨rfl, fun x hx => by cases hx⟩
  | cons x l ih =>
    intro i
    by_cases h : p x = true
    · refine .inr ⟨0, by simp, ?_, fun y hy => (by simp at hy), h⟩
      simp only [idxF]; rw [if_pos h]; rfl
    · have e : idxF p (x :: l) i = idxF p l (i + 1) := by simp only [idxF]; rw [if_neg h]
      rcases ih (i + 1) with ⟨h1, h2⟩ | ⟨n, hn, h1, h2, h3⟩
      · refine .inl ⟨e.trans h1, fun y hy => ?_⟩
        rcases List.mem_cons.1 hy with rfl | hy
        · exact Bool.eq_false_iff.2 h
        · exact h2 y hy
      · refine .inr ⟨n + 1, by simpa using hn, ?_, fun y hy => ?_, h3⟩
        · rw [e, h1]; congr 1; omega
        · rw [List.take_succ_cons] at hy
          rcases List.mem_cons.1 hy with rfl | hy
          · exact Bool.eq_false_iff.2 h
          · exact h2 y hy
theorem keyNe_iff {k : ByteArray} {x : Ent} : keyNe k x = false ↔ x.f0 = k := by
  unfold keyNe
  rw [bne_eq_false_iff_eq]
  exact ⟨toList_inj, fun h => by rw [h]⟩
/-- The first part of a list: as many as are of the first one's key. -/
theorem grp_first (l : List Ent) (h : l ≠ []) : grpN l ≤ l.length ∧ (∀ x ∈ l.take (grpN l), x.f0 = (gt l 0).f0) ∧ (grpN l < l.length → (gt l (grpN l)).f0 ≠ (gt l 0).f0) := by
  have e0 : rd_T34 l 0 = gt l 0 := rd_gt l 0
  unfold grpN
  rw [e0]
  rcases idxF_take (keyNe (gt l 0).f0) l 0 with ⟨h1, h2⟩ | ⟨n, hn, h1, h2, h3⟩
  · rw [h1, if_pos (by decide)]
    exact ⟨Nat.le_refl _, fun x hx => keyNe_iff.1 (h2 x (List.mem_of_mem_take hx)), fun c => absurd c (Nat.lt_irrefl _)⟩
  · rw [Nat.zero_add] at h1
    rw [h1, if_neg (by omega), Int.toNat_natCast]
    refine ⟨by omega, fun x hx => keyNe_iff.1 (h2 x hx), fun _ => ?_⟩
    rw [gt_get hn]
    intro e
    rw [keyNe_iff.2 e] at h3
    cases h3
theorem ss_keys {l : List Ent} (h : SSorted l) (hk : ∀ x ∈ l, ∀ y ∈ l, x.f0 = y.f0) : l.Pairwise (fun x y => y.f1 < x.f1) := by
  refine List.Pairwise.imp_of_mem ?_ h
  intro x y hx hy hxy
  rcases lt_iff.1 hxy with e | e
  · rw [hk x hx y hy] at e; exact absurd e (bless_irr _)
  · exact e.2
theorem gt_mem {l : List Ent} {i : Nat} (h : i < l.length) : gt l i ∈ l := by rw [gt_get h]; exact List.getElem_mem h
/-- What the parts of a sorted list are: parts, their keys rising. -/
def GrpsOk (gs : List (List Ent)) : Prop := (∀ g ∈ gs, Grp g) ∧ gs.Pairwise (fun g h => bless (gt g 0).f0 (gt h 0).f0 = true)
theorem groups_ok : ∀ (m : Nat) (l : List Ent), l.length ≤ m → SSorted l → GrpsOk (groupsF m l) := by
  intro m
  induction m with
  | zero => intro l _ _; exact ⟨(fun g hg => by cases hg), List.Pairwise.nil⟩
  | succ m ih =>
    intro l hl hs
    simp only [groupsF]
    by_cases c : l.length = 0
    · rw [if_pos c]; exact ⟨(fun g hg => by cases hg), List.Pairwise.nil⟩
    · rw [if_neg c]
      have hne : l ≠ [] := fun e => c (by rw [e]; rfl)
      obtain ⟨g1, g2, g3⟩ := grp_first l hne
      have hpos := grpN_pos l (by omega)
      have hsd : SSorted (l.drop (grpN l)) := hs.sublist (List.drop_sublist _ _)
      have hst : SSorted (l.take (grpN l)) := hs.sublist (List.take_sublist _ _)
      obtain ⟨i1, i2⟩ := ih (l.drop (grpN l)) (by rw [List.length_drop]; omega) hsd
      have hg0 : gt (l.take (grpN l)) 0 = gt l 0 := gt_take hpos.1
      have hG : Grp (l.take (grpN l)) := by
        refine ⟨fun e => ?_, fun x hx => by rw [hg0]; exact g2 x hx, ss_keys hst (fun x hx y hy => (g2 x hx).trans (g2 y hy).symm)⟩
        have := congrArg List.length e
        rw [List.length_take, List.length_nil] at this
        omega
      refine ⟨fun g hg => ?_, List.Pairwise.cons (fun h hh => ?_) i2⟩
      · rcases List.mem_cons.1 hg with rfl | hg
        · exact hG
        · exact i1 g hg
      · rw [hg0]
        -- the head of a later part stands behind: another key, greater
        have hfl := groups_flat m (l.drop (grpN l)) (by rw [List.length_drop]; omega)
        have hhne := (i1 h hh).1
        have hmem : gt h 0 ∈ l.drop (grpN l) := by
          rw [← hfl]
          exact List.mem_flatten.2 ⟨h, hh, gt_mem (by cases h with | nil => exact absurd rfl hhne | cons => simp)⟩
        have hdl : grpN l < l.length := by
          rcases Nat.lt_or_eq_of_le g1 with e | e
          · exact e
          · rw [e, List.drop_length] at hmem; cases hmem
        have hk := g3 hdl
        have hall : ∀ y ∈ l.drop (grpN l), bless (gt l 0).f0 y.f0 = true := by
          have hdc : l.drop (grpN l) = gt l (grpN l) :: l.drop (grpN l + 1) := by rw [List.drop_eq_getElem_cons hdl, gt_get hdl]
          have hlt0 : beforeB (gt l 0) (gt l (grpN l)) = true := by
            have h1 : gt l 0 ∈ l.take (grpN l) := by rw [← hg0]; exact gt_mem (by rw [List.length_take]; omega)
            have h2 : gt l (grpN l) ∈ l.drop (grpN l) := by rw [hdc]; exact List.mem_cons_self
            have hs2 := hs
            rw [← List.take_append_drop (grpN l) l] at hs2
            exact (List.pairwise_append.1 hs2).2.2 _ h1 _ h2
          have hb0 : bless (gt l 0).f0 (gt l (grpN l)).f0 = true := by
            rcases lt_iff.1 hlt0 with e | e
            · exact e
            · exact absurd e.1.symm hk
          intro y hy
          rw [hdc] at hy hsd
          rcases List.mem_cons.1 hy with e | e
          · rw [e]; exact hb0
          · rcases lt_iff.1 ((List.pairwise_cons.1 hsd).1 y e) with f | f
            · exact bless_trans hb0 f
            · rw [← f.1]; exact hb0
        exact hall _ hmem
/-- Parts, their keys rising, are the parts of what they make. -/
theorem groups_of : ∀ (gs : List (List Ent)) (m : Nat), GrpsOk gs → gs.flatten.length ≤ m → groupsF m gs.flatten = gs := by
  intro gs
  induction gs with
  | nil => intro m _ _; cases m with
    | zero => rfl
    | succ m => simp [groupsF]
  | cons g gs ih =>
    intro m h hm
    obtain ⟨h1, h2⟩ := h
    obtain ⟨a1, a2, a3⟩ := h1 g List.mem_cons_self
    obtain ⟨b1, b2⟩ := List.pairwise_cons.1 h2
    have hgl : 0 < g.length := List.length_pos_iff.2 a1
    rw [List.flatten_cons, List.length_append] at hm
    rw [List.flatten_cons]
    obtain ⟨m, rfl⟩ : ∃ j, m = j + 1 := ⟨m - 1, by omega⟩
    simp only [groupsF]
    rw [if_neg (by rw [List.length_append]; omega)]
    have hn : grpN (g ++ gs.flatten) = g.length := by
      have hne : g ++ gs.flatten ≠ [] := by simp [a1]
      obtain ⟨c1, c2, c3⟩ := grp_first (g ++ gs.flatten) hne
      have hpos := grpN_pos (g ++ gs.flatten) (by rw [List.length_append]; omega)
      have e0 : gt (g ++ gs.flatten) 0 = gt g 0 := by
        unfold gt
        rw [List.getD_eq_getElem?_getD, List.getElem?_append_left hgl, ← List.getD_eq_getElem?_getD]
      rw [e0] at c2 c3
      rcases Nat.lt_trichotomy (grpN (g ++ gs.flatten)) g.length with e | e | e
      · exfalso
        have hlt : grpN (g ++ gs.flatten) < (g ++ gs.flatten).length := by rw [List.length_append]; omega
        refine c3 hlt ?_
        have e1 : gt (g ++ gs.flatten) (grpN (g ++ gs.flatten)) = gt g (grpN (g ++ gs.flatten)) := by
          unfold gt
          rw [List.getD_eq_getElem?_getD, List.getElem?_append_left e, ← List.getD_eq_getElem?_getD]
        rw [e1]
        exact a2 _ (gt_mem e)
      · exact e
      · exfalso
        have hgs : gs.flatten ≠ [] := fun e2 => by rw [e2, List.append_nil] at c1 e; omega
        obtain ⟨y, ys, hy⟩ : ∃ y ys, gs.flatten = y :: ys := List.exists_cons_of_ne_nil hgs
        have hy1 : y ∈ (g ++ gs.flatten).take (grpN (g ++ gs.flatten)) := by
          rw [List.mem_take_iff_getElem]
          refine ⟨g.length, by have := List.length_pos_iff.2 hgs; rw [List.length_append]; omega, ?_⟩
          rw [List.getElem_append_right (Nat.le_refl _)]
          simp [hy]
        have hk := c2 y hy1
        obtain ⟨h, hh, hyh⟩ := List.mem_flatten.1 (show y ∈ gs.flatten by rw [hy]; exact List.mem_cons_self)
        have hb := b1 h hh
        rw [← (h1 h (List.mem_cons_of_mem _ hh)).2.1 y hyh, hk] at hb
        exact bless_irr _ hb
    rw [hn, List.take_left, List.drop_left, ih m ⟨fun x hx => h1 x (List.mem_cons_of_mem _ hx), b2⟩ (by omega)]
/-- .. and what they make is sorted. -/
theorem grps_sorted {gs : List (List Ent)} (h : GrpsOk gs) : SSorted gs.flatten := by
  induction gs with
  | nil => exact List.Pairwise.nil
  | cons g gs ih =>
    obtain ⟨h1, h2⟩ := h
    obtain ⟨b1, b2⟩ := List.pairwise_cons.1 h2
    obtain ⟨a1, a2, a3⟩ := h1 g List.mem_cons_self
    rw [List.flatten_cons]
    refine List.pairwise_append.2 ⟨?_, ih ⟨fun x hx => h1 x (List.mem_cons_of_mem _ hx), b2⟩, fun x hx y hy => ?_⟩
    · refine List.Pairwise.imp_of_mem ?_ a3
      intro x y hx hy hxy
      exact lt_iff.2 (.inr ⟨(a2 x hx).trans (a2 y hy).symm, hxy⟩)
    · obtain ⟨h, hh, hyh⟩ := List.mem_flatten.1 hy
      refine lt_iff.2 (.inl ?_)
      rw [a2 x hx, (h1 h (List.mem_cons_of_mem _ hh)).2.1 y hyh]
      exact b1 h hh
end Go.Proofs.Yteljlfodjbgejaa.Print
