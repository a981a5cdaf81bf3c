import Derived.Test.YteljlfodjbgejaaMergeOrd
import Derived.Test.YteljlfodjbgejaaHMergeMerge
namespace Go.Proofs.Yteljlfodjbgejaa.Print
open Go.RowKit Go.Proofs.YteljlfodjbgejaaX Go.Proofs.YteljlfodjbgejaaW.PrintWords Go.Proofs.YteljlfodjbgejaaW.PrintLast
set_option linter.unusedVariables false
set_option linter.unusedSimpArgs false

/-! ## Which list's entry comes next -/
def exh (ls : List (List Ent)) (ks : List Nat) (i : Nat) : Prop := ks.getD i 0 = (rd_L4 ls (i : Int)).length
def BInv (ls : List (List Ent)) (ks : List Nat) (i : Nat) (b : Int) : Prop :=
  (b = -1 ∧ ∀ j, j < i → exh ls ks j) ∨ ∃ k : Nat, b = (k : Int) ∧ k < i ∧ ¬ exh ls ks k ∧ (∀ j, j < k → ¬ exh ls ks j → beforeB (hdE ls ks k) (hdE ls ks j) = true) ∧ (∀ j, k < j → j < i → ¬ exh ls ks j → ¬ beforeB (hdE ls ks j) (hdE ls ks k) = true)
theorem best_spec (ls : List (List Ent)) (ks : List Nat) : ∀ (m i : Nat) (b : Int), BInv ls ks i b → BInv ls ks (i + m) (bestF ls ks m i b) := by
  intro m
  induction m with
  | zero => intro i b h; exact h
  | succ m ih =>
    intro i b h
    simp only [bestF]
    rw [show i + (m + 1) = (i + 1) + m by omega]
    refine ih (i + 1) _ ?_
    by_cases c : exh ls ks i
    · have c' : ks.getD i 0 = (rd_L4 ls (i : Int)).length := c
      rw [if_pos c']
      rcases h with ⟨h1, h2⟩ | ⟨k, h1, h2, h3, h4, h5⟩
      · exact .inl ⟨h1, fun j hj => by rcases Nat.lt_or_eq_of_le (Nat.le_of_lt_succ hj) with e | e; exact h2 j e; exact e ▸ c⟩
      · exact .inr ⟨k, h1, by omega, h3, h4, fun j hj1 hj2 hj3 => by rcases Nat.lt_or_eq_of_le (Nat.le_of_lt_succ hj2) with e | e; exact h5 j hj1 e hj3; exact absurd (e ▸ c) hj3⟩
    · have c' : ¬ ks.getD i 0 = (rd_L4 ls (i : Int)).length := c
      rw [if_neg c']
      rcases h with ⟨h1, h2⟩ | ⟨k, h1, h2, h3, h4, h5⟩
      · rw [if_pos (by omega)]
        exact .inr ⟨i, rfl, by omega, c, fun j hj hn => absurd (h2 j hj) hn, fun j hj1 hj2 _ => by omega⟩
      · rw [if_neg (by omega), h1, Int.toNat_natCast, bfE_before]
        by_cases d : beforeB (hdE ls ks i) (hdE ls ks k) = true
        · rw [if_pos d]
          refine .inr ⟨i, rfl, by omega, c, fun j hj hn => ?_, fun j hj1 hj2 _ => by omega⟩
          rcases Nat.lt_trichotomy j k with e | e | e
          · exact lt_trans d (h4 j e hn)
          · exact e ▸ d
          · rcases not_lt (h5 j e hj hn) with f | f
            · exact lt_same_r d f.symm
            · exact lt_trans d f
        · rw [if_neg d]
          exact .inr ⟨k, rfl, by omega, h3, h4, fun j hj1 hj2 hj3 => by rcases Nat.lt_or_eq_of_le (Nat.le_of_lt_succ hj2) with e | e; exact h5 j hj1 e hj3; exact e ▸ d⟩
theorem best_all (ls : List (List Ent)) (ks : List Nat) : BInv ls ks ls.length (bestF ls ks ls.length 0 (-1)) := by
  have h := best_spec ls ks ls.length 0 (-1) (.inl ⟨rfl, fun j hj => by omega⟩)
  rwa [Nat.zero_add] at h
/-! ## What is still to come -/
def restAt (ls : List (List Ent)) (ks : List Nat) (i : Nat) : List Ent := (rd_L4 ls (i : Int)).drop (ks.getD i 0)
def rests (ls : List (List Ent)) (ks : List Nat) : List (List Ent) := (List.range ls.length).map (restAt ls ks)
theorem rests_len (ls : List (List Ent)) (ks : List Nat) : (rests ls ks).length = ls.length := by simp [rests]
theorem rests_get (ls : List (List Ent)) (ks : List Nat) (i : Nat) (h : i < (rests ls ks).length) : (rests ls ks)[i] = restAt ls ks i := by simp [rests]
theorem restAt_cons {ls : List (List Ent)} {ks : List Nat} {b : Nat} (h : ks.getD b 0 < (rd_L4 ls (b : Int)).length) : restAt ls ks b = hdE ls ks b :: (rd_L4 ls (b : Int)).drop (ks.getD b 0 + 1) := drop_rd _ _ h
theorem getD_set {α : Type} (l : List α) (b : Nat) (v d : α) (hb : b < l.length) (j : Nat) : (l.set b v).getD j d = if j = b then v else l.getD j d := by
  rw [List.getD_eq_getElem?_getD, List.getElem?_set]
  by_cases c : b = j
  · rw [if_pos c, if_pos (by omega), if_pos c.symm]; rfl
  · rw [if_neg c, if_neg (fun e => c e.symm), ← List.getD_eq_getElem?_getD]
theorem rests_set {ls : List (List Ent)} {ks : List Nat} {b : Nat} (hk : ks.length = ls.length) (hb : b < ls.length) :
    rests ls (ks.set b (ks.getD b 0 + 1)) = (rests ls ks).set b ((rd_L4 ls (b : Int)).drop (ks.getD b 0 + 1)) := by
  apply List.ext_getElem
  · rw [List.length_set, rests_len, rests_len]
  · intro i h1 h2
    rw [rests_get, List.getElem_set]
    unfold restAt
    rw [getD_set ks b _ 0 (by omega) i]
    by_cases c : b = i
    · subst c; rw [if_pos rfl, if_pos rfl]
    · rw [if_neg c, if_neg (fun e => c e.symm), rests_get]; rfl
theorem flatten_at {α : Type} (L : List (List α)) (b : Nat) (h : b < L.length) : L.flatten = (L.take b).flatten ++ (L[b] ++ (L.drop (b + 1)).flatten) := by
  conv => lhs; rw [← List.take_append_drop b L, List.drop_eq_getElem_cons h]
  rw [List.flatten_append, List.flatten_cons]
theorem flatten_set {α : Type} (L : List (List α)) (b : Nat) (t : List α) (h : b < L.length) : (L.set b t).flatten = (L.take b).flatten ++ (t ++ (L.drop (b + 1)).flatten) := by
  rw [List.set_eq_take_append_cons_drop, if_pos h, List.flatten_append, List.flatten_cons]
theorem filter_none {x : Ent} {L : List (List Ent)} (h : ∀ l ∈ L, ∀ y ∈ l, ¬ Same x y) : L.flatten.filter (sameB x) = [] := by
  rw [List.filter_eq_nil_iff]
  intro y hy
  obtain ⟨l, hl, hyl⟩ := List.mem_flatten.1 hy
  rw [same_iff]
  exact h l hl y hyl
/-- The lists are sorted. -/
def AllSorted (ls : List (List Ent)) : Prop := ∀ i : Nat, i < ls.length → SSorted (rd_L4 ls (i : Int))
theorem restAt_sorted {ls : List (List Ent)} {ks : List Nat} (h : AllSorted ls) {i : Nat} (hi : i < ls.length) : SSorted (restAt ls ks i) := (h i hi).sublist (List.drop_sublist _ _)
/-- An entry of a list's rest is its head, or stands behind it. -/
theorem restAt_mem {ls : List (List Ent)} {ks : List Nat} (h : AllSorted ls) {i : Nat} (hi : i < ls.length) (hk : ks.getD i 0 ≤ (rd_L4 ls (i : Int)).length) {y : Ent} (hy : y ∈ restAt ls ks i) : ¬ exh ls ks i ∧ (y = hdE ls ks i ∨ beforeB (hdE ls ks i) y = true) := by
  by_cases c : exh ls ks i
  · have c' : ks.getD i 0 = (rd_L4 ls (i : Int)).length := c
    unfold restAt at hy
    rw [c', List.drop_length] at hy
    cases hy
  · refine ⟨c, ?_⟩
    have c' : ¬ ks.getD i 0 = (rd_L4 ls (i : Int)).length := c
    have hs := restAt_sorted (ks := ks) h hi
    rw [restAt_cons (by omega)] at hy hs
    rcases List.mem_cons.1 hy with e | e
    · exact .inl e
    · exact .inr ((List.pairwise_cons.1 hs).1 y e)
def KOk (ls : List (List Ent)) (ks : List Nat) : Prop := ks.length = ls.length ∧ ∀ i : Nat, i < ls.length → ks.getD i 0 ≤ (rd_L4 ls (i : Int)).length
theorem KOk.step {ls : List (List Ent)} {ks : List Nat} {b : Nat} (h : KOk ls ks) (hb : b < ls.length) (hx : ¬ exh ls ks b) : KOk ls (ks.set b (ks.getD b 0 + 1)) := by
  refine ⟨by rw [List.length_set]; exact h.1, fun i hi => ?_⟩
  rw [getD_set ks b _ 0 (by rw [h.1]; exact hb) i]
  by_cases c : i = b
  · subst c
    rw [if_pos rfl]
    have h1 := h.2 i hi
    have h2 : ¬ ks.getD i 0 = (rd_L4 ls (i : Int)).length := hx
    omega
  · rw [if_neg c]; exact h.2 i hi
theorem mem_rests {ls : List (List Ent)} {ks : List Nat} {y : Ent} (h : y ∈ (rests ls ks).flatten) : ∃ i, i < ls.length ∧ y ∈ restAt ls ks i := by
  obtain ⟨l, hl, hy⟩ := List.mem_flatten.1 h
  unfold rests at hl
  obtain ⟨i, hi, rfl⟩ := List.mem_map.1 hl
  exact ⟨i, List.mem_range.1 hi, hy⟩
theorem rests_mem {ls : List (List Ent)} {ks : List Nat} {y : Ent} {i : Nat} (hi : i < ls.length) (h : y ∈ restAt ls ks i) : y ∈ (rests ls ks).flatten :=
  List.mem_flatten.2 ⟨_, List.mem_map.2 ⟨i, List.mem_range.2 hi, rfl⟩, h⟩
/-- The merged lists have of each entry just what the lists have, in the lists' order; and they are sorted, fellows beside each other. -/
theorem merged_spec (ls : List (List Ent)) (hs : AllSorted ls) : ∀ (fuel : Nat) (ks : List Nat), KOk ls ks → restF ls ks < fuel →
    (∀ x, (mergedF ls fuel ks).filter (sameB x) = (rests ls ks).flatten.filter (sameB x)) ∧ (mergedF ls fuel ks).Pairwise (fun x y => ¬ beforeB y x = true) := by
  intro fuel
  induction fuel with
  | zero => intro ks _ h; omega
  | succ m ih =>
    intro ks hk hf
    simp only [mergedF]
    rcases best_all ls ks with ⟨h1, h2⟩ | ⟨b, h1, h2, h3, h4, h5⟩
    · rw [h1, if_pos (by decide)]
      refine ⟨fun x => ?_, List.Pairwise.nil⟩
      symm
      refine filter_none (fun l hl y hy => ?_)
      exfalso
      obtain ⟨i, hi, hyi⟩ := mem_rests (List.mem_flatten.2 ⟨l, hl, hy⟩)
      exact (restAt_mem hs hi (hk.2 i hi) hyi).1 (h2 i hi)
    · rw [h1, if_neg (by omega), Int.toNat_natCast]
      have hlt : ks.getD b 0 < (rd_L4 ls (b : Int)).length := by have h6 := hk.2 b h2; have h7 : ¬ ks.getD b 0 = (rd_L4 ls (b : Int)).length := h3; omega
      have hk2 := hk.step h2 h3
      obtain ⟨i1, i2⟩ := ih (ks.set b (ks.getD b 0 + 1)) hk2 (by have := rest_set ls ks b (by rw [hk.1]; exact h2) hk.1 hlt; omega)
      have hb : b < (rests ls ks).length := by rw [rests_len]; exact h2
      have hC := flatten_at (rests ls ks) b hb
      have hC' := flatten_set (rests ls ks) b ((rd_L4 ls (b : Int)).drop (ks.getD b 0 + 1)) hb
      rw [← rests_set hk.1 h2] at hC'
      rw [rests_get, restAt_cons hlt] at hC
      refine ⟨fun x => ?_, List.Pairwise.cons (fun y hy => ?_) i2⟩
      · rw [List.filter_cons, i1 x, hC, hC', List.filter_append, List.filter_append, List.filter_append, List.filter_append, List.filter_cons]
        by_cases c : sameB x (hdE ls ks b) = true
        · rw [if_pos c, if_pos c]
          have hz : ((rests ls ks).take b).flatten.filter (sameB x) = [] := by
            refine filter_none (fun l hl y hy hsm => ?_)
            obtain ⟨j, hj, rfl⟩ := List.mem_take_iff_getElem.1 hl
            rw [rests_get] at hy
            have hjb : j < b := by omega
            have hjl : j < ls.length := by omega
            obtain ⟨e1, e2⟩ := restAt_mem hs hjl (hk.2 j hjl) hy
            have e3 := h4 j hjb e1
            have e4 : beforeB (hdE ls ks b) y = true := by
              rcases e2 with e2 | e2
              · rw [e2]; exact e3
              · exact lt_trans e3 e2
            exact lt_not_same e4 ((same_iff.1 c).symm.trans hsm)
          rw [hz]
          rfl
        · rw [if_neg c, if_neg c]
      · have hy1 : y ∈ (mergedF ls m (ks.set b (ks.getD b 0 + 1))).filter (sameB y) := List.mem_filter.2 ⟨hy, same_iff.2 (Same.refl y)⟩
        rw [i1 y] at hy1
        obtain ⟨j, hj, hyj⟩ := mem_rests (List.mem_filter.1 hy1).1
        intro hbad
        by_cases c : j = b
        · subst c
          have hyt : y ∈ (rd_L4 ls (j : Int)).drop (ks.getD j 0 + 1) := by
            unfold restAt at hyj
            rwa [getD_set ks j _ 0 (by rw [hk.1]; exact h2) j, if_pos rfl] at hyj
          have hst := restAt_sorted (ks := ks) hs hj
          rw [restAt_cons hlt] at hst
          exact lt_asym ((List.pairwise_cons.1 hst).1 y hyt) hbad
        · have hyj' : y ∈ restAt ls ks j := by
            unfold restAt at hyj ⊢
            rwa [getD_set ks b _ 0 (by rw [hk.1]; exact h2) j, if_neg c] at hyj
          obtain ⟨e1, e2⟩ := restAt_mem hs hj (hk.2 j hj) hyj'
          have e3 : beforeB (hdE ls ks j) (hdE ls ks b) = true := by
            rcases e2 with e2 | e2
            · rw [← e2]; exact hbad
            · exact lt_trans e2 hbad
          rcases Nat.lt_or_gt_of_ne c with f | f
          · exact lt_asym (h4 j f e1) e3
          · exact h5 j f hj e1 e3
/-! ## Fellows left out -/
theorem lastE_snoc (l : List Ent) (x : Ent) : lastE (l ++ [x]) = x := by
  unfold lastE
  rw [List.length_append, List.length_singleton, show ((l.length + 1 : Nat) : Int) - 1 = (l.length : Int) by omega, rd_gt]
  unfold gt
  rw [List.getD_eq_getElem?_getD, List.getElem?_append_right (Nat.le_refl _), Nat.sub_self]
  rfl
theorem step_spec (M : List Ent) (h : M.Pairwise (fun x y => ¬ beforeB y x = true)) : SSorted (M.foldl mergeStep []) ∧ (∀ x, x ∈ M.foldl mergeStep [] ↔ (M.filter (sameB x)).head? = some x) := by
  have key : ∀ n (M : List Ent), M.length = n → M.Pairwise (fun x y => ¬ beforeB y x = true) → SSorted (M.foldl mergeStep []) ∧ (∀ x, x ∈ M.foldl mergeStep [] ↔ (M.filter (sameB x)).head? = some x) := by
    intro n
    induction n with
    | zero =>
      intro M hM _
      rw [List.length_eq_zero_iff.1 hM]
      exact ⟨List.Pairwise.nil, fun x => by simp⟩
    | succ n ih =>
      intro M hM hP
      have hne : M ≠ [] := fun e => by rw [e] at hM; simp at hM
      obtain ⟨Q, e, rfl⟩ : ∃ Q e, M = Q ++ [e] := ⟨M.dropLast, M.getLast hne, (List.dropLast_concat_getLast hne).symm⟩
      obtain ⟨p1, _, p3⟩ := List.pairwise_append.1 hP
      obtain ⟨i1, i2⟩ := ih Q (by simpa using hM) p1
      rw [List.foldl_append]
      show SSorted (mergeStep (Q.foldl mergeStep []) e) ∧ ∀ x, x ∈ mergeStep (Q.foldl mergeStep []) e ↔ _
      have hcov : ∀ y ∈ Q, ∃ z ∈ Q.foldl mergeStep [], Same z y := by
        intro y hy
        have hy1 : y ∈ Q.filter (sameB y) := List.mem_filter.2 ⟨hy, same_iff.2 (Same.refl y)⟩
        cases hf : Q.filter (sameB y) with
        | nil => rw [hf] at hy1; cases hy1
        | cons z zs =>
          have hz : z ∈ Q.filter (sameB y) := by rw [hf]; exact List.mem_cons_self
          have hzs := same_iff.1 (List.mem_filter.1 hz).2
          refine ⟨z, (i2 z).2 ?_, hzs.symm⟩
          have hfun : Q.filter (sameB z) = Q.filter (sameB y) := by
            apply List.filter_congr
            intro u _
            rw [Bool.eq_iff_iff, same_iff, same_iff]
            exact ⟨fun k => hzs.trans k, fun k => hzs.symm.trans k⟩
          rw [hfun, hf]; rfl
      have hsub : ∀ z ∈ Q.foldl mergeStep [], z ∈ Q := fun z hz => by
        have := (i2 z).1 hz
        have h2 : z ∈ Q.filter (sameB z) := by
          cases hq : Q.filter (sameB z) with
          | nil => rw [hq] at this; cases this
          | cons a b => rw [hq] at this; have := Option.some.inj this; rw [← this]; exact List.mem_cons_self
        exact (List.mem_filter.1 h2).1
      have hle : ∀ z ∈ Q, ¬ beforeB e z = true := fun z hz => p3 z hz e (by simp)
      generalize Q.foldl mergeStep [] = D at i1 i2 hcov hsub ⊢
      have hfil : ∀ x, ((Q ++ [e]).filter (sameB x)).head? = some x ↔ ((Q.filter (sameB x)).head? = some x ∨ (Q.filter (sameB x) = [] ∧ x = e)) := by
        intro x
        rw [List.filter_append]
        cases hq : Q.filter (sameB x) with
        | nil =>
          rw [List.nil_append, List.filter_cons, List.filter_nil]
          by_cases c : sameB x e = true
          · rw [if_pos c]
            simp
            exact ⟨fun h => h.symm, fun h => h.symm⟩
          · rw [if_neg c]
            simp
            intro h
            exact c (by rw [h]; exact same_iff.2 (Same.refl e))
        | cons a b => simp
      by_cases hD : D = []
      · subst hD
        have hQ : Q = [] := by
          cases Q with
          | nil => rfl
          | cons q Q => obtain ⟨z, hz, _⟩ := hcov q List.mem_cons_self; cases hz
        subst hQ
        refine ⟨by unfold mergeStep; simp [SSorted], fun x => ?_⟩
        rw [hfil x]
        unfold mergeStep
        simp
      · obtain ⟨D0, d, rfl⟩ : ∃ Q e, D = Q ++ [e] := ⟨D.dropLast, D.getLast hD, (List.dropLast_concat_getLast hD).symm⟩
        have hde : ¬ beforeB e d = true := hle d (hsub d (by simp))
        unfold mergeStep
        rw [lastE_snoc]
        by_cases c : Same d e
        · rw [if_pos ⟨by simp, by rw [c.1], c.2⟩]
          refine ⟨i1, fun x => ?_⟩
          rw [hfil x, i2 x]
          constructor
          · exact fun h => .inl h
          · rintro (h | ⟨h1, h2⟩)
            · exact h
            · exfalso
              have hd : d ∈ Q.filter (sameB x) := List.mem_filter.2 ⟨hsub d (by simp), same_iff.2 (h2 ▸ c.symm)⟩
              rw [h1] at hd; cases hd
        · have hlt : beforeB d e = true := by
            rcases lt_tri d e with f | f | f
            · exact f
            · exact absurd f c
            · exact absurd f hde
          rw [if_neg (fun h => c ⟨toList_inj h.2.1, h.2.2⟩)]
          have hall : ∀ z ∈ D0 ++ [d], beforeB z e = true := by
            intro z hz
            rcases List.mem_append.1 hz with f | f
            · exact lt_trans ((List.pairwise_append.1 i1).2.2 z f d (by simp)) hlt
            · rw [List.mem_singleton.1 f]; exact hlt
          refine ⟨List.pairwise_append.2 ⟨i1, List.pairwise_singleton _ _, fun z hz y hy => by rw [List.mem_singleton.1 hy]; exact hall z hz⟩, fun x => ?_⟩
          rw [hfil x, List.mem_append, i2 x]
          constructor
          · rintro (h | h)
            · exact .inl h
            · refine .inr ⟨?_, List.mem_singleton.1 h⟩
              rw [List.mem_singleton.1 h, List.filter_eq_nil_iff]
              intro y hy hye
              obtain ⟨z, hz, hzy⟩ := hcov y hy
              exact lt_not_same (hall z hz) (hzy.trans (same_iff.1 hye).symm)
          · rintro (h | ⟨_, h⟩)
            · exact .inl h
            · exact .inr (by rw [h]; simp)
  exact key M.length M rfl h
/-! ## The merged lists -/
def mergeR (ls : List (List Ent)) : List Ent := (mergedF ls (restF ls (List.replicate ls.length 0) + 1) (List.replicate ls.length 0)).foldl mergeStep []
theorem rep_getD (n i : Nat) : (List.replicate n 0).getD i 0 = 0 := by
  rw [List.getD_eq_getElem?_getD, List.getElem?_replicate]
  split <;> rfl
theorem rests_zero (ls : List (List Ent)) : rests ls (List.replicate ls.length 0) = ls := by
  apply List.ext_getElem
  · rw [rests_len]
  · intro i h1 h2
    rw [rests_get]
    unfold restAt rd_L4
    rw [rep_getD, List.drop_zero, Int.toNat_natCast, List.getD_eq_getElem?_getD, List.getElem?_eq_getElem h2]
    rfl
theorem mergeR_spec (ls : List (List Ent)) (hs : AllSorted ls) : SSorted (mergeR ls) ∧ ∀ x, x ∈ mergeR ls ↔ (ls.flatten.filter (sameB x)).head? = some x := by
  obtain ⟨h1, h2⟩ := merged_spec ls hs (restF ls (List.replicate ls.length 0) + 1) (List.replicate ls.length 0) ⟨by simp, fun i _ => by rw [rep_getD]; omega⟩ (by omega)
  obtain ⟨h3, h4⟩ := step_spec _ h2
  refine ⟨h3, fun x => ?_⟩
  unfold mergeR
  rw [h4 x, h1 x, rests_zero]
end Go.Proofs.Yteljlfodjbgejaa.Print
