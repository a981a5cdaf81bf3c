import Derived.Test.YteljlfodjbgejaaMergeSel
import Derived.Test.YteljlfodjbgejaaMergeFoldP
import Derived.Test.YteljlfodjbgejaaPrint6
namespace Go.Proofs.Yteljlfodjbgejaa.Print
open Go.RowKit Go.Proofs.YteljlfodjbgejaaX Go.Proofs.YteljlfodjbgejaaW.PrintWords Go.Proofs.YteljlfodjbgejaaW.PrintLast
set_option linter.unusedVariables false
set_option linter.unusedSimpArgs false

/-! ## What Fold, See and Merge come to -/
def grps (l : List Ent) : List (List Ent) := groupsF l.length l
theorem grps_flat (l : List Ent) : (grps l).flatten = l := groups_flat _ _ (Nat.le_refl _)
theorem grps_ok {l : List Ent} (h : SSorted l) : GrpsOk (grps l) := groups_ok _ _ (Nat.le_refl _) h
theorem grps_of {gs : List (List Ent)} (h : GrpsOk gs) : grps gs.flatten = gs := groups_of gs _ h (Nat.le_refl _)
theorem grp_len {l g : List Ent} (h : g ∈ grps l) : g.length ≤ l.length := by
  have hs : g.Sublist (grps l).flatten := List.sublist_flatten_of_mem h
  rw [grps_flat] at hs
  exact hs.length_le
def foldR (keep : List Int) (bottom : Bool) (l : List Ent) : List Ent := (grps l).flatMap (foldG keep bottom)
def seeR (s : Int) (l : List Ent) : List Ent := (grps l).flatMap (seeG s)
theorem foldl_flat {f : List Ent → List Ent → List Ent} {h : List Ent → List Ent} : ∀ (gs : List (List Ent)) (out : List Ent), (∀ g ∈ gs, ∀ o, f o g = o ++ h g) → gs.foldl f out = out ++ gs.flatMap h := by
  intro gs
  induction gs with
  | nil => intro out _; simp
  | cons g gs ih =>
    intro out hh
    rw [List.foldl_cons, hh g List.mem_cons_self, ih _ (fun x hx => hh x (List.mem_cons_of_mem _ hx)), List.flatMap_cons, List.append_assoc]
theorem ss_of {l : List Ent} (h : sortedB l = true) : SSorted l := ((sorted_iff l).1 h).2
theorem sorted_k (l : List Ent) (hl : l.length ≤ 1000000) : block_Sorted.f kBig l = some (sortedB l) := sorted_big l (by omega) kBig (by rw [kBig_eq]; omega)
theorem fold_val (l : List Ent) (keep : List Int) (bottom : Bool) (hl : l.length ≤ 1000000) (hk : keep.length ≤ 4611686018427387904) : merge_Fold.f l keep bottom = some (if sortedB l = true then (foldR keep bottom l, none) else ([], some 1)) := by
  unfold merge_Fold.f
  rw [if_pos ⟨hl, hk, by rw [sorted_k l hl]; rfl⟩, sorted_k l hl]
  cases hs : sortedB l with
  | false => rw [if_pos (show (some false).getD false = false from rfl), if_neg (by decide)]
  | true =>
    rw [if_neg (show ¬ (some true).getD false = false by decide), if_pos rfl]
    have h := foldl_flat (f := foldStep keep bottom) (h := foldG keep bottom) (groupsF l.length l) [] (fun g hg o => foldStep_grp keep bottom ((grps_ok (ss_of hs)).1 g hg) o)
    rw [h]; rfl
theorem findE_some (g : List Ent) (hl : g.length ≤ 1000000) (s : Int) : (findE g s).isSome = true := by
  unfold findE
  rw [find_big g _ s (by omega) kBig (by rw [kBig_eq]; omega)]
  rfl
theorem see_val (l : List Ent) (s : Int) (hl : l.length ≤ 1000000) : merge_See.f l s = some (if sortedB l = true then (seeR s l, none) else ([], some 1)) := by
  unfold merge_See.f
  rw [if_pos ⟨hl, by rw [sorted_k l hl]; rfl, by rw [List.all_eq_true]; exact fun g hg => findE_some g (by have := grp_len (l := l) hg; omega) s⟩, sorted_k l hl]
  cases hs : sortedB l with
  | false => rw [if_pos (show (some false).getD false = false from rfl), if_neg (by decide)]
  | true =>
    rw [if_neg (show ¬ (some true).getD false = false by decide), if_pos rfl]
    have h := foldl_flat (f := seeStep s) (h := seeG s) (groupsF l.length l) [] (fun g hg o => seeStep_grp ((grps_ok (ss_of hs)).1 g hg) (by have := grp_len (l := l) hg; omega) s o)
    rw [h]; rfl
theorem rest_le : ∀ (ls : List (List Ent)) (ks : List Nat), (∀ l ∈ ls, l.length ≤ 1000) → restF ls ks ≤ ls.length * 1000 := by
  intro ls
  induction ls with
  | nil => intro ks _; cases ks <;> simp [restF]
  | cons l ls ih =>
    intro ks h
    cases ks with
    | nil => simp [restF]
    | cons k ks =>
      have h1 := ih ks (fun x hx => h x (List.mem_cons_of_mem _ hx))
      have h2 := h l List.mem_cons_self
      simp only [restF, List.length_cons]
      omega
theorem merge_val (ls : List (List Ent)) (hl : ls.length ≤ 1000) (hx : ∀ l ∈ ls, l.length ≤ 1000) : merge_Merge.f ls = some (if ls.all sortedB = true then (mergeR ls, none) else ([], some 1)) := by
  unfold merge_Merge.f
  have hsk : ∀ l ∈ ls, block_Sorted.f kBig l = some (sortedB l) := fun l h => sorted_k l (by have := hx l h; omega)
  have h1 : ls.all (fun x => decide (x.length ≤ 1000) && (block_Sorted.f kBig x).isSome) = true := by
    rw [List.all_eq_true]
    intro l h
    rw [hsk l h, decide_eq_true (hx l h)]; rfl
  rw [if_pos ⟨hl, h1, by have := rest_le ls (List.replicate ls.length 0) hx; omega⟩]
  have h2 : ls.any (fun x => !((block_Sorted.f kBig x).getD false)) = !(ls.all sortedB) := by
    rw [Bool.eq_iff_iff, List.any_eq_true, Bool.not_eq_true', ← Bool.not_eq_true, List.all_eq_true]
    constructor
    · rintro ⟨l, h, e⟩ hall
      rw [hsk l h, hall l h] at e
      cases e
    · intro h
      apply Classical.byContradiction
      intro hn
      refine h (fun l hl' => ?_)
      apply Classical.byContradiction
      intro hs
      exact hn ⟨l, hl', by rw [hsk l hl']; simpa using hs⟩
  rw [h2]
  cases ls.all sortedB with
  | true => rw [if_neg (by decide), if_pos rfl]; rfl
  | false => rw [if_pos (by decide), if_neg (by decide)]
theorem allSorted_of {ls : List (List Ent)} (h : ls.all sortedB = true) : AllSorted ls := by
  intro i hi
  rw [List.all_eq_true] at h
  refine ss_of (h _ ?_)
  unfold rd_L4
  rw [Int.toNat_natCast, List.getD_eq_getElem?_getD, List.getElem?_eq_getElem hi]
  exact List.getElem_mem hi
/-! ## What is kept is sorted -/
theorem fold_grps (keep : List Int) (bottom : Bool) {gs : List (List Ent)} (h : GrpsOk gs) : GrpsOk ((gs.map (foldG keep bottom)).filter (fun g => !g.isEmpty)) := by
  induction gs with
  | nil => exact ⟨(fun g hg => by cases hg), List.Pairwise.nil⟩
  | cons g gs ih =>
    obtain ⟨h1, h2⟩ := h
    obtain ⟨b1, b2⟩ := List.pairwise_cons.1 h2
    obtain ⟨i1, i2⟩ := ih ⟨fun x hx => h1 x (List.mem_cons_of_mem _ hx), b2⟩
    rw [List.map_cons, List.filter_cons]
    by_cases c : foldG keep bottom g = []
    · rw [c]; exact ⟨i1, i2⟩
    · rw [if_pos (by cases hq : foldG keep bottom g with | nil => exact absurd hq c | cons => rfl)]
      obtain ⟨q1, q2⟩ := grp_sub (h1 g List.mem_cons_self) (foldG_sub keep bottom g) c
      refine ⟨fun x hx => ?_, List.Pairwise.cons (fun y hy => ?_) i2⟩
      · rcases List.mem_cons.1 hx with rfl | hx
        · exact q1
        · exact i1 x hx
      · obtain ⟨hy1, hy2⟩ := List.mem_filter.1 hy
        obtain ⟨z, hz, rfl⟩ := List.mem_map.1 hy1
        have hne : foldG keep bottom z ≠ [] := fun e => by rw [e] at hy2; cases hy2
        rw [q2, (grp_sub (h1 z (List.mem_cons_of_mem _ hz)) (foldG_sub keep bottom z) hne).2]
        exact b1 z hz
theorem flat_filter (gs : List (List Ent)) : (gs.filter (fun g => !g.isEmpty)).flatten = gs.flatten := by
  induction gs with
  | nil => rfl
  | cons g gs ih =>
    rw [List.filter_cons]
    cases g with
    | nil => simpa using ih
    | cons x xs => rw [if_pos (show (!(x :: xs).isEmpty) = true from rfl), List.flatten_cons, List.flatten_cons, ih]
theorem foldR_grps (keep : List Int) (bottom : Bool) {l : List Ent} (h : SSorted l) : grps (foldR keep bottom l) = ((grps l).map (foldG keep bottom)).filter (fun g => !g.isEmpty) := by
  have hg := fold_grps keep bottom (grps_ok h)
  rw [← grps_of hg, flat_filter, ← List.flatMap_def]
  rfl
theorem foldR_sorted (keep : List Int) (bottom : Bool) {l : List Ent} (h : sortedB l = true) : sortedB (foldR keep bottom l) = true := by
  obtain ⟨h1, h2⟩ := (sorted_iff l).1 h
  have hs : (foldR keep bottom l).Sublist l := by
    conv => rhs; rw [← grps_flat l]
    unfold foldR
    generalize grps l = gs
    induction gs with
    | nil => exact List.Sublist.slnil
    | cons g gs ih => rw [List.flatMap_cons, List.flatten_cons]; exact (foldG_sub keep bottom g).append ih
  exact (sorted_iff _).2 ⟨fun x hx => h1 x (hs.subset hx), h2.sublist hs⟩
theorem foldR_sub (keep : List Int) (bottom : Bool) (l : List Ent) : (foldR keep bottom l).Sublist l := by
  conv => rhs; rw [← grps_flat l]
  unfold foldR
  generalize grps l = gs
  induction gs with
  | nil => exact List.Sublist.slnil
  | cons g gs ih => rw [List.flatMap_cons, List.flatten_cons]; exact (foldG_sub keep bottom g).append ih
theorem flatMap_filter {h : List Ent → List Ent} (h0 : h [] = []) (gs : List (List Ent)) : (gs.filter (fun g => !g.isEmpty)).flatMap h = gs.flatMap h := by
  induction gs with
  | nil => rfl
  | cons g gs ih =>
    rw [List.filter_cons]
    cases g with
    | nil => rw [List.flatMap_cons, h0, List.nil_append]; simpa using ih
    | cons x xs => rw [if_pos (show (!(x :: xs).isEmpty) = true from rfl), List.flatMap_cons, List.flatMap_cons, ih]
/-- What is seen of what was kept. -/
theorem see_fold (keep : List Int) (bottom : Bool) (s : Int) {l : List Ent} (h : SSorted l) (hs : s ∈ keep ∨ ∀ x ∈ l, x.f1 ≤ s) : seeR s (foldR keep bottom l) = seeR s l := by
  unfold seeR
  rw [foldR_grps keep bottom h, flatMap_filter rfl, List.flatMap_map]
  have hall : ∀ g ∈ grps l, seeG s (foldG keep bottom g) = seeG s g := fun g hg => seeG_fold bottom (hs.imp_right (fun hx x hxg => hx x (by rw [← grps_flat l]; exact List.mem_flatten.2 ⟨g, hg, hxg⟩)))
  generalize grps l = gs at hall
  induction gs with
  | nil => rfl
  | cons g gs ih => rw [List.flatMap_cons, List.flatMap_cons, hall g List.mem_cons_self, ih (fun x hx => hall x (List.mem_cons_of_mem _ hx))]
theorem fold_fold (keep : List Int) (bottom : Bool) {l : List Ent} (h : SSorted l) : foldR keep bottom (foldR keep bottom l) = foldR keep bottom l := by
  have h0 : foldG keep bottom [] = [] := by unfold foldG; cases bottom <;> rfl
  have e : foldR keep bottom (foldR keep bottom l) = (grps (foldR keep bottom l)).flatMap (foldG keep bottom) := rfl
  rw [e, foldR_grps keep bottom h, flatMap_filter h0, List.flatMap_map]
  unfold foldR
  have hall : ∀ g ∈ grps l, foldG keep bottom (foldG keep bottom g) = foldG keep bottom g := fun g hg => foldG_again keep bottom ((grps_ok h).1 g hg)
  generalize grps l = gs at hall
  induction gs with
  | nil => rfl
  | cons g gs ih => rw [List.flatMap_cons, List.flatMap_cons, hall g List.mem_cons_self, ih (fun x hx => hall x (List.mem_cons_of_mem _ hx))]
theorem fold_less (keep : List Int) (bottom : Bool) {l : List Ent} (h : SSorted l) : (foldR [] bottom l).length ≤ (foldR keep bottom l).length := by
  unfold foldR
  have hall : ∀ g ∈ grps l, (foldG [] bottom g).length ≤ (foldG keep bottom g).length := fun g hg => foldG_less keep bottom ((grps_ok h).1 g hg)
  generalize grps l = gs at hall
  induction gs with
  | nil => exact Nat.le_refl _
  | cons g gs ih =>
    have h1 := hall g List.mem_cons_self
    have h2 := ih (fun x hx => hall x (List.mem_cons_of_mem _ hx))
    rw [List.flatMap_cons, List.flatMap_cons, List.length_append, List.length_append]
    omega
/-! ## The chapter's examples -/
def xA5 : Ent := ⟨⟨#[97]⟩, 5, false, ⟨#[]⟩⟩
def xA3 : Ent := ⟨⟨#[97]⟩, 3, false, ⟨#[]⟩⟩
def xA1 : Ent := ⟨⟨#[97]⟩, 1, false, ⟨#[]⟩⟩
def xD5 : Ent := ⟨⟨#[97]⟩, 5, true, ⟨#[]⟩⟩
def xB9 : Ent := ⟨⟨#[98]⟩, 9, false, ⟨#[]⟩⟩
def xB1 : Ent := ⟨⟨#[98]⟩, 1, false, ⟨#[]⟩⟩
theorem ex_s1 : sortedB [xA5, xA3, xA1] = true := by
  unfold sortedB sAt rightB beforeB bless xA5 xA3 xA1
  simp only [ByteArray.toList_eq]
  decide +kernel
theorem ex_s2 : sortedB [xD5, xA3] = true := by
  unfold sortedB sAt rightB beforeB bless xD5 xA3
  simp only [ByteArray.toList_eq]
  decide +kernel
theorem ex_s3 : sortedB [xD5, xA3, xB9] = true := by
  unfold sortedB sAt rightB beforeB bless xD5 xA3 xB9
  simp only [ByteArray.toList_eq]
  decide +kernel
theorem ex_s4 : ([[xB1], [xA1]] : List (List Ent)).all sortedB = true := by
  unfold sortedB sAt rightB beforeB bless xB1 xA1
  simp only [ByteArray.toList_eq]
  decide +kernel
theorem grp_1 (x : Ent) : Grp [x] := ⟨by simp, fun y hy => by rw [List.mem_singleton.1 hy]; rfl, List.pairwise_singleton _ _⟩
theorem ex_g1 : Grp [xA5, xA3, xA1] := ⟨by simp, fun y hy => by
    simp only [List.mem_cons, List.not_mem_nil, or_false] at hy
    rcases hy with rfl | rfl | rfl <;> rfl, by simp [xA5, xA3, xA1]⟩
theorem ex_g2 : Grp [xD5, xA3] := ⟨by simp, fun y hy => by
    simp only [List.mem_cons, List.not_mem_nil, or_false] at hy
    rcases hy with rfl | rfl <;> rfl, by simp [xD5, xA3]⟩
theorem ok_1 {g : List Ent} (h : Grp g) : GrpsOk [g] := ⟨fun x hx => by rw [List.mem_singleton.1 hx]; exact h, List.pairwise_singleton _ _⟩
theorem ex_f1 : foldR [4, 4] false [xA5, xA3, xA1] = [xA5, xA3] := by
  have h := grps_of (ok_1 ex_g1)
  rw [List.flatten_singleton] at h
  unfold foldR
  rw [h]
  rfl
theorem ex_f2 : foldR [] true [xD5, xA3] = [] := by
  have h := grps_of (ok_1 ex_g2)
  rw [List.flatten_singleton] at h
  unfold foldR
  rw [h]
  rfl
theorem ex_f3 : seeR 4 [xD5, xA3, xB9] = [xA3] := by
  have hb : bless (gt [xD5, xA3] 0).f0 (gt [xB9] 0).f0 = true := by
    show Op.bytesLess (ByteArray.toList ⟨#[97]⟩) (ByteArray.toList ⟨#[98]⟩) = true
    simp only [ByteArray.toList_eq]
    decide +kernel
  have hok : GrpsOk [[xD5, xA3], [xB9]] := ⟨fun x hx => by
      simp only [List.mem_cons, List.not_mem_nil, or_false] at hx
      rcases hx with rfl | rfl
      · exact ex_g2
      · exact grp_1 _, List.Pairwise.cons (fun y hy => by rw [List.mem_singleton.1 hy]; exact hb) (List.pairwise_singleton _ _)⟩
  have h := grps_of hok
  have e : ([[xD5, xA3], [xB9]] : List (List Ent)).flatten = [xD5, xA3, xB9] := rfl
  rw [e] at h
  unfold seeR
  rw [h]
  rfl
theorem ex_f4 : mergeR [[xB1], [xA1]] = [xA1, xB1] := by
  obtain ⟨h1, h2⟩ := mergeR_spec [[xB1], [xA1]] (allSorted_of ex_s4)
  have hb : beforeB xA1 xB1 = true := by
    unfold beforeB bless xA1 xB1
    simp only [ByteArray.toList_eq]
    decide +kernel
  refine ssorted_ext _ _ h1 (List.Pairwise.cons (fun y hy => by rw [List.mem_singleton.1 hy]; exact hb) (List.pairwise_singleton _ _)) (fun x => ?_)
  rw [h2 x]
  have e : ([[xB1], [xA1]] : List (List Ent)).flatten = [xB1, xA1] := rfl
  rw [e]
  constructor
  · intro h
    have hm : x ∈ ([xB1, xA1].filter (sameB x)) := List.mem_of_mem_head? h
    rcases List.mem_cons.1 (List.mem_filter.1 hm).1 with rfl | f
    · simp
    · rw [List.mem_singleton.1 f]; simp
  · intro h
    rcases List.mem_cons.1 h with rfl | f
    · have hn : sameB xA1 xB1 = false := by
        cases hs : sameB xA1 xB1 with
        | false => rfl
        | true => exact absurd (same_iff.1 hs) (lt_not_same hb)
      rw [List.filter_cons, hn, if_neg (by decide), List.filter_cons, if_pos (same_iff.2 (Same.refl _))]
      rfl
    · rw [List.mem_singleton.1 f, List.filter_cons, if_pos (same_iff.2 (Same.refl _))]
      rfl
theorem examples_val : palinodelaw15_examples.f = some true := by
  unfold palinodelaw15_examples.f
  have e1 : merge_Fold.f [xA5, xA3, xA1] [4, 4] false = some ([xA5, xA3], none) := by rw [fold_val _ _ _ (by simp) (by simp), if_pos ex_s1, ex_f1]
  have e2 : merge_Fold.f [xD5, xA3] [] true = some ([], none) := by rw [fold_val _ _ _ (by simp) (by simp), if_pos ex_s2, ex_f2]
  have e3 : merge_See.f [xD5, xA3, xB9] 4 = some ([xA3], none) := by rw [see_val _ _ (by simp), if_pos ex_s3, ex_f3]
  have e4 : merge_Merge.f [[xB1], [xA1]] = some ([xA1, xB1], none) := by rw [merge_val _ (by simp) (by simp), if_pos ex_s4, ex_f4]
  unfold xA5 xA3 xA1 at e1
  unfold xD5 xA3 at e2
  unfold xD5 xA3 xB9 at e3
  unfold xA1 xB1 at e4
  rw [e1, Option.bind_some, e2, Option.bind_some, e3, Option.bind_some, e4, Option.bind_some]
  have hk : (ByteArray.toList ⟨#[97]⟩) = ([97] : List UInt8) := by rw [ByteArray.toList_eq]
  simp [rd_T34, hk]
end Go.Proofs.Yteljlfodjbgejaa.Print
