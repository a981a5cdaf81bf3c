import Derived.Test.YteljlfodjbgejaaMergeGrp
import Derived.Test.YteljlfodjbgejaaFindLib
namespace Go.Proofs.Yteljlfodjbgejaa.Print
open Go.RowKit Go.Proofs.YteljlfodjbgejaaX Go.Proofs.YteljlfodjbgejaaW.PrintWords Go.Proofs.YteljlfodjbgejaaW.PrintLast
set_option linter.unusedVariables false
set_option linter.unusedSimpArgs false

/-! ## What is seen of a part -/
def upto (s : Int) (x : Ent) : Bool := decide (x.f1 ≤ s)
def seeG (s : Int) (g : List Ent) : List Ent := match g.find? (upto s) with
  | some x => if x.f2 = true then [] else [x]
  | none => []
theorem find_congr {α : Type} {p q : α → Bool} : ∀ (l : List α), (∀ x ∈ l, p x = q x) → l.find? p = l.find? q := by
  intro l
  induction l with
  | nil => intro _; rfl
  | cons x l ih =>
    intro h
    rw [List.find?_cons, List.find?_cons, h x List.mem_cons_self, ih (fun y hy => h y (List.mem_cons_of_mem _ hy))]
theorem kBig_eq : kBig = 1000002 := rfl
theorem findE_grp {g : List Ent} (hg : Grp g) (hl : g.length ≤ 1000000) (s : Int) : findE g s = some (match g.find? (upto s) with | some x => (x, true) | none => (⟨⟨#[]⟩, 0, false, ⟨#[]⟩⟩, false)) := by
  unfold findE
  have e0 : rd_T34 g 0 = gt g 0 := rd_gt g 0
  rw [e0, find_big g _ s (by omega) kBig (by rw [kBig_eq]; omega)]
  unfold findR
  have hc : g.find? (hit (gt g 0).f0 s) = g.find? (upto s) := by
    refine find_congr g (fun x hx => ?_)
    unfold hit upto
    rw [hg.2.1 x hx]
    simp
  rw [hc]
  cases g.find? (upto s) <;> rfl
theorem seeStep_grp {g : List Ent} (hg : Grp g) (hl : g.length ≤ 1000000) (s : Int) (out : List Ent) : seeStep s out g = out ++ seeG s g := by
  unfold seeStep seeG
  rw [findE_grp hg hl s]
  cases g.find? (upto s) with
  | none => simp
  | some x =>
    dsimp only
    cases x.f2 with
    | true => rw [if_pos rfl, if_pos rfl, List.append_nil]
    | false => rw [if_neg (by decide), if_neg (by decide)]
/-! ## What is kept of a part -/
def need (keep : List Int) (p x : Ent) : Bool := keep.any (fun s => decide (x.f1 ≤ s) && decide (s < p.f1))
def stayP (keep : List Int) : Ent → List Ent → List Ent
  | _, [] => []
  | p, x :: xs => if need keep p x = true then x :: stayP keep x xs else stayP keep x xs
def stayG (keep : List Int) : List Ent → List Ent
  | [] => []
  | x :: xs => x :: stayP keep x xs
def foldG (keep : List Int) (bottom : Bool) (g : List Ent) : List Ent := if bottom = true then tailF (stayG keep g).length (stayG keep g) else stayG keep g
theorem need_iff {keep : List Int} {p x : Ent} : need keep p x = true ↔ ∃ s ∈ keep, x.f1 ≤ s ∧ s < p.f1 := by
  unfold need
  rw [List.any_eq_true]
  constructor
  · rintro ⟨s, h1, h2⟩
    rw [Bool.and_eq_true, decide_eq_true_eq, decide_eq_true_eq] at h2
    exact ⟨s, h1, h2⟩
  · rintro ⟨s, h1, h2⟩
    exact ⟨s, h1, by rw [Bool.and_eq_true, decide_eq_true_eq, decide_eq_true_eq]; exact h2⟩
theorem marks_len (keep : List Int) (g : List Ent) : (marksF keep g).length = g.length := by
  unfold marksF
  have key : ∀ (ks : List Int) (bs : List Bool), (ks.foldl (markF g) bs).length = bs.length := by
    intro ks
    induction ks with
    | nil => intro bs; rfl
    | cons s ks ih => intro bs; rw [List.foldl_cons, ih, markF_len]
  rw [key, List.length_set, List.length_replicate]
/-- Which are marked. -/
theorem marks_iff (keep : List Int) (g : List Ent) (i : Nat) (hi : i < g.length) : (marksF keep g).getD i false = true ↔ i = 0 ∨ ∃ s ∈ keep, idxF (seqLe s) g 0 = (i : Int) := by
  unfold marksF
  have key : ∀ (ks : List Int) (bs : List Bool), bs.length = g.length → ((ks.foldl (markF g) bs).getD i false = true ↔ bs.getD i false = true ∨ ∃ s ∈ ks, idxF (seqLe s) g 0 = (i : Int)) := by
    intro ks
    induction ks with
    | nil => intro bs _; simp
    | cons s ks ih =>
      intro bs hb
      rw [List.foldl_cons, ih _ (by rw [markF_len]; exact hb)]
      have hm : (markF g bs s).getD i false = true ↔ bs.getD i false = true ∨ idxF (seqLe s) g 0 = (i : Int) := by
        unfold markF
        rcases idxF_range (seqLe s) g 0 with e | ⟨e1, e2⟩
        · rw [e, if_neg (by decide)]
          constructor
          · exact fun h => .inl h
          · rintro (h | h)
            · exact h
            · omega
        · obtain ⟨n, hn⟩ : ∃ n : Nat, idxF (seqLe s) g 0 = (n : Int) := ⟨(idxF (seqLe s) g 0).toNat, by omega⟩
          rw [hn, if_pos (by omega), Int.toNat_natCast]
          rw [List.getD_eq_getElem?_getD, List.getElem?_set]
          by_cases c : n = i
          · subst c
            rw [if_pos rfl, if_pos (by omega)]
            simp
          · rw [if_neg c, ← List.getD_eq_getElem?_getD]
            constructor
            · exact fun h => .inl h
            · rintro (h | h)
              · exact h
              · omega
      rw [hm]
      constructor
      · rintro ((h | h) | ⟨t, h1, h2⟩)
        · exact .inl h
        · exact .inr ⟨s, List.mem_cons_self, h⟩
        · exact .inr ⟨t, List.mem_cons_of_mem _ h1, h2⟩
      · rintro (h | ⟨t, h1, h2⟩)
        · exact .inl (.inl h)
        · rcases List.mem_cons.1 h1 with rfl | h1
          · exact .inl (.inr h2)
          · exact .inr ⟨t, h1, h2⟩
  rw [key keep _ (by rw [List.length_set, List.length_replicate])]
  rw [List.getD_eq_getElem?_getD, List.getElem?_set]
  by_cases c : i = 0
  · subst c
    rw [if_pos rfl, if_pos (by rw [List.length_replicate]; exact hi)]
    simp
  · rw [if_neg (fun e => c e.symm), List.getElem?_replicate, if_pos hi]
    simp [c]
theorem fall_gt {g : List Ent} (h : g.Pairwise (fun x y => y.f1 < x.f1)) {i j : Nat} (hij : i < j) (hj : j < g.length) : (gt g j).f1 < (gt g i).f1 := by
  rw [gt_get hj, gt_get (by omega)]
  exact List.pairwise_iff_getElem.1 h i j (by omega) hj hij
/-- In a falling part, the first one of at most s is the one whose elder is above. -/
theorem first_iff {g : List Ent} (h : g.Pairwise (fun x y => y.f1 < x.f1)) (s : Int) (i : Nat) (hi : i + 1 < g.length) : idxF (seqLe s) g 0 = ((i + 1 : Nat) : Int) ↔ (gt g (i + 1)).f1 ≤ s ∧ s < (gt g i).f1 := by
  rcases idxF_take (seqLe s) g 0 with ⟨h1, h2⟩ | ⟨n, hn, h1, h2, h3⟩
  · rw [h1]
    constructor
    · intro e; omega
    · rintro ⟨e1, _⟩
      have := h2 (gt g (i + 1)) (gt_mem hi)
      unfold seqLe at this
      rw [decide_eq_false_iff_not] at this
      exact absurd e1 this
  · rw [Nat.zero_add] at h1
    rw [h1]
    have h3' : (gt g n).f1 ≤ s := by rw [gt_get hn]; unfold seqLe at h3; rwa [decide_eq_true_eq] at h3
    have h2' : ∀ j, j < n → s < (gt g j).f1 := fun j hj => by
      have hm : gt g j ∈ g.take n := by
        rw [gt_get (by omega)]
        exact List.mem_take_iff_getElem.2 ⟨j, by omega, rfl⟩
      have := h2 _ hm
      unfold seqLe at this
      rw [decide_eq_false_iff_not] at this
      omega
    constructor
    · intro e
      have e' : n = i + 1 := by omega
      subst e'
      exact ⟨h3', h2' i (by omega)⟩
    · rintro ⟨e1, e2⟩
      rcases Nat.lt_trichotomy n (i + 1) with f | f | f
      · have : (gt g n).f1 ≤ s := h3'
        rcases Nat.lt_or_eq_of_le (Nat.le_of_lt_succ f) with f2 | f2
        · have := fall_gt h f2 (by omega : i < g.length); omega
        · rw [f2] at this; omega
      · rw [f]
      · have := h2' (i + 1) f; omega
theorem stay_suffix (keep : List Int) {g : List Ent} (hg : Grp g) : ∀ (n i : Nat), g.length - i = n → 0 < i → i ≤ g.length → stayF ((marksF keep g).drop i) (g.drop i) = stayP keep (gt g (i - 1)) (g.drop i) := by
  intro n
  induction n with
  | zero =>
    intro i hn h0 hi
    rw [List.drop_eq_nil_of_le (show g.length ≤ i by omega), List.drop_eq_nil_of_le (by rw [marks_len]; omega)]
    rfl
  | succ n ih =>
    intro i hn h0 hi
    have hlt : i < g.length := by omega
    rw [stay_drop _ _ i hlt (marks_len _ _), ih (i + 1) (by omega) (by omega) (by omega), Nat.add_sub_cancel]
    have hd : g.drop i = gt g i :: g.drop (i + 1) := by rw [List.drop_eq_getElem_cons hlt, gt_get hlt]
    rw [hd, rd_gt]
    simp only [stayP]
    have hm := marks_iff keep g i hlt
    have hw : (marksF keep g).getD i false = true ↔ need keep (gt g (i - 1)) (gt g i) = true := by
      rw [hm, need_iff]
      obtain ⟨j, rfl⟩ : ∃ j, i = j + 1 := ⟨i - 1, by omega⟩
      rw [Nat.add_sub_cancel]
      constructor
      · rintro (h | ⟨s, h1, h2⟩)
        · omega
        · exact ⟨s, h1, (first_iff hg.2.2 s j hlt).1 h2⟩
      · rintro ⟨s, h1, h2⟩
        exact .inr ⟨s, h1, (first_iff hg.2.2 s j hlt).2 h2⟩
    by_cases c : (marksF keep g).getD i false = true
    · rw [if_pos c, if_pos (hw.1 c)]; rfl
    · rw [if_neg c, if_neg (fun e => c (hw.2 e))]; rfl
theorem stay_grp (keep : List Int) {g : List Ent} (hg : Grp g) : stayF (marksF keep g) g = stayG keep g := by
  obtain ⟨h1, h2, h3⟩ := hg
  cases g with
  | nil => exact absurd rfl h1
  | cons x xs =>
    have h := stay_drop (marksF keep (x :: xs)) (x :: xs) 0 (by simp) (marks_len _ _)
    rw [List.drop_zero, List.drop_zero] at h
    rw [h, if_pos (marks0 keep (x :: xs) (by simp)), stay_suffix keep ⟨h1, h2, h3⟩ ((x :: xs).length - 1) 1 rfl (by omega) (by simp)]
    rfl
theorem foldStep_grp (keep : List Int) (bottom : Bool) {g : List Ent} (hg : Grp g) (out : List Ent) : foldStep keep bottom out g = out ++ foldG keep bottom g := by
  unfold foldStep foldG
  rw [stay_grp keep hg]
/-! ## What the parts have in common with what is kept of them -/
theorem stayP_sub (keep : List Int) : ∀ (xs : List Ent) (p : Ent), (stayP keep p xs).Sublist xs := by
  intro xs
  induction xs with
  | nil => intro p; exact List.Sublist.slnil
  | cons x xs ih =>
    intro p
    simp only [stayP]
    split
    · exact (ih x).cons_cons x
    · exact (ih x).cons x
theorem stayG_sub (keep : List Int) (g : List Ent) : (stayG keep g).Sublist g := by
  cases g with
  | nil => exact List.Sublist.slnil
  | cons x xs => exact (stayP_sub keep xs x).cons_cons x
/-- Where the tail of the dropped ones begins. -/
theorem tail_split : ∀ (m : Nat) (l : List Ent), l.length = m → ∃ d, l = tailF m l ++ d ∧ (∀ x ∈ d, x.f2 = true) ∧ (tailF m l = [] ∨ (lastE (tailF m l)).f2 = false) := by
  intro m
  induction m with
  | zero => intro l h; rw [List.length_eq_zero_iff.1 h]; exact ⟨[], rfl, (fun x hx => by cases hx), .inl rfl⟩
  | succ m ih =>
    intro l h
    simp only [tailF]
    have hne : l ≠ [] := fun e => by rw [e] at h; simp at h
    obtain ⟨l0, e, rfl⟩ : ∃ Q e, l = Q ++ [e] := ⟨l.dropLast, l.getLast hne, (List.dropLast_concat_getLast hne).symm⟩
    have hl0 : l0.length = m := by simpa using h
    have hlast : lastE (l0 ++ [e]) = e := by
      unfold lastE
      rw [List.length_append, List.length_singleton, show ((l0.length + 1 : Nat) : Int) - 1 = (l0.length : Int) by omega, rd_gt]
      unfold gt
      rw [List.getD_eq_getElem?_getD, List.getElem?_append_right (Nat.le_refl _), Nat.sub_self]
      rfl
    rw [hlast]
    by_cases c : e.f2 = true
    · rw [if_pos ⟨by omega, c⟩, h, Nat.add_sub_cancel, ← hl0, List.take_left, hl0]
      obtain ⟨d, h1, h2, h3⟩ := ih l0 hl0
      refine ⟨d ++ [e], ?_, fun x hx => ?_, h3⟩
      · rw [← List.append_assoc, ← h1]
      · rcases List.mem_append.1 hx with f | f
        · exact h2 x f
        · rw [List.mem_singleton.1 f]; exact c
    · rw [if_neg (fun f => c f.2)]
      exact ⟨[], by simp, (fun x hx => by cases hx), .inr (by rw [hlast]; exact Bool.eq_false_iff.2 c)⟩
theorem tail_prefix (l : List Ent) : tailF l.length l <+: l := by
  obtain ⟨d, h, _⟩ := tail_split l.length l rfl
  exact ⟨d, h.symm⟩
theorem foldG_sub (keep : List Int) (bottom : Bool) (g : List Ent) : (foldG keep bottom g).Sublist g := by
  unfold foldG
  split
  · exact (tail_prefix _).sublist.trans (stayG_sub keep g)
  · exact stayG_sub keep g
theorem grp_sub {g q : List Ent} (hg : Grp g) (hs : q.Sublist g) (hq : q ≠ []) : Grp q ∧ (gt q 0).f0 = (gt g 0).f0 := by
  have h0 : (gt q 0).f0 = (gt g 0).f0 := hg.2.1 _ (hs.subset (gt_mem (List.length_pos_iff.2 hq)))
  exact ⟨⟨hq, fun x hx => (hg.2.1 x (hs.subset hx)).trans h0.symm, hg.2.2.sublist hs⟩, h0⟩
/-- What is seen. -/
theorem stayP_find {keep : List Int} {s : Int} (hs : s ∈ keep) : ∀ (xs : List Ent) (p : Ent), s < p.f1 → (stayP keep p xs).find? (upto s) = xs.find? (upto s) := by
  intro xs
  induction xs with
  | nil => intro p _; rfl
  | cons x xs ih =>
    intro p hp
    simp only [stayP]
    by_cases c : x.f1 ≤ s
    · rw [if_pos (need_iff.2 ⟨s, hs, c, hp⟩), List.find?_cons, List.find?_cons, show upto s x = true from decide_eq_true c]
    · have hu : upto s x = false := decide_eq_false c
      have hi := ih x (by omega)
      split
      · rw [List.find?_cons, List.find?_cons, hu]; exact hi
      · rw [List.find?_cons, hu]; exact hi
theorem stayG_find {keep : List Int} {s : Int} {g : List Ent} (hs : s ∈ keep ∨ ∀ x ∈ g, x.f1 ≤ s) : (stayG keep g).find? (upto s) = g.find? (upto s) := by
  cases g with
  | nil => rfl
  | cons x xs =>
    simp only [stayG]
    rw [List.find?_cons, List.find?_cons]
    by_cases c : x.f1 ≤ s
    · rw [show upto s x = true from decide_eq_true c]
    · rw [show upto s x = false from decide_eq_false c]
      rcases hs with hs | hs
      · exact stayP_find hs xs x (by omega)
      · exact absurd (hs x List.mem_cons_self) c
theorem seeG_tail (s : Int) (l : List Ent) : seeG s (tailF l.length l) = seeG s l := by
  obtain ⟨d, h1, h2, _⟩ := tail_split l.length l rfl
  unfold seeG
  conv => rhs; rw [h1]
  rw [List.find?_append]
  cases (tailF l.length l).find? (upto s) with
  | some x => rfl
  | none =>
    rw [Option.none_or]
    cases hd : d.find? (upto s) with
    | none => rfl
    | some y =>
      have := h2 y (List.mem_of_find?_eq_some hd)
      dsimp only
      rw [if_pos this]
theorem seeG_fold {keep : List Int} {s : Int} {g : List Ent} (bottom : Bool) (hs : s ∈ keep ∨ ∀ x ∈ g, x.f1 ≤ s) : seeG s (foldG keep bottom g) = seeG s g := by
  have h : seeG s (stayG keep g) = seeG s g := by unfold seeG; rw [stayG_find hs]
  unfold foldG
  split
  · rw [seeG_tail, h]
  · exact h
/-- What was kept is kept. -/
def Chn (keep : List Int) : Ent → List Ent → Prop
  | _, [] => True
  | p, x :: xs => need keep p x = true ∧ Chn keep x xs
theorem chn_stay (keep : List Int) : ∀ (xs : List Ent) (p : Ent), Chn keep p xs → stayP keep p xs = xs := by
  intro xs
  induction xs with
  | nil => intro p _; rfl
  | cons x xs ih => intro p h; simp only [stayP]; rw [if_pos h.1, ih x h.2]
theorem chn_pre (keep : List Int) : ∀ (xs ys : List Ent) (p : Ent), Chn keep p (xs ++ ys) → Chn keep p xs := by
  intro xs
  induction xs with
  | nil => intro ys p _; trivial
  | cons x xs ih => intro ys p h; exact ⟨h.1, ih ys x h.2⟩
theorem stay_chn (keep : List Int) : ∀ (xs : List Ent) (p p' : Ent), p.f1 ≤ p'.f1 → (p :: xs).Pairwise (fun x y => y.f1 < x.f1) → Chn keep p' (stayP keep p xs) := by
  intro xs
  induction xs with
  | nil => intro p p' _ _; trivial
  | cons x xs ih =>
    intro p p' hp h
    obtain ⟨a1, a2⟩ := List.pairwise_cons.1 h
    have hx := a1 x List.mem_cons_self
    simp only [stayP]
    by_cases c : need keep p x = true
    · rw [if_pos c]
      obtain ⟨s, h1, h2, h3⟩ := need_iff.1 c
      exact ⟨need_iff.2 ⟨s, h1, h2, by omega⟩, ih x x (Int.le_refl _) a2⟩
    · rw [if_neg c]
      exact ih x p' (by omega) a2
theorem tail_self (l : List Ent) (h : l = [] ∨ (lastE l).f2 = false) : tailF l.length l = l := by
  cases hn : l.length with
  | zero => rfl
  | succ n =>
    simp only [tailF]
    rw [if_neg]
    rintro ⟨_, e⟩
    rcases h with rfl | h
    · simp at hn
    · rw [h] at e; cases e
theorem foldG_again (keep : List Int) (bottom : Bool) {g : List Ent} (hg : Grp g) : foldG keep bottom (foldG keep bottom g) = foldG keep bottom g := by
  obtain ⟨h1, _, h3⟩ := hg
  cases g with
  | nil => exact absurd rfl h1
  | cons x xs =>
    have hc : Chn keep x (stayP keep x xs) := stay_chn keep xs x x (Int.le_refl _) h3
    unfold foldG
    cases bottom with
    | false =>
      rw [if_neg (by decide), if_neg (by decide)]
      simp only [stayG]
      rw [chn_stay keep _ x hc]
    | true =>
      rw [if_pos rfl, if_pos rfl]
      obtain ⟨d, e1, e2, e3⟩ := tail_split (stayG keep (x :: xs)).length (stayG keep (x :: xs)) rfl
      generalize tailF (stayG keep (x :: xs)).length (stayG keep (x :: xs)) = t at e1 e3 ⊢
      have hst : stayG keep t = t := by
        cases t with
        | nil => rfl
        | cons y ys =>
          simp only [stayG, List.cons_append, List.cons.injEq] at e1
          obtain ⟨rfl, e1⟩ := e1
          rw [e1] at hc
          simp only [stayG]
          rw [chn_stay keep _ _ (chn_pre keep _ _ _ hc)]
      rw [hst]
      exact tail_self t e3
/-- With nothing kept there is no more. -/
theorem foldG_less (keep : List Int) (bottom : Bool) {g : List Ent} (hg : Grp g) : (foldG [] bottom g).length ≤ (foldG keep bottom g).length := by
  cases g with
  | nil => exact absurd rfl hg.1
  | cons x xs =>
    have h0 : stayP [] x xs = [] := by
      have : ∀ (xs : List Ent) (p : Ent), stayP [] p xs = [] := by
        intro xs
        induction xs with
        | nil => intro p; rfl
        | cons x xs ih => intro p; simp only [stayP]; rw [if_neg (by simp [need]), ih]
      exact this xs x
    unfold foldG
    simp only [stayG]
    rw [h0]
    cases bottom with
    | false => rw [if_neg (by decide), if_neg (by decide)]; simp
    | true =>
      rw [if_pos rfl, if_pos rfl]
      show (tailF 1 [x]).length ≤ _
      simp only [tailF]
      have hl : lastE [x] = x := rfl
      rw [hl]
      by_cases c : x.f2 = true
      · rw [if_pos ⟨by simp, c⟩]; simp [tailF]
      · rw [if_neg (fun e => c e.2)]
        obtain ⟨d, e1, e2, e3⟩ := tail_split (x :: stayP keep x xs).length (x :: stayP keep x xs) rfl
        generalize tailF (x :: stayP keep x xs).length (x :: stayP keep x xs) = t at e1 ⊢
        cases t with
        | nil =>
          exfalso
          rw [List.nil_append] at e1
          exact c (e2 x (by rw [← e1]; exact List.mem_cons_self))
        | cons y ys => simp
end Go.Proofs.Yteljlfodjbgejaa.Print
