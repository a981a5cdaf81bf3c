import Derived.Test.YteljlfodjbgejaaEntLib
import Derived.Test.YteljlfodjbgejaaHMergeSee
import Derived.Test.YteljlfodjbgejaaPrint5
namespace Go.Proofs.Yteljlfodjbgejaa.Print
open Go.RowKit Go.Proofs.YteljlfodjbgejaaX Go.Proofs.YteljlfodjbgejaaW.PrintWords Go.Proofs.YteljlfodjbgejaaW.PrintLast
set_option linter.unusedVariables false
set_option linter.unusedSimpArgs false

/-! ## The order of entries -/
theorem toList_inj {a b : ByteArray} (h : a.toList = b.toList) : a = b := by
  have h1 : a.data = b.data := by
    apply Array.ext'
    rw [toList_data, toList_data]; exact h
  cases a; cases b
  simp at h1
  rw [h1]
theorem lt_iff {x y : Ent} : beforeB x y = true ↔ bless x.f0 y.f0 = true ∨ (x.f0 = y.f0 ∧ y.f1 < x.f1) := by
  unfold beforeB
  rw [Bool.or_eq_true, Bool.and_eq_true, beq_iff_eq, decide_eq_true_eq]
  constructor
  · rintro (h | ⟨h1, h2⟩)
    · exact .inl h
    · exact .inr ⟨toList_inj h1, h2⟩
  · rintro (h | ⟨h1, h2⟩)
    · exact .inl h
    · exact .inr ⟨by rw [h1], h2⟩
theorem bless_irr (a : ByteArray) : ¬ bless a a = true := by unfold bless; rw [bl_irr]; decide
theorem bless_trans {a b c : ByteArray} (h1 : bless a b = true) (h2 : bless b c = true) : bless a c = true := bl_trans h1 h2
theorem lt_irr (x : Ent) : ¬ beforeB x x = true := by
  rw [lt_iff]
  rintro (h | ⟨_, h⟩)
  · exact bless_irr _ h
  · omega
theorem lt_trans {x y z : Ent} (h1 : beforeB x y = true) (h2 : beforeB y z = true) : beforeB x z = true := by
  rw [lt_iff] at h1 h2 ⊢
  rcases h1 with h1 | ⟨h1, h1'⟩ <;> rcases h2 with h2 | ⟨h2, h2'⟩
  · exact .inl (bless_trans h1 h2)
  · exact .inl (h2 ▸ h1)
  · exact .inl (h1 ▸ h2)
  · exact .inr ⟨h1.trans h2, by omega⟩
theorem lt_asym {x y : Ent} (h : beforeB x y = true) : ¬ beforeB y x = true := fun h2 => lt_irr _ (lt_trans h h2)
def Same (x y : Ent) : Prop := x.f0 = y.f0 ∧ x.f1 = y.f1
theorem Same.symm {x y : Ent} (h : Same x y) : Same y x := ⟨h.1.symm, h.2.symm⟩
theorem Same.trans {x y z : Ent} (h : Same x y) (k : Same y z) : Same x z := ⟨h.1.trans k.1, h.2.trans k.2⟩
theorem Same.refl (x : Ent) : Same x x := ⟨rfl, rfl⟩
theorem lt_tri (x y : Ent) : beforeB x y = true ∨ Same x y ∨ beforeB y x = true := by
  rw [lt_iff, lt_iff]
  rcases bl_tri x.f0.toList y.f0.toList with h | h | h
  · exact .inl (.inl h)
  · have e := toList_inj h
    rcases Int.lt_trichotomy x.f1 y.f1 with g | g | g
    · exact .inr (.inr (.inr ⟨e.symm, g⟩))
    · exact .inr (.inl ⟨e, g⟩)
    · exact .inl (.inr ⟨e, g⟩)
  · exact .inr (.inr (.inl h))
theorem lt_same_l {x y z : Ent} (h : Same x y) (k : beforeB y z = true) : beforeB x z = true := by
  rw [lt_iff] at k ⊢
  rw [h.1, h.2]; exact k
theorem lt_same_r {x y z : Ent} (h : beforeB x y = true) (k : Same y z) : beforeB x z = true := by
  rw [lt_iff] at h ⊢
  rw [← k.1, ← k.2]; exact h
theorem lt_not_same {x y : Ent} (h : beforeB x y = true) : ¬ Same x y := fun e => lt_irr _ (lt_same_r h e.symm)
theorem not_lt {x y : Ent} (h : ¬ beforeB x y = true) : Same x y ∨ beforeB y x = true := (lt_tri x y).resolve_left h
def sameB (x y : Ent) : Bool := x.f0.toList == y.f0.toList && x.f1 == y.f1
theorem same_iff {x y : Ent} : sameB x y = true ↔ Same x y := by
  unfold sameB Same
  rw [Bool.and_eq_true, beq_iff_eq, beq_iff_eq]
  exact ⟨fun h => ⟨toList_inj h.1, h.2⟩, fun h => ⟨by rw [h.1], h.2⟩⟩
theorem bfE_before (x y : S34) : bfE x y = beforeB x y := by unfold bfE; rw [before_eq]; rfl
/-! ## Sorted lists -/
def SSorted (l : List Ent) : Prop := l.Pairwise (fun x y => beforeB x y = true)
theorem sorted_cons (x : Ent) (l : List Ent) : sortedB (x :: l) = true ↔ rightB x = true ∧ sortedB l = true ∧ (l = [] ∨ beforeB x (gt l 0) = true) := by
  rw [sorted_parts (x :: l) 1 (by simp)]
  simp only [List.take_succ_cons, List.take_zero, List.drop_succ_cons, List.drop_zero]
  have h1 : sortedB [x] = rightB x := by
    unfold sortedB
    simp [sAt, gt]
  rw [h1, Bool.and_eq_true, Bool.and_eq_true, Bool.or_eq_true, Bool.or_eq_true, decide_eq_true_eq, decide_eq_true_eq]
  have h2 : gt (x :: l) (1 - 1) = x := rfl
  have h3 : gt (x :: l) 1 = gt l 0 := rfl
  rw [h2, h3]
  constructor
  · rintro ⟨⟨a, b⟩, c⟩
    refine ⟨a, b, ?_⟩
    rcases c with (c | c) | c
    · omega
    · left; apply List.length_eq_zero_iff.1; simp at c; simp [c]
    · exact .inr c
  · rintro ⟨a, b, c⟩
    refine ⟨⟨a, b⟩, ?_⟩
    rcases c with rfl | c
    · exact .inl (.inr rfl)
    · exact .inr c
theorem sorted_iff (l : List Ent) : sortedB l = true ↔ (∀ x ∈ l, rightB x = true) ∧ SSorted l := by
  induction l with
  | nil => exact ⟨fun _ => ⟨(fun x hx => by cases hx), List.Pairwise.nil⟩, fun _ => rfl⟩
  | cons x l ih =>
    rw [sorted_cons, ih]
    constructor
    · rintro ⟨a, ⟨b, c⟩, d⟩
      refine ⟨fun y hy => ?_, List.Pairwise.cons (fun y hy => ?_) c⟩
      · rcases List.mem_cons.1 hy with rfl | hy
        · exact a
        · exact b y hy
      · cases l with
        | nil => cases hy
        | cons z l =>
          have hz : beforeB x z = true := d.resolve_left (by simp)
          rcases List.mem_cons.1 hy with rfl | hy
          · exact hz
          · exact lt_trans hz ((List.pairwise_cons.1 c).1 y hy)
    · rintro ⟨a, c⟩
      obtain ⟨c1, c2⟩ := List.pairwise_cons.1 c
      refine ⟨a x List.mem_cons_self, ⟨fun y hy => a y (List.mem_cons_of_mem _ hy), c2⟩, ?_⟩
      cases l with
      | nil => exact .inl rfl
      | cons z l => exact .inr (c1 z List.mem_cons_self)
/-- Two sorted lists of the same entries are one. -/
theorem ssorted_ext : ∀ (l m : List Ent), SSorted l → SSorted m → (∀ x, x ∈ l ↔ x ∈ m) → l = m := by
  intro l
  induction l with
  | nil =>
    intro m _ _ h
    cases m with
    | nil => rfl
    | cons y m => exact absurd ((h y).2 List.mem_cons_self) (by simp)
  | cons x l ih =>
    intro m hl hm h
    cases m with
    | nil => exact absurd ((h x).1 List.mem_cons_self) (by simp)
    | cons y m =>
      obtain ⟨a1, a2⟩ := List.pairwise_cons.1 hl
      obtain ⟨b1, b2⟩ := List.pairwise_cons.1 hm
      have e : x = y := by
        rcases List.mem_cons.1 ((h x).1 List.mem_cons_self) with e | e
        · exact e
        · rcases List.mem_cons.1 ((h y).2 List.mem_cons_self) with f | f
          · exact f.symm
          · exact absurd (b1 x e) (lt_asym (a1 y f))
      subst e
      rw [ih m a2 b2 (fun z => ?_)]
      constructor
      · intro hz
        rcases List.mem_cons.1 ((h z).1 (List.mem_cons_of_mem _ hz)) with e | e
        · exact absurd (e ▸ a1 z hz) (lt_irr _)
        · exact e
      · intro hz
        rcases List.mem_cons.1 ((h z).2 (List.mem_cons_of_mem _ hz)) with e | e
        · exact absurd (e ▸ b1 z hz) (lt_irr _)
        · exact e
end Go.Proofs.Yteljlfodjbgejaa.Print
