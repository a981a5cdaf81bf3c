import Derived.Test.YteljlfodjbgejaaXBytes
import Derived.Test.YteljlfodjbgejaaPrint2
import Derived.Test.YteljlfodjbgejaaPrint3
import Derived.Test.YteljlfodjbgejaaPrint4
namespace Go.Proofs.Yteljlfodjbgejaa.Print
open Go.RowKit Go.Proofs.YteljlfodjbgejaaX Go.Proofs.YteljlfodjbgejaaW.PrintWords Go.Proofs.YteljlfodjbgejaaW.PrintLast
set_option linter.unusedVariables false
set_option linter.unusedSimpArgs false

/-! ## The order of texts -/
abbrev Ent := S34
def bless (a b : ByteArray) : Bool := Op.bytesLess a.toList b.toList
theorem u8_tri (a b : UInt8) : a < b ∨ a = b ∨ b < a := by
  rcases Nat.lt_trichotomy a.toNat b.toNat with h | h | h
  · exact .inl h
  · exact .inr (.inl (UInt8.toNat_inj.1 h))
  · exact .inr (.inr h)
theorem u8_irr (a : UInt8) : ¬ a < a := fun h => Nat.lt_irrefl _ (show a.toNat < a.toNat from h)
theorem u8_asym {a b : UInt8} (h : a < b) : ¬ b < a := fun h2 => Nat.lt_irrefl _ (Nat.lt_trans (show a.toNat < b.toNat from h) h2)
theorem bl_cons (a b : UInt8) (x y : List UInt8) : Op.bytesLess (a :: x) (b :: y) = (decide (a < b) || (a == b && Op.bytesLess x y)) := rfl
theorem bl_irr : ∀ x : List UInt8, Op.bytesLess x x = false
  | [] => rfl
  | a :: x => by rw [bl_cons, bl_irr x]; simp [u8_irr]
theorem bl_cons_iff {a b : UInt8} {x y : List UInt8} : Op.bytesLess (a :: x) (b :: y) = true ↔ a < b ∨ a = b ∧ Op.bytesLess x y = true := by
  rw [bl_cons, Bool.or_eq_true, Bool.and_eq_true, decide_eq_true_eq, beq_iff_eq]
theorem bl_trans : ∀ {x y z : List UInt8}, Op.bytesLess x y = true → Op.bytesLess y z = true → Op.bytesLess x z = true
  | x, y, [], _, h => by cases y <;> cases h
  | x, [], c :: z, h, _ => by cases x <;> cases h
  | [], b :: y, c :: z, _, _ => rfl
  | a :: x, b :: y, c :: z, h1, h2 => by
    rcases bl_cons_iff.1 h1 with g1 | ⟨e1, g1⟩ <;> rcases bl_cons_iff.1 h2 with g2 | ⟨e2, g2⟩
    · exact bl_cons_iff.2 (.inl (Nat.lt_trans (show a.toNat < b.toNat from g1) (show b.toNat < c.toNat from g2)))
    · exact bl_cons_iff.2 (.inl (e2 ▸ g1))
    · exact bl_cons_iff.2 (.inl (e1 ▸ g2))
    · exact bl_cons_iff.2 (.inr ⟨e1.trans e2, bl_trans g1 g2⟩)
theorem bl_tri : ∀ x y : List UInt8, Op.bytesLess x y = true ∨ x = y ∨ Op.bytesLess y x = true
  | [], [] => .inr (.inl rfl)
  | [], _ :: _ => .inl rfl
  | _ :: _, [] => .inr (.inr rfl)
  | a :: x, b :: y => by
    rcases u8_tri a b with h | rfl | h
    · exact .inl (bl_cons_iff.2 (.inl h))
    · rcases bl_tri x y with h | rfl | h
      · exact .inl (bl_cons_iff.2 (.inr ⟨rfl, h⟩))
      · exact .inr (.inl rfl)
      · exact .inr (.inr (bl_cons_iff.2 (.inr ⟨rfl, h⟩)))
    · exact .inr (.inr (bl_cons_iff.2 (.inl h)))
theorem bl_asym {x y : List UInt8} (h : Op.bytesLess x y = true) : Op.bytesLess y x = false := by
  by_cases c : Op.bytesLess y x = true
  · have := bl_trans h c; rw [bl_irr] at this; cases this
  · simpa using c
theorem compare_eq : ∀ x y : List UInt8, Lib.compareBytes x y = if Op.bytesLess x y = true then -1 else if x = y then 0 else 1
  | [], [] => rfl
  | [], _ :: _ => rfl
  | _ :: _, [] => rfl
  | a :: x, b :: y => by
    unfold Lib.compareBytes
    rw [compare_eq x y]
    rcases u8_tri a b with h | rfl | h
    · rw [if_pos h, if_pos (bl_cons_iff.2 (.inl h))]
    · rw [if_neg (u8_irr a), if_neg (u8_irr a)]
      by_cases c : Op.bytesLess x y = true
      · rw [if_pos c, if_pos (bl_cons_iff.2 (.inr ⟨rfl, c⟩))]
      · rw [if_neg c, if_neg (fun e => (bl_cons_iff.1 e).elim (u8_irr a) (fun q => c q.2))]
        by_cases d : x = y
        · rw [if_pos d, if_pos (by rw [d])]
        · rw [if_neg d, if_neg (fun e => d (by injection e))]
    · have hne : a ≠ b := fun e => u8_irr b (e ▸ h)
      rw [if_neg (u8_asym h), if_pos h, if_neg (fun e => (bl_cons_iff.1 e).elim (u8_asym h) (fun q => hne q.1)), if_neg (fun e => hne (by injection e))]
theorem toList_data (s : ByteArray) : s.data.toList = s.toList := (ByteArray.toList_eq s).symm

/-! ## Entries -/
def gt (l : List Ent) (i : Nat) : Ent := l.getD i z34
def rightB (e : Ent) : Bool := !(e.f2 && e.f3.toList != ([] : List UInt8)) && decide (1 ≤ e.f1) && decide (e.f1 ≤ 9007199254740991) && decide (0 < e.f0.size) && decide (e.f0.size ≤ 80) && decide (e.f3.size ≤ 300)
def beforeB (x y : Ent) : Bool := bless x.f0 y.f0 || (x.f0.toList == y.f0.toList && decide (x.f1 > y.f1))
theorem right_eq (k : Nat) (hk : 1 ≤ k) (e : Ent) : mem_Right.f k e.f0 e.f1 e.f2 e.f3 = some (rightB e) := by
  obtain ⟨k, rfl⟩ : ∃ j, k = j + 1 := ⟨k - 1, by omega⟩
  have key : ∀ b : Bool, mem_Right.j0 (k + 1) b e.f0 e.f1 e.f2 e.f3 = some (!b && decide (1 ≤ e.f1) && decide (e.f1 ≤ 9007199254740991) && decide (0 < e.f0.size) && decide (e.f0.size ≤ 80) && decide (e.f3.size ≤ 300)) := by
    intro b
    simp only [mem_Right.j0]
    cases b with
    | true => simp
    | false =>
      rw [if_neg (by simp)]
      by_cases c1 : e.f1 < 1
      · rw [if_pos c1, decide_eq_false (show ¬ 1 ≤ e.f1 by omega)]; simp
      · rw [if_neg c1, decide_eq_true (show 1 ≤ e.f1 by omega)]
        by_cases c2 : e.f1 > 9007199254740991
        · rw [if_pos c2, decide_eq_false (show ¬ e.f1 ≤ 9007199254740991 by omega)]; simp
        · rw [if_neg c2, decide_eq_true (show e.f1 ≤ 9007199254740991 by omega)]
          by_cases c3 : (e.f0.size : Int) > 0
          · rw [if_pos c3, decide_eq_true (show 0 < e.f0.size by omega)]
            by_cases c4 : (e.f0.size : Int) ≤ 80
            · rw [if_pos c4, decide_eq_true (show e.f0.size ≤ 80 by omega)]
              have : decide ((e.f3.size : Int) ≤ 300) = decide (e.f3.size ≤ 300) := by by_cases c5 : e.f3.size ≤ 300 <;> simp [c5] <;> omega
              rw [this]; simp
            · rw [if_neg c4, decide_eq_false (show ¬ e.f0.size ≤ 80 by omega)]; simp
          · rw [if_neg c3, decide_eq_false (show ¬ 0 < e.f0.size by omega)]; simp
  unfold mem_Right.f rightB
  cases h : e.f2 with
  | true => rw [if_pos rfl, ← h, key, h]; simp
  | false => rw [if_neg (by simp), ← h, key, h]; simp
theorem before_eq (x y : Ent) : mem_Before.f x.f0 x.f1 x.f2 x.f3 y.f0 y.f1 y.f2 y.f3 = some (beforeB x y) := by
  unfold mem_Before.f strings_Compare.f beforeB bless
  rw [Option.bind_some, compare_eq, toList_data, toList_data]
  by_cases c : Op.bytesLess x.f0.toList y.f0.toList = true
  · rw [if_pos c, if_pos rfl, c]; rfl
  · rw [if_neg c]
    have c' : Op.bytesLess x.f0.toList y.f0.toList = false := by simpa using c
    by_cases d : x.f0.toList = y.f0.toList
    · rw [if_pos d, if_neg (by decide), if_pos rfl, c', d]; simp
    · rw [if_neg d, if_neg (by decide), if_neg (by decide), c']
      have : (x.f0.toList == y.f0.toList) = false := beq_eq_false_iff_ne.mpr d
      rw [this]; rfl
def sAt (l : List Ent) (i : Nat) : Bool := rightB (gt l i) && (decide (i = 0) || beforeB (gt l (i - 1)) (gt l i))
def sortedB (l : List Ent) : Bool := (List.range l.length).all (sAt l)
theorem sortedB_iff {l : List Ent} : sortedB l = true ↔ ∀ i, i < l.length → sAt l i = true := by
  unfold sortedB
  rw [List.all_eq_true]
  exact ⟨fun h i hi => h i (List.mem_range.2 hi), fun h i hi => h i (List.mem_range.1 hi)⟩
theorem rd_gt (l : List Ent) (i : Nat) : rd_T34 l (i : Int) = gt l i := by unfold rd_T34 gt; rw [Int.toNat_natCast]
theorem range_drop (n i : Nat) (h : i < n) : (List.range n).drop i = i :: (List.range n).drop (i + 1) := by
  rw [List.drop_eq_getElem_cons (by simp; omega)]
  simp
theorem sorted_l0 (l : List Ent) (hl : l.length ≤ 4611686018427387904) : ∀ (n i k : Nat), l.length - i = n → i ≤ l.length → n + 1 < k → block_Sorted.l0 k l l (l.length : Int) (i : Int) = some (((List.range l.length).drop i).all (sAt l)) := by
  intro n
  induction n with
  | zero =>
    intro i k hn hi hk
    obtain ⟨k, rfl⟩ : ∃ j, k = j + 1 := ⟨k - 1, by omega⟩
    simp only [block_Sorted.l0]
    rw [if_neg (by omega), List.drop_eq_nil_of_le (by simp; omega)]
    rfl
  | succ n ih =>
    intro i k hn hi hk
    obtain ⟨k, rfl⟩ : ∃ j, k = j + 1 := ⟨k - 1, by omega⟩
    simp only [block_Sorted.l0]
    rw [if_pos (by omega), if_pos (by omega), if_pos (by omega), rd_gt, right_eq k (by omega), Option.bind_some, range_drop _ _ (by omega), List.all_cons, wrap_of ((i : Int) + 1) (by omega) (by omega), show (i : Int) + 1 = ((i + 1 : Nat) : Int) by omega, ih (i + 1) k (by omega) (by omega) (by omega)]
    unfold sAt
    cases hr : rightB (gt l i) with
    | false => rw [if_neg (by simp)]; simp
    | true =>
      rw [if_pos rfl]
      by_cases h0 : i = 0
      · subst h0
        rw [if_neg (by omega)]
        simp
      · rw [if_pos (by omega), wrap_of ((i : Int) - 1) (by omega) (by omega), show (i : Int) - 1 = ((i - 1 : Nat) : Int) by omega, if_pos (by omega), if_pos (by omega), rd_gt, before_eq, Option.bind_some, decide_eq_false h0]
        cases hb : beforeB (gt l (i - 1)) (gt l i) with
        | false => rw [if_neg (by simp)]; simp
        | true => rw [if_pos rfl]; simp
theorem sorted_big (l : List Ent) (hl : l.length ≤ 4611686018427387904) (k : Nat) (hk : l.length + 1 < k) : block_Sorted.f k l = some (sortedB l) := by
  unfold block_Sorted.f
  have h := sorted_l0 l hl l.length 0 k (by omega) (by omega) hk
  rw [show ((0 : Nat) : Int) = 0 from rfl, List.drop_zero] at h
  exact h
theorem gt_take {l : List Ent} {n i : Nat} (h : i < n) : gt (l.take n) i = gt l i := by
  unfold gt
  rw [List.getD_eq_getElem?_getD, List.getD_eq_getElem?_getD, List.getElem?_take, if_pos h]
theorem gt_drop (l : List Ent) (n i : Nat) : gt (l.drop n) i = gt l (n + i) := by
  unfold gt
  rw [List.getD_eq_getElem?_getD, List.getD_eq_getElem?_getD, List.getElem?_drop]
theorem gt_get {l : List Ent} {i : Nat} (h : i < l.length) : gt l i = l[i] := by
  unfold gt
  rw [List.getD_eq_getElem?_getD, List.getElem?_eq_getElem h]; rfl
theorem sAt_iff {l : List Ent} {i : Nat} : sAt l i = true ↔ rightB (gt l i) = true ∧ (i = 0 ∨ beforeB (gt l (i - 1)) (gt l i) = true) := by
  unfold sAt
  rw [Bool.and_eq_true, Bool.or_eq_true, decide_eq_true_eq]
theorem sorted_take {l : List Ent} (h : sortedB l = true) (n : Nat) : sortedB (l.take n) = true := by
  rw [sortedB_iff] at h ⊢
  intro i hi
  rw [List.length_take] at hi
  have := sAt_iff.1 (h i (by omega))
  rw [sAt_iff, gt_take (by omega), gt_take (by omega)]
  exact this
theorem sorted_drop {l : List Ent} (h : sortedB l = true) (n : Nat) : sortedB (l.drop n) = true := by
  rw [sortedB_iff] at h ⊢
  intro i hi
  rw [List.length_drop] at hi
  have := sAt_iff.1 (h (n + i) (by omega))
  rw [sAt_iff, gt_drop, gt_drop]
  refine ⟨this.1, ?_⟩
  by_cases c : i = 0
  · exact .inl c
  · rw [show n + (i - 1) = n + i - 1 by omega]
    exact .inr (this.2.resolve_left (by omega))
/-- Two sorted parts. -/
theorem sorted_parts (l : List Ent) (n : Nat) (hn : n ≤ l.length) : sortedB l = (sortedB (l.take n) && sortedB (l.drop n) && (decide (n = 0) || decide (n = l.length) || beforeB (gt l (n - 1)) (gt l n))) := by
  rw [Bool.eq_iff_iff, Bool.and_eq_true, Bool.and_eq_true, Bool.or_eq_true, Bool.or_eq_true, decide_eq_true_eq, decide_eq_true_eq]
  constructor
  · intro h
    refine ⟨⟨sorted_take h n, sorted_drop h n⟩, ?_⟩
    by_cases c : n = 0
    · exact .inl (.inl c)
    · by_cases d : n = l.length
      · exact .inl (.inr d)
      · exact .inr ((sAt_iff.1 (sortedB_iff.1 h n (by omega))).2.resolve_left c)
  · rintro ⟨⟨h1, h2⟩, h3⟩
    rw [sortedB_iff] at h1 h2 ⊢
    intro i hi
    by_cases c : i < n
    · have := sAt_iff.1 (h1 i (by rw [List.length_take]; omega))
      rw [gt_take c, gt_take (by omega)] at this
      exact sAt_iff.2 this
    · have := sAt_iff.1 (h2 (i - n) (by rw [List.length_drop]; omega))
      rw [gt_drop, gt_drop, show n + (i - n) = i by omega] at this
      refine sAt_iff.2 ⟨this.1, ?_⟩
      by_cases d : i = n
      · subst d
        rcases h3 with (h3 | h3) | h3
        · exact .inl h3
        · omega
        · exact .inr h3
      · rw [show n + (i - n - 1) = i - 1 by omega] at this
        exact .inr (this.2.resolve_left (by omega))
end Go.Proofs.Yteljlfodjbgejaa.Print
