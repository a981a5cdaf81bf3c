import Derived.Test.YteljlfodjbgejaaXBytes
import Derived.Test.YteljlfodjbgejaaPrint2
import Derived.Test.YteljlfodjbgejaaPrint3
import Derived.Test.YteljlfodjbgejaaPrint4
import Derived.Test.YteljlfodjbgejaaPrint5
import Derived.Test.YteljlfodjbgejaaHMergeSee
import Derived.Test.YteljlfodjbgejaaHMergeFold
import Derived.Test.YteljlfodjbgejaaHMergeMerge
import Derived.Test.YteljlfodjbgejaaPrint6
import Derived.Test.YteljlfodjbgejaaPrint9
import Derived.Test.YteljlfodjbgejaaPrint7
import Derived.Test.YteljlfodjbgejaaPrint12
import Derived.Test.YteljlfodjbgejaaPrint11
import Derived.Test.YteljlfodjbgejaaPrint13
namespace Go.Proofs.Yteljlfodjbgejaa.Print
open Go.RowKit Go.Proofs.YteljlfodjbgejaaX Go.Proofs.YteljlfodjbgejaaW.PrintWords Go.Proofs.YteljlfodjbgejaaW.PrintLast
set_option linter.unusedVariables false
set_option linter.unusedSimpArgs false

/-! ## The order of texts -/
abbrev Ent := S34
def bless (a b : ByteArray) : Bool := Op.bytesLess a.toList b.toList
theorem u8_tri (a b : UInt8) : a < b ∨ a = b ∨ b < a := by
  rcases Nat.lt_trichotomy a.toNat b.toNat with h | h | h
  · exact .inl h
  · exact .inr (.inl (UInt8.toNat_inj.1 h))
  · exact .inr (.inr h)
theorem u8_irr (a : UInt8) : ¬ a < a := fun h => Nat.lt_irrefl _ (show a.toNat < a.toNat from h)
theorem u8_asym {a b : UInt8} (h : a < b) : ¬ b < a := fun h2 => Nat.lt_irrefl _ (Nat.lt_trans (show a.toNat < b.toNat from h) h2)
theorem bl_cons (a b : UInt8) (x y : List UInt8) : Op.bytesLess (a :: x) (b :: y) = (decide (a < b) || (a == b && Op.bytesLess x y)) := rfl
theorem bl_irr : ∀ x : List UInt8, Op.bytesLess x x = false
  | [] => rfl
  | a :: x => by rw [bl_cons, bl_irr x]; simp [u8_irr]
theorem bl_cons_iff {a b : UInt8} {x y : List UInt8} : Op.bytesLess (a :: x) (b :: y) = true ↔ a < b ∨ a = b ∧ Op.bytesLess x y = true := by
  rw [bl_cons, Bool.or_eq_true, Bool.and_eq_true, decide_eq_true_eq, beq_iff_eq]
theorem bl_trans : ∀ {x y z : List UInt8}, Op.bytesLess x y = true → Op.bytesLess y z = true → Op.bytesLess x z = true
  | x, y, [], _, h => by cases y <;> cases h
  | x, [], c :: z, h, _ => by cases x <;> cases h
  | [], b :: y, c :: z, _, _ => rfl
  | a :: x, b :: y, c :: z, h1, h2 => by
    rcases bl_cons_iff.1 h1 with g1 | ⟨e1, g1⟩ <;> rcases bl_cons_iff.1 h2 with g2 | ⟨e2, g2⟩
    · exact bl_cons_iff.2 (.inl (Nat.lt_trans (show a.toNat < b.toNat from g1) (show b.toNat < c.toNat from g2)))
    · exact bl_cons_iff.2 (.inl (e2 ▸ g1))
    · exact bl_cons_iff.2 (.inl (e1 ▸ g2))
    · exact bl_cons_iff.2 (.inr ⟨e1.trans e2, bl_trans g1 g2⟩)
theorem bl_tri : ∀ x y : List UInt8, Op.bytesLess x y = true ∨ x = y ∨ Op.bytesLess y x = true
  | [], [] => .inr (.inl rfl)
  | [], _ :: _ => .inl rfl
  | _ :: _, [] => .inr (.inr rfl)
  | a :: x, b :: y => by
    rcases u8_tri a b with h | rfl | h
    · exact .inl (bl_cons_iff.2 (.inl h))
    · rcases bl_tri x y with h | rfl | h
      · exact .inl (bl_cons_iff.2 (.inr ⟨rfl, h⟩))
      · exact .inr (.inl rfl)
      · exact .inr (.inr (bl_cons_iff.2 (.inr ⟨rfl, h⟩)))
    · exact .inr (.inr (bl_cons_iff.2 (.inl h)))
theorem bl_asym {x y : List UInt8} (h : Op.bytesLess x y = true) : Op.bytesLess y x = false := by
  by_cases c : Op.bytesLess y x = true
  · have := bl_trans h c; rw [bl_irr] at this; cases this
  · simpa using c
theorem compare_eq : ∀ x y : List UInt8, Lib.compareBytes x y = if Op.bytesLess x y = true then -1 else if x = y then 0 else 1
  | [], [] => rfl
  | [], _ :: _ => rfl
  | _ :: _, [] => rfl
  | a :: x, b :: y => by
    unfold Lib.compareBytes
    rw [compare_eq x y]
    rcases u8_tri a b with h | rfl | h
    · rw [if_pos h, if_pos (bl_cons_iff.2 (.inl h))]
    · rw [if_neg (u8_irr a), if_neg (u8_irr a)]
      by_cases c : Op.bytesLess x y = true
      · rw [if_pos c, if_pos (bl_cons_iff.2 (.inr ⟨rfl, c⟩))]
      · rw [if_neg c, if_neg (fun e => (bl_cons_iff.1 e).elim (u8_irr a) (fun q => c q.2))]
        by_cases d : x = y
        · rw [if_pos d, if_pos (by rw [d])]
        · rw [if_neg d, if_neg (fun e => d (by injection e))]
    · have hne : a ≠ b := fun e => u8_irr b (e ▸ h)
      rw [if_neg (u8_asym h), if_pos h, if_neg (fun e => (bl_cons_iff.1 e).elim (u8_asym h) (fun q => hne q.1)), if_neg (fun e => hne (by injection e))]
theorem toList_data (s : ByteArray) : s.data.toList = s.toList := (ByteArray.toList_eq s).symm

/-! ## Entries -/
def gt (l : List Ent) (i : Nat) : Ent := l.getD i z34
def rightB (e : Ent) : Bool := !(e.f2 && e.f3.toList != ([] : List UInt8)) && decide (1 ≤ e.f1) && decide (e.f1 ≤ 9007199254740991) && decide (0 < e.f0.size) && decide (e.f0.size ≤ 80) && decide (e.f3.size ≤ 300)
def beforeB (x y : Ent) : Bool := bless x.f0 y.f0 || (x.f0.toList == y.f0.toList && decide (x.f1 > y.f1))
theorem right_eq (k : Nat) (hk : 1 ≤ k) (e : Ent) : mem_Right.f k e.f0 e.f1 e.f2 e.f3 = some (rightB e) := by
  obtain ⟨k, rfl⟩ : ∃ j, k = j + 1 := ⟨k - 1, by omega⟩
  have key : ∀ b : Bool, mem_Right.j0 (k + 1) b e.f0 e.f1 e.f2 e.f3 = some (!b && decide (1 ≤ e.f1) && decide (e.f1 ≤ 9007199254740991) && decide (0 < e.f0.size) && decide (e.f0.size ≤ 80) && decide (e.f3.size ≤ 300)) := by
    intro b
    simp only [mem_Right.j0]
    cases b with
    | true => simp
    | false =>
      rw [if_neg (by simp)]
      by_cases c1 : e.f1 < 1
      · rw [if_pos c1, decide_eq_false (show ¬ 1 ≤ e.f1 by omega)]; simp
      · rw [if_neg c1, decide_eq_true (show 1 ≤ e.f1 by omega)]
        by_cases c2 : e.f1 > 9007199254740991
        · rw [if_pos c2, decide_eq_false (show ¬ e.f1 ≤ 9007199254740991 by omega)]; simp
        · rw [if_neg c2, decide_eq_true (show e.f1 ≤ 9007199254740991 by omega)]
          by_cases c3 : (e.f0.size : Int) > 0
          · rw [if_pos c3, decide_eq_true (show 0 < e.f0.size by omega)]
            by_cases c4 : (e.f0.size : Int) ≤ 80
            · rw [if_pos c4, decide_eq_true (show e.f0.size ≤ 80 by omega)]
              have : decide ((e.f3.size : Int) ≤ 300) = decide (e.f3.size ≤ 300) := by by_cases c5 : e.f3.size ≤ 300 <;> simp [c5] <;> omega
              rw [this]; simp
            · rw [if_neg c4, decide_eq_false (show ¬ e.f0.size ≤ 80 by omega)]; simp
          · rw [if_neg c3, decide_eq_false (show ¬ 0 < e.f0.size by omega)]; simp
  unfold mem_Right.f rightB
  cases h : e.f2 with
  | true => rw [if_pos rfl, ← h, key, h]; simp
  | false => rw [if_neg (by simp), ← h, key, h]; simp
theorem before_eq (x y : Ent) : mem_Before.f x.f0 x.f1 x.f2 x.f3 y.f0 y.f1 y.f2 y.f3 = some (beforeB x y) := by
  unfold mem_Before.f strings_Compare.f beforeB bless
  rw [Option.bind_some, compare_eq, toList_data, toList_data]
  by_cases c : Op.bytesLess x.f0.toList y.f0.toList = true
  · rw [if_pos c, if_pos rfl, c]; rfl
  · rw [if_neg c]
    have c' : Op.bytesLess x.f0.toList y.f0.toList = false := by simpa using c
    by_cases d : x.f0.toList = y.f0.toList
    · rw [if_pos d, if_neg (by decide), if_pos rfl, c', d]; simp
    · rw [if_neg d, if_neg (by decide), if_neg (by decide), c']
      have : (x.f0.toList == y.f0.toList) = false := beq_eq_false_iff_ne.mpr d
      rw [this]; rfl
def sAt (l : List Ent) (i : Nat) : Bool := rightB (gt l i) && (decide (i = 0) || beforeB (gt l (i - 1)) (gt l i))
def sortedB (l : List Ent) : Bool := (List.range l.length).all (sAt l)
theorem sortedB_iff {l : List Ent} : sortedB l = true ↔ ∀ i, i < l.length → sAt l i = true := by
  unfold sortedB
  rw [List.all_eq_true]
  exact ⟨fun h i hi => h i (List.mem_range.2 hi), fun h i hi => h i (List.mem_range.1 hi)⟩
theorem rd_gt (l : List Ent) (i : Nat) : rd_T34 l (i : Int) = gt l i := by unfold rd_T34 gt; rw [Int.toNat_natCast]
theorem range_drop (n i : Nat) (h : i < n) : (List.range n).drop i = i :: (List.range n).drop (i + 1) := by
  rw [List.drop_eq_getElem_cons (by simp; omega)]
  simp
theorem sorted_l0 (l : List Ent) (hl : l.length ≤ 4611686018427387904) : ∀ (n i k : Nat), l.length - i = n → i ≤ l.length → n + 1 < k → block_Sorted.l0 k l l (l.length : Int) (i : Int) = some (((List.range l.length).drop i).all (sAt l)) := by
  intro n
  induction n with
  | zero =>
    intro i k hn hi hk
    obtain ⟨k, rfl⟩ : ∃ j, k = j + 1 := ⟨k - 1, by omega⟩
    simp only [block_Sorted.l0]
    rw [if_neg (by omega), List.drop_eq_nil_of_le (by simp; omega)]
    rfl
  | succ n ih =>
    intro i k hn hi hk
    obtain ⟨k, rfl⟩ : ∃ j, k = j + 1 := ⟨k - 1, by omega⟩
    simp only [block_Sorted.l0]
    rw [if_pos (by omega), if_pos (by omega), if_pos (by omega), rd_gt, right_eq k (by omega), Option.bind_some, range_drop _ _ (by omega), List.all_cons, wrap_of ((i : Int) + 1) (by omega) (by omega), show (i : Int) + 1 = ((i + 1 : Nat) : Int) by omega, ih (i + 1) k (by omega) (by omega) (by omega)]
    unfold sAt
    cases hr : rightB (gt l i) with
    | false => rw [if_neg (by simp)]; simp
    | true =>
      rw [if_pos rfl]
      by_cases h0 : i = 0
      · subst h0
        rw [if_neg (by omega)]
        simp
      · rw [if_pos (by omega), wrap_of ((i : Int) - 1) (by omega) (by omega), show (i : Int) - 1 = ((i - 1 : Nat) : Int) by omega, if_pos (by omega), if_pos (by omega), rd_gt, before_eq, Option.bind_some, decide_eq_false h0]
        cases hb : beforeB (gt l (i - 1)) (gt l i) with
        | false => rw [if_neg (by simp)]; simp
        | true => rw [if_pos rfl]; simp
theorem sorted_big (l : List Ent) (hl : l.length ≤ 4611686018427387904) (k : Nat) (hk : l.length + 1 < k) : block_Sorted.f k l = some (sortedB l) := by
  unfold block_Sorted.f
  have h := sorted_l0 l hl l.length 0 k (by omega) (by omega) hk
  rw [show ((0 : Nat) : Int) = 0 from rfl, List.drop_zero] at h
  exact h
theorem gt_take {l : List Ent} {n i : Nat} (h : i < n) : gt (l.take n) i = gt l i := by
  unfold gt
  rw [List.getD_eq_getElem?_getD, List.getD_eq_getElem?_getD, List.getElem?_take, if_pos h]
theorem gt_drop (l : List Ent) (n i : Nat) : gt (l.drop n) i = gt l (n + i) := by
  unfold gt
  rw [List.getD_eq_getElem?_getD, List.getD_eq_getElem?_getD, List.getElem?_drop]
theorem gt_get {l : List Ent} {i : Nat} (h : i < l.length) : gt l i = l[i] := by
  unfold gt
  rw [List.getD_eq_getElem?_getD, List.getElem?_eq_getElem h]; rfl
theorem sAt_iff {l : List Ent} {i : Nat} : sAt l i = true ↔ rightB (gt l i) = true ∧ (i = 0 ∨ beforeB (gt l (i - 1)) (gt l i) = true) := by
  unfold sAt
  rw [Bool.and_eq_true, Bool.or_eq_true, decide_eq_true_eq]
theorem sorted_take {l : List Ent} (h : sortedB l = true) (n : Nat) : sortedB (l.take n) = true := by
  rw [sortedB_iff] at h ⊢
  intro i hi
  rw [List.length_take] at hi
  have := sAt_iff.1 (h i (by omega))
  rw [sAt_iff, gt_take (by omega), gt_take (by omega)]
  exact this
theorem sorted_drop {l : List Ent} (h : sortedB l = true) (n : Nat) : sortedB (l.drop n) = true := by
  rw [sortedB_iff] at h ⊢
  intro i hi
  rw [List.length_drop] at hi
  have := sAt_iff.1 (h (n + i) (by omega))
  rw [sAt_iff, gt_drop, gt_drop]
  refine ⟨this.1, ?_⟩
  by_cases c : i = 0
  · exact .inl c
  · rw [show n + (i - 1) = n + i - 1 by omega]
    exact .inr (this.2.resolve_left (by omega))
/-- Two sorted parts. -/
theorem sorted_parts (l : List Ent) (n : Nat) (hn : n ≤ l.length) : sortedB l = (sortedB (l.take n) && sortedB (l.drop n) && (decide (n = 0) || decide (n = l.length) || beforeB (gt l (n - 1)) (gt l n))) := by
  rw [Bool.eq_iff_iff, Bool.and_eq_true, Bool.and_eq_true, Bool.or_eq_true, Bool.or_eq_true, decide_eq_true_eq, decide_eq_true_eq]
  constructor
  · intro h
    refine ⟨⟨sorted_take h n, sorted_drop h n⟩, ?_⟩
    by_cases c : n = 0
    · exact .inl (.inl c)
    · by_cases d : n = l.length
      · exact .inl (.inr d)
      · exact .inr ((sAt_iff.1 (sortedB_iff.1 h n (by omega))).2.resolve_left c)
  · rintro ⟨⟨h1, h2⟩, h3⟩
    rw [sortedB_iff] at h1 h2 ⊢
    intro i hi
    by_cases c : i < n
    · have := sAt_iff.1 (h1 i (by rw [List.length_take]; omega))
      rw [gt_take c, gt_take (by omega)] at this
      exact sAt_iff.2 this
    · have := sAt_iff.1 (h2 (i - n) (by rw [List.length_drop]; omega))
      rw [gt_drop, gt_drop, show n + (i - n) = i by omega] at this
      refine sAt_iff.2 ⟨this.1, ?_⟩
      by_cases d : i = n
      · subst d
        rcases h3 with (h3 | h3) | h3
        · exact .inl h3
        · omega
        · exact .inr h3
      · rw [show n + (i - n - 1) = i - 1 by omega] at this
        exact .inr (this.2.resolve_left (by omega))
end Go.Proofs.Yteljlfodjbgejaa.Print

namespace Go.Proofs.Yteljlfodjbgejaa.Print
open Go.RowKit Go.Proofs.YteljlfodjbgejaaX Go.Proofs.YteljlfodjbgejaaW.PrintWords Go.Proofs.YteljlfodjbgejaaW.PrintLast
set_option linter.unusedVariables false
set_option linter.unusedSimpArgs false

def hit (key : ByteArray) (seq : Int) (e : Ent) : Bool := e.f0.toList == key.toList && decide (e.f1 ≤ seq)
def findR (l : List Ent) (key : ByteArray) (seq : Int) : ByteArray × Int × Bool × ByteArray × Bool :=
  match l.find? (hit key seq) with
  | some e => (e.f0, e.f1, e.f2, e.f3, true)
  | none => (⟨#[]⟩, 0, false, ⟨#[]⟩, false)
theorem findR_hit {e : Ent} {l : List Ent} {key : ByteArray} {seq : Int} (h : e.f0.toList = key.toList) (h2 : e.f1 ≤ seq) : findR (e :: l) key seq = (e.f0, e.f1, e.f2, e.f3, true) := by
  unfold findR
  rw [List.find?_cons_of_pos (by unfold hit; rw [h, decide_eq_true h2]; simp)]
theorem findR_miss {e : Ent} {l : List Ent} {key : ByteArray} {seq : Int} (h : ¬ (e.f0.toList = key.toList ∧ e.f1 ≤ seq)) : findR (e :: l) key seq = findR l key seq := by
  unfold findR
  rw [List.find?_cons_of_neg (by unfold hit; rw [Bool.and_eq_true, beq_iff_eq, decide_eq_true_eq]; exact h)]
theorem find_l0 (l : List Ent) (key : ByteArray) (seq : Int) (hl : l.length ≤ 4611686018427387904) : ∀ (n i k : Nat), l.length - i = n → i ≤ l.length → n < k → block_Find.l0 k key seq l (l.length : Int) (i : Int) = some (findR (l.drop i) key seq) := by
  intro n
  induction n with
  | zero =>
    intro i k hn hi hk
    obtain ⟨k, rfl⟩ : ∃ j, k = j + 1 := ⟨k - 1, by omega⟩
    simp only [block_Find.l0]
    rw [if_neg (by omega), List.drop_eq_nil_of_le (by omega)]
    rfl
  | succ n ih =>
    intro i k hn hi hk
    obtain ⟨k, rfl⟩ : ∃ j, k = j + 1 := ⟨k - 1, by omega⟩
    have hi' : i < l.length := by omega
    simp only [block_Find.l0]
    rw [if_pos (by omega), if_pos (by omega), if_pos (by omega), rd_gt, wrap_of _ (by omega) (by omega), show (i : Int) + 1 = ((i + 1 : Nat) : Int) by omega, ih (i + 1) k (by omega) (by omega) (by omega), List.drop_eq_getElem_cons hi', gt_get hi']
    by_cases c : l[i].f0.toList = key.toList
    · rw [if_pos c]
      by_cases d : l[i].f1 ≤ seq
      · rw [if_pos d, findR_hit c d]
      · rw [if_neg d, findR_miss (fun h => d h.2)]
    · rw [if_neg c, findR_miss (fun h => c h.1)]
theorem find_big (l : List Ent) (key : ByteArray) (seq : Int) (hl : l.length ≤ 4611686018427387904) (k : Nat) (hk : l.length < k) : block_Find.f k l key seq = some (findR l key seq) := by
  unfold block_Find.f
  have h := find_l0 l key seq hl l.length 0 k (by omega) (by omega) hk
  rw [show ((0 : Nat) : Int) = 0 from rfl, List.drop_zero] at h
  exact h
end Go.Proofs.Yteljlfodjbgejaa.Print

namespace Go.Proofs.Yteljlfodjbgejaa.Print
open Go.RowKit Go.Proofs.YteljlfodjbgejaaX Go.Proofs.YteljlfodjbgejaaW.PrintWords Go.Proofs.YteljlfodjbgejaaW.PrintLast
set_option linter.unusedVariables false
set_option linter.unusedSimpArgs false

/-! ## The order of entries -/
theorem toList_inj {a b : ByteArray} (h : a.toList = b.toList) : a = b := by
  have h1 : a.data = b.data := by
    apply Array.ext'
    rw [toList_data, toList_data]; exact h
  cases a; cases b
  simp at h1
  rw [h1]
theorem lt_iff {x y : Ent} : beforeB x y = true ↔ bless x.f0 y.f0 = true ∨ (x.f0 = y.f0 ∧ y.f1 < x.f1) := by
  unfold beforeB
  rw [Bool.or_eq_true, Bool.and_eq_true, beq_iff_eq, decide_eq_true_eq]
  constructor
  · rintro (h | ⟨h1, h2⟩)
    · exact .inl h
    · exact .inr ⟨toList_inj h1, h2⟩
  · rintro (h | ⟨h1, h2⟩)
    · exact .inl h
    · exact .inr ⟨by rw [h1], h2⟩
theorem bless_irr (a : ByteArray) : ¬ bless a a = true := by unfold bless; rw [bl_irr]; decide
theorem bless_trans {a b c : ByteArray} (h1 : bless a b = true) (h2 : bless b c = true) : bless a c = true := bl_trans h1 h2
theorem lt_irr (x : Ent) : ¬ beforeB x x = true := by
  rw [lt_iff]
  rintro (h | ⟨_, h⟩)
  · exact bless_irr _ h
  · omega
theorem lt_trans {x y z : Ent} (h1 : beforeB x y = true) (h2 : beforeB y z = true) : beforeB x z = true := by
  rw [lt_iff] at h1 h2 ⊢
  rcases h1 with h1 | ⟨h1, h1'⟩ <;> rcases h2 with h2 | ⟨h2, h2'⟩
  · exact .inl (bless_trans h1 h2)
  · exact .inl (h2 ▸ h1)
  · exact .inl (h1 ▸ h2)
  · exact .inr ⟨h1.trans h2, by omega⟩
theorem lt_asym {x y : Ent} (h : beforeB x y = true) : ¬ beforeB y x = true := fun h2 => lt_irr _ (lt_trans h h2)
def Same (x y : Ent) : Prop := x.f0 = y.f0 ∧ x.f1 = y.f1
theorem Same.symm {x y : Ent} (h : Same x y) : Same y x := ⟨h.1.symm, h.2.symm⟩
theorem Same.trans {x y z : Ent} (h : Same x y) (k : Same y z) : Same x z := ⟨h.1.trans k.1, h.2.trans k.2⟩
theorem Same.refl (x : Ent) : Same x x := ⟨rfl, rfl⟩
theorem lt_tri (x y : Ent) : beforeB x y = true ∨ Same x y ∨ beforeB y x = true := by
  rw [lt_iff, lt_iff]
  rcases bl_tri x.f0.toList y.f0.toList with h | h | h
  · exact .inl (.inl h)
  · have e := toList_inj h
    rcases Int.lt_trichotomy x.f1 y.f1 with g | g | g
    · exact .inr (.inr (.inr ⟨e.symm, g⟩))
    · exact .inr (.inl ⟨e, g⟩)
    · exact .inl (.inr ⟨e, g⟩)
  · exact .inr (.inr (.inl h))
theorem lt_same_l {x y z : Ent} (h : Same x y) (k : beforeB y z = true) : beforeB x z = true := by
  rw [lt_iff] at k ⊢
  rw [h.1, h.2]; exact k
theorem lt_same_r {x y z : Ent} (h : beforeB x y = true) (k : Same y z) : beforeB x z = true := by
  rw [lt_iff] at h ⊢
  rw [← k.1, ← k.2]; exact h
theorem lt_not_same {x y : Ent} (h : beforeB x y = true) : ¬ Same x y := fun e => lt_irr _ (lt_same_r h e.symm)
theorem not_lt {x y : Ent} (h : ¬ beforeB x y = true) : Same x y ∨ beforeB y x = true := (lt_tri x y).resolve_left h
def sameB (x y : Ent) : Bool := x.f0.toList == y.f0.toList && x.f1 == y.f1
theorem same_iff {x y : Ent} : sameB x y = true ↔ Same x y := by
  unfold sameB Same
  rw [Bool.and_eq_true, beq_iff_eq, beq_iff_eq]
  exact ⟨fun h => ⟨toList_inj h.1, h.2⟩, fun h => ⟨by rw [h.1], h.2⟩⟩
theorem bfE_before (x y : S34) : bfE x y = beforeB x y := by unfold bfE; rw [before_eq]; rfl
/-! ## Sorted lists -/
def SSorted (l : List Ent) : Prop := l.Pairwise (fun x y => beforeB x y = true)
theorem sorted_cons (x : Ent) (l : List Ent) : sortedB (x :: l) = true ↔ rightB x = true ∧ sortedB l = true ∧ (l = [] ∨ beforeB x (gt l 0) = true) := by
  rw [sorted_parts (x :: l) 1 (by simp)]
  simp only [List.take_succ_cons, List.take_zero, List.drop_succ_cons, List.drop_zero]
  have h1 : sortedB [x] = rightB x := by
    unfold sortedB
    simp [sAt, gt]
  rw [h1, Bool.and_eq_true, Bool.and_eq_true, Bool.or_eq_true, Bool.or_eq_true, decide_eq_true_eq, decide_eq_true_eq]
  have h2 : gt (x :: l) (1 - 1) = x := rfl
  have h3 : gt (x :: l) 1 = gt l 0 := rfl
  rw [h2, h3]
  constructor
  · rintro ⟨⟨a, b⟩, c⟩
    refine ⟨a, b, ?_⟩
    rcases c with (c | c) | c
    · omega
    · left; apply List.length_eq_zero_iff.1; simp at c; simp [c]
    · exact .inr c
  · rintro ⟨a, b, c⟩
    refine ⟨⟨a, b⟩, ?_⟩
    rcases c with rfl | c
    · exact .inl (.inr rfl)
    · exact .inr c
theorem sorted_iff (l : List Ent) : sortedB l = true ↔ (∀ x ∈ l, rightB x = true) ∧ SSorted l := by
  induction l with
  | nil => exact ⟨fun _ => ⟨(fun x hx => by cases hx), List.Pairwise.nil⟩, fun _ => rfl⟩
  | cons x l ih =>
    rw [sorted_cons, ih]
    constructor
    · rintro ⟨a, ⟨b, c⟩, d⟩
      refine ⟨fun y hy => ?_, List.Pairwise.cons (fun y hy => ?_) c⟩
      · rcases List.mem_cons.1 hy with rfl | hy
        · exact a
        · exact b y hy
      · cases l with
        | nil => cases hy
        | cons z l =>
          have hz : beforeB x z = true := d.resolve_left (by simp)
          rcases List.mem_cons.1 hy with rfl | hy
          · exact hz
          · exact lt_trans hz ((List.pairwise_cons.1 c).1 y hy)
    · rintro ⟨a, c⟩
      obtain ⟨c1, c2⟩ := List.pairwise_cons.1 c
      refine ⟨a x List.mem_cons_self, ⟨fun y hy => a y (List.mem_cons_of_mem _ hy), c2⟩, ?_⟩
      cases l with
      | nil => exact .inl rfl
      | cons z l => exact .inr (c1 z List.mem_cons_self)
/-- Two sorted lists of the same entries are one. -/
theorem ssorted_ext : ∀ (l m : List Ent), SSorted l → SSorted m → (∀ x, x ∈ l ↔ x ∈ m) → l = m := by
  intro l
  induction l with
  | nil =>
    intro m _ _ h
    cases m with
    | nil => rfl
    | cons y m => exact absurd ((h y).2 List.mem_cons_self) (by simp)
  | cons x l ih =>
    intro m hl hm h
    cases m with
    | nil => exact absurd ((h x).1 List.mem_cons_self) (by simp)
    | cons y m =>
      obtain ⟨a1, a2⟩ := List.pairwise_cons.1 hl
      obtain ⟨b1, b2⟩ := List.pairwise_cons.1 hm
      have e : x = y := by
        rcases List.mem_cons.1 ((h x).1 List.mem_cons_self) with e | e
        · exact e
        · rcases List.mem_cons.1 ((h y).2 List.mem_cons_self) with f | f
          · exact f.symm
          · exact absurd (b1 x e) (lt_asym (a1 y f))
      subst e
      rw [ih m a2 b2 (fun z => ?_)]
      constructor
      · intro hz
        rcases List.mem_cons.1 ((h z).1 (List.mem_cons_of_mem _ hz)) with e | e
        · exact absurd (e ▸ a1 z hz) (lt_irr _)
        · exact e
      · intro hz
        rcases List.mem_cons.1 ((h z).2 (List.mem_cons_of_mem _ hz)) with e | e
        · exact absurd (e ▸ b1 z hz) (lt_irr _)
        · exact e
end Go.Proofs.Yteljlfodjbgejaa.Print

namespace Go.Proofs.Yteljlfodjbgejaa.Print
open Go.RowKit Go.Proofs.YteljlfodjbgejaaX Go.Proofs.YteljlfodjbgejaaW.PrintWords Go.Proofs.YteljlfodjbgejaaW.PrintLast
set_option linter.unusedVariables false
set_option linter.unusedSimpArgs false

/-! ## Parts of a sorted list -/
/-- A part: one key, numbers falling. -/
def Grp (g : List Ent) : Prop := g ≠ [] ∧ (∀ x ∈ g, x.f0 = (gt g 0).f0) ∧ g.Pairwise (fun x y => y.f1 < x.f1)
theorem idxF_take {α : Type} (p : α → Bool) : ∀ (l : List α) (i : Nat), (idxF p l i = -1 ∧ ∀ x ∈ l, p x = false) ∨ ∃ (n : Nat) (h : n < l.length), idxF p l i = ((i + n : Nat) : Int) ∧ (∀ x ∈ l.take n, p x = false) ∧ p l[n] = true := by
  intro l
  induction l with
  | nil => intro i; exact .inl ⟨rfl, fun x hx => by cases hx⟩
  | cons x l ih =>
    intro i
    by_cases h : p x = true
    · refine .inr ⟨0, by simp, ?_, fun y hy => (by simp at hy), h⟩
      simp only [idxF]; rw [if_pos h]; rfl
    · have e : idxF p (x :: l) i = idxF p l (i + 1) := by simp only [idxF]; rw [if_neg h]
      rcases ih (i + 1) with ⟨h1, h2⟩ | ⟨n, hn, h1, h2, h3⟩
      · refine .inl ⟨e.trans h1, fun y hy => ?_⟩
        rcases List.mem_cons.1 hy with rfl | hy
        · exact Bool.eq_false_iff.2 h
        · exact h2 y hy
      · refine .inr ⟨n + 1, by simpa using hn, ?_, fun y hy => ?_, h3⟩
        · rw [e, h1]; congr 1; omega
        · rw [List.take_succ_cons] at hy
          rcases List.mem_cons.1 hy with rfl | hy
          · exact Bool.eq_false_iff.2 h
          · exact h2 y hy
theorem keyNe_iff {k : ByteArray} {x : Ent} : keyNe k x = false ↔ x.f0 = k := by
  unfold keyNe
  rw [bne_eq_false_iff_eq]
  exact ⟨toList_inj, fun h => by rw [h]⟩
/-- The first part of a list: as many as are of the first one's key. -/
theorem grp_first (l : List Ent) (h : l ≠ []) : grpN l ≤ l.length ∧ (∀ x ∈ l.take (grpN l), x.f0 = (gt l 0).f0) ∧ (grpN l < l.length → (gt l (grpN l)).f0 ≠ (gt l 0).f0) := by
  have e0 : rd_T34 l 0 = gt l 0 := rd_gt l 0
  unfold grpN
  rw [e0]
  rcases idxF_take (keyNe (gt l 0).f0) l 0 with ⟨h1, h2⟩ | ⟨n, hn, h1, h2, h3⟩
  · rw [h1, if_pos (by decide)]
    exact ⟨Nat.le_refl _, fun x hx => keyNe_iff.1 (h2 x (List.mem_of_mem_take hx)), fun c => absurd c (Nat.lt_irrefl _)⟩
  · rw [Nat.zero_add] at h1
    rw [h1, if_neg (by omega), Int.toNat_natCast]
    refine ⟨by omega, fun x hx => keyNe_iff.1 (h2 x hx), fun _ => ?_⟩
    rw [gt_get hn]
    intro e
    rw [keyNe_iff.2 e] at h3
    cases h3
theorem ss_keys {l : List Ent} (h : SSorted l) (hk : ∀ x ∈ l, ∀ y ∈ l, x.f0 = y.f0) : l.Pairwise (fun x y => y.f1 < x.f1) := by
  refine List.Pairwise.imp_of_mem ?_ h
  intro x y hx hy hxy
  rcases lt_iff.1 hxy with e | e
  · rw [hk x hx y hy] at e; exact absurd e (bless_irr _)
  · exact e.2
theorem gt_mem {l : List Ent} {i : Nat} (h : i < l.length) : gt l i ∈ l := by rw [gt_get h]; exact List.getElem_mem h
/-- What the parts of a sorted list are: parts, their keys rising. -/
def GrpsOk (gs : List (List Ent)) : Prop := (∀ g ∈ gs, Grp g) ∧ gs.Pairwise (fun g h => bless (gt g 0).f0 (gt h 0).f0 = true)
theorem groups_ok : ∀ (m : Nat) (l : List Ent), l.length ≤ m → SSorted l → GrpsOk (groupsF m l) := by
  intro m
  induction m with
  | zero => intro l _ _; exact ⟨(fun g hg => by cases hg), List.Pairwise.nil⟩
  | succ m ih =>
    intro l hl hs
    simp only [groupsF]
    by_cases c : l.length = 0
    · rw [if_pos c]; exact ⟨(fun g hg => by cases hg), List.Pairwise.nil⟩
    · rw [if_neg c]
      have hne : l ≠ [] := fun e => c (by rw [e]; rfl)
      obtain ⟨g1, g2, g3⟩ := grp_first l hne
      have hpos := grpN_pos l (by omega)
      have hsd : SSorted (l.drop (grpN l)) := hs.sublist (List.drop_sublist _ _)
      have hst : SSorted (l.take (grpN l)) := hs.sublist (List.take_sublist _ _)
      obtain ⟨i1, i2⟩ := ih (l.drop (grpN l)) (by rw [List.length_drop]; omega) hsd
      have hg0 : gt (l.take (grpN l)) 0 = gt l 0 := gt_take hpos.1
      have hG : Grp (l.take (grpN l)) := by
        refine ⟨fun e => ?_, fun x hx => by rw [hg0]; exact g2 x hx, ss_keys hst (fun x hx y hy => (g2 x hx).trans (g2 y hy).symm)⟩
        have := congrArg List.length e
        rw [List.length_take, List.length_nil] at this
        omega
      refine ⟨fun g hg => ?_, List.Pairwise.cons (fun h hh => ?_) i2⟩
      · rcases List.mem_cons.1 hg with rfl | hg
        · exact hG
        · exact i1 g hg
      · rw [hg0]
        -- the head of a later part stands behind: another key, greater
        have hfl := groups_flat m (l.drop (grpN l)) (by rw [List.length_drop]; omega)
        have hhne := (i1 h hh).1
        have hmem : gt h 0 ∈ l.drop (grpN l) := by
          rw [← hfl]
          exact List.mem_flatten.2 ⟨h, hh, gt_mem (by cases h with | nil => exact absurd rfl hhne | cons => simp)⟩
        have hdl : grpN l < l.length := by
          rcases Nat.lt_or_eq_of_le g1 with e | e
          · exact e
          · rw [e, List.drop_length] at hmem; cases hmem
        have hk := g3 hdl
        have hall : ∀ y ∈ l.drop (grpN l), bless (gt l 0).f0 y.f0 = true := by
          have hdc : l.drop (grpN l) = gt l (grpN l) :: l.drop (grpN l + 1) := by rw [List.drop_eq_getElem_cons hdl, gt_get hdl]
          have hlt0 : beforeB (gt l 0) (gt l (grpN l)) = true := by
            have h1 : gt l 0 ∈ l.take (grpN l) := by rw [← hg0]; exact gt_mem (by rw [List.length_take]; omega)
            have h2 : gt l (grpN l) ∈ l.drop (grpN l) := by rw [hdc]; exact List.mem_cons_self
            have hs2 := hs
            rw [← List.take_append_drop (grpN l) l] at hs2
            exact (List.pairwise_append.1 hs2).2.2 _ h1 _ h2
          have hb0 : bless (gt l 0).f0 (gt l (grpN l)).f0 = true := by
            rcases lt_iff.1 hlt0 with e | e
            · exact e
            · exact absurd e.1.symm hk
          intro y hy
          rw [hdc] at hy hsd
          rcases List.mem_cons.1 hy with e | e
          · rw [e]; exact hb0
          · rcases lt_iff.1 ((List.pairwise_cons.1 hsd).1 y e) with f | f
            · exact bless_trans hb0 f
            · rw [← f.1]; exact hb0
        exact hall _ hmem
/-- Parts, their keys rising, are the parts of what they make. -/
theorem groups_of : ∀ (gs : List (List Ent)) (m : Nat), GrpsOk gs → gs.flatten.length ≤ m → groupsF m gs.flatten = gs := by
  intro gs
  induction gs with
  | nil => intro m _ _; cases m with
    | zero => rfl
    | succ m => simp [groupsF]
  | cons g gs ih =>
    intro m h hm
    obtain ⟨h1, h2⟩ := h
    obtain ⟨a1, a2, a3⟩ := h1 g List.mem_cons_self
    obtain ⟨b1, b2⟩ := List.pairwise_cons.1 h2
    have hgl : 0 < g.length := List.length_pos_iff.2 a1
    rw [List.flatten_cons, List.length_append] at hm
    rw [List.flatten_cons]
    obtain ⟨m, rfl⟩ : ∃ j, m = j + 1 := ⟨m - 1, by omega⟩
    simp only [groupsF]
    rw [if_neg (by rw [List.length_append]; omega)]
    have hn : grpN (g ++ gs.flatten) = g.length := by
      have hne : g ++ gs.flatten ≠ [] := by simp [a1]
      obtain ⟨c1, c2, c3⟩ := grp_first (g ++ gs.flatten) hne
      have hpos := grpN_pos (g ++ gs.flatten) (by rw [List.length_append]; omega)
      have e0 : gt (g ++ gs.flatten) 0 = gt g 0 := by
        unfold gt
        rw [List.getD_eq_getElem?_getD, List.getElem?_append_left hgl, ← List.getD_eq_getElem?_getD]
      rw [e0] at c2 c3
      rcases Nat.lt_trichotomy (grpN (g ++ gs.flatten)) g.length with e | e | e
      · exfalso
        have hlt : grpN (g ++ gs.flatten) < (g ++ gs.flatten).length := by rw [List.length_append]; omega
        refine c3 hlt ?_
        have e1 : gt (g ++ gs.flatten) (grpN (g ++ gs.flatten)) = gt g (grpN (g ++ gs.flatten)) := by
          unfold gt
          rw [List.getD_eq_getElem?_getD, List.getElem?_append_left e, ← List.getD_eq_getElem?_getD]
        rw [e1]
        exact a2 _ (gt_mem e)
      · exact e
      · exfalso
        have hgs : gs.flatten ≠ [] := fun e2 => by rw [e2, List.append_nil] at c1 e; omega
        obtain ⟨y, ys, hy⟩ : ∃ y ys, gs.flatten = y :: ys := List.exists_cons_of_ne_nil hgs
        have hy1 : y ∈ (g ++ gs.flatten).take (grpN (g ++ gs.flatten)) := by
          rw [List.mem_take_iff_getElem]
          refine ⟨g.length, by have := List.length_pos_iff.2 hgs; rw [List.length_append]; omega, ?_⟩
          rw [List.getElem_append_right (Nat.le_refl _)]
          simp [hy]
        have hk := c2 y hy1
        obtain ⟨h, hh, hyh⟩ := List.mem_flatten.1 (show y ∈ gs.flatten by rw [hy]; exact List.mem_cons_self)
        have hb := b1 h hh
        rw [← (h1 h (List.mem_cons_of_mem _ hh)).2.1 y hyh, hk] at hb
        exact bless_irr _ hb
    rw [hn, List.take_left, List.drop_left, ih m ⟨fun x hx => h1 x (List.mem_cons_of_mem _ hx), b2⟩ (by omega)]
/-- .. and what they make is sorted. -/
theorem grps_sorted {gs : List (List Ent)} (h : GrpsOk gs) : SSorted gs.flatten := by
  induction gs with
  | nil => exact List.Pairwise.nil
  | cons g gs ih =>
    obtain ⟨h1, h2⟩ := h
    obtain ⟨b1, b2⟩ := List.pairwise_cons.1 h2
    obtain ⟨a1, a2, a3⟩ := h1 g List.mem_cons_self
    rw [List.flatten_cons]
    refine List.pairwise_append.2 ⟨?_, ih ⟨fun x hx => h1 x (List.mem_cons_of_mem _ hx), b2⟩, fun x hx y hy => ?_⟩
    · refine List.Pairwise.imp_of_mem ?_ a3
      intro x y hx hy hxy
      exact lt_iff.2 (.inr ⟨(a2 x hx).trans (a2 y hy).symm, hxy⟩)
    · obtain ⟨h, hh, hyh⟩ := List.mem_flatten.1 hy
      refine lt_iff.2 (.inl ?_)
      rw [a2 x hx, (h1 h (List.mem_cons_of_mem _ hh)).2.1 y hyh]
      exact b1 h hh
end Go.Proofs.Yteljlfodjbgejaa.Print

namespace Go.Proofs.Yteljlfodjbgejaa.Print
open Go.RowKit Go.Proofs.YteljlfodjbgejaaX Go.Proofs.YteljlfodjbgejaaW.PrintWords Go.Proofs.YteljlfodjbgejaaW.PrintLast
set_option linter.unusedVariables false
set_option linter.unusedSimpArgs false

/-! ## What is seen of a part -/
def upto (s : Int) (x : Ent) : Bool := decide (x.f1 ≤ s)
def seeG (s : Int) (g : List Ent) : List Ent := match g.find? (upto s) with
  | some x => if x.f2 = true then [] else [x]
  | none => []
theorem find_congr {α : Type} {p q : α → Bool} : ∀ (l : List α), (∀ x ∈ l, p x = q x) → l.find? p = l.find? q := by
  intro l
  induction l with
  | nil => intro _; rfl
  | cons x l ih =>
    intro h
    rw [List.find?_cons, List.find?_cons, h x List.mem_cons_self, ih (fun y hy => h y (List.mem_cons_of_mem _ hy))]
theorem kBig_eq : kBig = 1000002 := rfl
theorem findE_grp {g : List Ent} (hg : Grp g) (hl : g.length ≤ 1000000) (s : Int) : findE g s = some (match g.find? (upto s) with | some x => (x, true) | none => (⟨⟨#[]⟩, 0, false, ⟨#[]⟩⟩, false)) := by
  unfold findE
  have e0 : rd_T34 g 0 = gt g 0 := rd_gt g 0
  rw [e0, find_big g _ s (by omega) kBig (by rw [kBig_eq]; omega)]
  unfold findR
  have hc : g.find? (hit (gt g 0).f0 s) = g.find? (upto s) := by
    refine find_congr g (fun x hx => ?_)
    unfold hit upto
    rw [hg.2.1 x hx]
    simp
  rw [hc]
  cases g.find? (upto s) <;> rfl
theorem seeStep_grp {g : List Ent} (hg : Grp g) (hl : g.length ≤ 1000000) (s : Int) (out : List Ent) : seeStep s out g = out ++ seeG s g := by
  unfold seeStep seeG
  rw [findE_grp hg hl s]
  cases g.find? (upto s) with
  | none => simp
  | some x =>
    dsimp only
    cases x.f2 with
    | true => rw [if_pos rfl, if_pos rfl, List.append_nil]
    | false => rw [if_neg (by decide), if_neg (by decide)]
/-! ## What is kept of a part -/
def need (keep : List Int) (p x : Ent) : Bool := keep.any (fun s => decide (x.f1 ≤ s) && decide (s < p.f1))
def stayP (keep : List Int) : Ent → List Ent → List Ent
  | _, [] => []
  | p, x :: xs => if need keep p x = true then x :: stayP keep x xs else stayP keep x xs
def stayG (keep : List Int) : List Ent → List Ent
  | [] => []
  | x :: xs => x :: stayP keep x xs
def foldG (keep : List Int) (bottom : Bool) (g : List Ent) : List Ent := if bottom = true then tailF (stayG keep g).length (stayG keep g) else stayG keep g
theorem need_iff {keep : List Int} {p x : Ent} : need keep p x = true ↔ ∃ s ∈ keep, x.f1 ≤ s ∧ s < p.f1 := by
  unfold need
  rw [List.any_eq_true]
  constructor
  · rintro ⟨s, h1, h2⟩
    rw [Bool.and_eq_true, decide_eq_true_eq, decide_eq_true_eq] at h2
    exact ⟨s, h1, h2⟩
  · rintro ⟨s, h1, h2⟩
    exact ⟨s, h1, by rw [Bool.and_eq_true, decide_eq_true_eq, decide_eq_true_eq]; exact h2⟩
theorem marks_len (keep : List Int) (g : List Ent) : (marksF keep g).length = g.length := by
  unfold marksF
  have key : ∀ (ks : List Int) (bs : List Bool), (ks.foldl (markF g) bs).length = bs.length := by
    intro ks
    induction ks with
    | nil => intro bs; rfl
    | cons s ks ih => intro bs; rw [List.foldl_cons, ih, markF_len]
  rw [key, List.length_set, List.length_replicate]
/-- Which are marked. -/
theorem marks_iff (keep : List Int) (g : List Ent) (i : Nat) (hi : i < g.length) : (marksF keep g).getD i false = true ↔ i = 0 ∨ ∃ s ∈ keep, idxF (seqLe s) g 0 = (i : Int) := by
  unfold marksF
  have key : ∀ (ks : List Int) (bs : List Bool), bs.length = g.length → ((ks.foldl (markF g) bs).getD i false = true ↔ bs.getD i false = true ∨ ∃ s ∈ ks, idxF (seqLe s) g 0 = (i : Int)) := by
    intro ks
    induction ks with
    | nil => intro bs _; simp
    | cons s ks ih =>
      intro bs hb
      rw [List.foldl_cons, ih _ (by rw [markF_len]; exact hb)]
      have hm : (markF g bs s).getD i false = true ↔ bs.getD i false = true ∨ idxF (seqLe s) g 0 = (i : Int) := by
        unfold markF
        rcases idxF_range (seqLe s) g 0 with e | ⟨e1, e2⟩
        · rw [e, if_neg (by decide)]
          constructor
          · exact fun h => .inl h
          · rintro (h | h)
            · exact h
            · omega
        · obtain ⟨n, hn⟩ : ∃ n : Nat, idxF (seqLe s) g 0 = (n : Int) := ⟨(idxF (seqLe s) g 0).toNat, by omega⟩
          rw [hn, if_pos (by omega), Int.toNat_natCast]
          rw [List.getD_eq_getElem?_getD, List.getElem?_set]
          by_cases c : n = i
          · subst c
            rw [if_pos rfl, if_pos (by omega)]
            simp
          · rw [if_neg c, ← List.getD_eq_getElem?_getD]
            constructor
            · exact fun h => .inl h
            · rintro (h | h)
              · exact h
              · omega
      rw [hm]
      constructor
      · rintro ((h | h) | ⟨t, h1, h2⟩)
        · exact .inl h
        · exact .inr ⟨s, List.mem_cons_self, h⟩
        · exact .inr ⟨t, List.mem_cons_of_mem _ h1, h2⟩
      · rintro (h | ⟨t, h1, h2⟩)
        · exact .inl (.inl h)
        · rcases List.mem_cons.1 h1 with rfl | h1
          · exact .inl (.inr h2)
          · exact .inr ⟨t, h1, h2⟩
  rw [key keep _ (by rw [List.length_set, List.length_replicate])]
  rw [List.getD_eq_getElem?_getD, List.getElem?_set]
  by_cases c : i = 0
  · subst c
    rw [if_pos rfl, if_pos (by rw [List.length_replicate]; exact hi)]
    simp
  · rw [if_neg (fun e => c e.symm), List.getElem?_replicate, if_pos hi]
    simp [c]
theorem fall_gt {g : List Ent} (h : g.Pairwise (fun x y => y.f1 < x.f1)) {i j : Nat} (hij : i < j) (hj : j < g.length) : (gt g j).f1 < (gt g i).f1 := by
  rw [gt_get hj, gt_get (by omega)]
  exact List.pairwise_iff_getElem.1 h i j (by omega) hj hij
/-- In a falling part, the first one of at most s is the one whose elder is above. -/
theorem first_iff {g : List Ent} (h : g.Pairwise (fun x y => y.f1 < x.f1)) (s : Int) (i : Nat) (hi : i + 1 < g.length) : idxF (seqLe s) g 0 = ((i + 1 : Nat) : Int) ↔ (gt g (i + 1)).f1 ≤ s ∧ s < (gt g i).f1 := by
  rcases idxF_take (seqLe s) g 0 with ⟨h1, h2⟩ | ⟨n, hn, h1, h2, h3⟩
  · rw [h1]
    constructor
    · intro e; omega
    · rintro ⟨e1, _⟩
      have := h2 (gt g (i + 1)) (gt_mem hi)
      unfold seqLe at this
      rw [decide_eq_false_iff_not] at this
      exact absurd e1 this
  · rw [Nat.zero_add] at h1
    rw [h1]
    have h3' : (gt g n).f1 ≤ s := by rw [gt_get hn]; unfold seqLe at h3; rwa [decide_eq_true_eq] at h3
    have h2' : ∀ j, j < n → s < (gt g j).f1 := fun j hj => by
      have hm : gt g j ∈ g.take n := by
        rw [gt_get (by omega)]
        exact List.mem_take_iff_getElem.2 ⟨j, by omega, rfl⟩
      have := h2 _ hm
      unfold seqLe at this
      rw [decide_eq_false_iff_not] at this
      omega
    constructor
    · intro e
      have e' : n = i + 1 := by omega
      subst e'
      exact ⟨h3', h2' i (by omega)⟩
    · rintro ⟨e1, e2⟩
      rcases Nat.lt_trichotomy n (i + 1) with f | f | f
      · have : (gt g n).f1 ≤ s := h3'
        rcases Nat.lt_or_eq_of_le (Nat.le_of_lt_succ f) with f2 | f2
        · have := fall_gt h f2 (by omega : i < g.length); omega
        · rw [f2] at this; omega
      · rw [f]
      · have := h2' (i + 1) f; omega
theorem stay_suffix (keep : List Int) {g : List Ent} (hg : Grp g) : ∀ (n i : Nat), g.length - i = n → 0 < i → i ≤ g.length → stayF ((marksF keep g).drop i) (g.drop i) = stayP keep (gt g (i - 1)) (g.drop i) := by
  intro n
  induction n with
  | zero =>
    intro i hn h0 hi
    rw [List.drop_eq_nil_of_le (show g.length ≤ i by omega), List.drop_eq_nil_of_le (by rw [marks_len]; omega)]
    rfl
  | succ n ih =>
    intro i hn h0 hi
    have hlt : i < g.length := by omega
    rw [stay_drop _ _ i hlt (marks_len _ _), ih (i + 1) (by omega) (by omega) (by omega), Nat.add_sub_cancel]
    have hd : g.drop i = gt g i :: g.drop (i + 1) := by rw [List.drop_eq_getElem_cons hlt, gt_get hlt]
    rw [hd, rd_gt]
    simp only [stayP]
    have hm := marks_iff keep g i hlt
    have hw : (marksF keep g).getD i false = true ↔ need keep (gt g (i - 1)) (gt g i) = true := by
      rw [hm, need_iff]
      obtain ⟨j, rfl⟩ : ∃ j, i = j + 1 := ⟨i - 1, by omega⟩
      rw [Nat.add_sub_cancel]
      constructor
      · rintro (h | ⟨s, h1, h2⟩)
        · omega
        · exact ⟨s, h1, (first_iff hg.2.2 s j hlt).1 h2⟩
      · rintro ⟨s, h1, h2⟩
        exact .inr ⟨s, h1, (first_iff hg.2.2 s j hlt).2 h2⟩
    by_cases c : (marksF keep g).getD i false = true
    · rw [if_pos c, if_pos (hw.1 c)]; rfl
    · rw [if_neg c, if_neg (fun e => c (hw.2 e))]; rfl
theorem stay_grp (keep : List Int) {g : List Ent} (hg : Grp g) : stayF (marksF keep g) g = stayG keep g := by
  obtain ⟨h1, h2, h3⟩ := hg
  cases g with
  | nil => exact absurd rfl h1
  | cons x xs =>
    have h := stay_drop (marksF keep (x :: xs)) (x :: xs) 0 (by simp) (marks_len _ _)
    rw [List.drop_zero, List.drop_zero] at h
    rw [h, if_pos (marks0 keep (x :: xs) (by simp)), stay_suffix keep ⟨h1, h2, h3⟩ ((x :: xs).length - 1) 1 rfl (by omega) (by simp)]
    rfl
theorem foldStep_grp (keep : List Int) (bottom : Bool) {g : List Ent} (hg : Grp g) (out : List Ent) : foldStep keep bottom out g = out ++ foldG keep bottom g := by
  unfold foldStep foldG
  rw [stay_grp keep hg]
/-! ## What the parts have in common with what is kept of them -/
theorem stayP_sub (keep : List Int) : ∀ (xs : List Ent) (p : Ent), (stayP keep p xs).Sublist xs := by
  intro xs
  induction xs with
  | nil => intro p; exact List.Sublist.slnil
  | cons x xs ih =>
    intro p
    simp only [stayP]
    split
    · exact (ih x).cons_cons x
    · exact (ih x).cons x
theorem stayG_sub (keep : List Int) (g : List Ent) : (stayG keep g).Sublist g := by
  cases g with
  | nil => exact List.Sublist.slnil
  | cons x xs => exact (stayP_sub keep xs x).cons_cons x
/-- Where the tail of the dropped ones begins. -/
theorem tail_split : ∀ (m : Nat) (l : List Ent), l.length = m → ∃ d, l = tailF m l ++ d ∧ (∀ x ∈ d, x.f2 = true) ∧ (tailF m l = [] ∨ (lastE (tailF m l)).f2 = false) := by
  intro m
  induction m with
  | zero => intro l h; rw [List.length_eq_zero_iff.1 h]; exact ⟨[], rfl, (fun x hx => by cases hx), .inl rfl⟩
  | succ m ih =>
    intro l h
    simp only [tailF]
    have hne : l ≠ [] := fun e => by rw [e] at h; simp at h
    obtain ⟨l0, e, rfl⟩ : ∃ Q e, l = Q ++ [e] := ⟨l.dropLast, l.getLast hne, (List.dropLast_concat_getLast hne).symm⟩
    have hl0 : l0.length = m := by simpa using h
    have hlast : lastE (l0 ++ [e]) = e := by
      unfold lastE
      rw [List.length_append, List.length_singleton, show ((l0.length + 1 : Nat) : Int) - 1 = (l0.length : Int) by omega, rd_gt]
      unfold gt
      rw [List.getD_eq_getElem?_getD, List.getElem?_append_right (Nat.le_refl _), Nat.sub_self]
      rfl
    rw [hlast]
    by_cases c : e.f2 = true
    · rw [if_pos ⟨by omega, c⟩, h, Nat.add_sub_cancel, ← hl0, List.take_left, hl0]
      obtain ⟨d, h1, h2, h3⟩ := ih l0 hl0
      refine ⟨d ++ [e], ?_, fun x hx => ?_, h3⟩
      · rw [← List.append_assoc, ← h1]
      · rcases List.mem_append.1 hx with f | f
        · exact h2 x f
        · rw [List.mem_singleton.1 f]; exact c
    · rw [if_neg (fun f => c f.2)]
      exact ⟨[], by simp, (fun x hx => by cases hx), .inr (by rw [hlast]; exact Bool.eq_false_iff.2 c)⟩
theorem tail_prefix (l : List Ent) : tailF l.length l <+: l := by
  obtain ⟨d, h, _⟩ := tail_split l.length l rfl
  exact ⟨d, h.symm⟩
theorem foldG_sub (keep : List Int) (bottom : Bool) (g : List Ent) : (foldG keep bottom g).Sublist g := by
  unfold foldG
  split
  · exact (tail_prefix _).sublist.trans (stayG_sub keep g)
  · exact stayG_sub keep g
theorem grp_sub {g q : List Ent} (hg : Grp g) (hs : q.Sublist g) (hq : q ≠ []) : Grp q ∧ (gt q 0).f0 = (gt g 0).f0 := by
  have h0 : (gt q 0).f0 = (gt g 0).f0 := hg.2.1 _ (hs.subset (gt_mem (List.length_pos_iff.2 hq)))
  exact ⟨⟨hq, fun x hx => (hg.2.1 x (hs.subset hx)).trans h0.symm, hg.2.2.sublist hs⟩, h0⟩
/-- What is seen. -/
theorem stayP_find {keep : List Int} {s : Int} (hs : s ∈ keep) : ∀ (xs : List Ent) (p : Ent), s < p.f1 → (stayP keep p xs).find? (upto s) = xs.find? (upto s) := by
  intro xs
  induction xs with
  | nil => intro p _; rfl
  | cons x xs ih =>
    intro p hp
    simp only [stayP]
    by_cases c : x.f1 ≤ s
    · rw [if_pos (need_iff.2 ⟨s, hs, c, hp⟩), List.find?_cons, List.find?_cons, show upto s x = true from decide_eq_true c]
    · have hu : upto s x = false := decide_eq_false c
      have hi := ih x (by omega)
      split
      · rw [List.find?_cons, List.find?_cons, hu]; exact hi
      · rw [List.find?_cons, hu]; exact hi
theorem stayG_find {keep : List Int} {s : Int} {g : List Ent} (hs : s ∈ keep ∨ ∀ x ∈ g, x.f1 ≤ s) : (stayG keep g).find? (upto s) = g.find? (upto s) := by
  cases g with
  | nil => rfl
  | cons x xs =>
    simp only [stayG]
    rw [List.find?_cons, List.find?_cons]
    by_cases c : x.f1 ≤ s
    · rw [show upto s x = true from decide_eq_true c]
    · rw [show upto s x = false from decide_eq_false c]
      rcases hs with hs | hs
      · exact stayP_find hs xs x (by omega)
      · exact absurd (hs x List.mem_cons_self) c
theorem seeG_tail (s : Int) (l : List Ent) : seeG s (tailF l.length l) = seeG s l := by
  obtain ⟨d, h1, h2, _⟩ := tail_split l.length l rfl
  unfold seeG
  conv => rhs; rw [h1]
  rw [List.find?_append]
  cases (tailF l.length l).find? (upto s) with
  | some x => rfl
  | none =>
    rw [Option.none_or]
    cases hd : d.find? (upto s) with
    | none => rfl
    | some y =>
      have := h2 y (List.mem_of_find?_eq_some hd)
      dsimp only
      rw [if_pos this]
theorem seeG_fold {keep : List Int} {s : Int} {g : List Ent} (bottom : Bool) (hs : s ∈ keep ∨ ∀ x ∈ g, x.f1 ≤ s) : seeG s (foldG keep bottom g) = seeG s g := by
  have h : seeG s (stayG keep g) = seeG s g := by unfold seeG; rw [stayG_find hs]
  unfold foldG
  split
  · rw [seeG_tail, h]
  · exact h
/-- What was kept is kept. -/
def Chn (keep : List Int) : Ent → List Ent → Prop
  | _, [] => True
  | p, x :: xs => need keep p x = true ∧ Chn keep x xs
theorem chn_stay (keep : List Int) : ∀ (xs : List Ent) (p : Ent), Chn keep p xs → stayP keep p xs = xs := by
  intro xs
  induction xs with
  | nil => intro p _; rfl
  | cons x xs ih => intro p h; simp only [stayP]; rw [if_pos h.1, ih x h.2]
theorem chn_pre (keep : List Int) : ∀ (xs ys : List Ent) (p : Ent), Chn keep p (xs ++ ys) → Chn keep p xs := by
  intro xs
  induction xs with
  | nil => intro ys p _; trivial
  | cons x xs ih => intro ys p h; exact ⟨h.1, ih ys x h.2⟩
theorem stay_chn (keep : List Int) : ∀ (xs : List Ent) (p p' : Ent), p.f1 ≤ p'.f1 → (p :: xs).Pairwise (fun x y => y.f1 < x.f1) → Chn keep p' (stayP keep p xs) := by
  intro xs
  induction xs with
  | nil => intro p p' _ _; trivial
  | cons x xs ih =>
    intro p p' hp h
    obtain ⟨a1, a2⟩ := List.pairwise_cons.1 h
    have hx := a1 x List.mem_cons_self
    simp only [stayP]
    by_cases c : need keep p x = true
    · rw [if_pos c]
      obtain ⟨s, h1, h2, h3⟩ := need_iff.1 c
      exact ⟨need_iff.2 ⟨s, h1, h2, by omega⟩, ih x x (Int.le_refl _) a2⟩
    · rw [if_neg c]
      exact ih x p' (by omega) a2
theorem tail_self (l : List Ent) (h : l = [] ∨ (lastE l).f2 = false) : tailF l.length l = l := by
  cases hn : l.length with
  | zero => rfl
  | succ n =>
    simp only [tailF]
    rw [if_neg]
    rintro ⟨_, e⟩
    rcases h with rfl | h
    · simp at hn
    · rw [h] at e; cases e
theorem foldG_again (keep : List Int) (bottom : Bool) {g : List Ent} (hg : Grp g) : foldG keep bottom (foldG keep bottom g) = foldG keep bottom g := by
  obtain ⟨h1, _, h3⟩ := hg
  cases g with
  | nil => exact absurd rfl h1
  | cons x xs =>
    have hc : Chn keep x (stayP keep x xs) := stay_chn keep xs x x (Int.le_refl _) h3
    unfold foldG
    cases bottom with
    | false =>
      rw [if_neg (by decide), if_neg (by decide)]
      simp only [stayG]
      rw [chn_stay keep _ x hc]
    | true =>
      rw [if_pos rfl, if_pos rfl]
      obtain ⟨d, e1, e2, e3⟩ := tail_split (stayG keep (x :: xs)).length (stayG keep (x :: xs)) rfl
      generalize tailF (stayG keep (x :: xs)).length (stayG keep (x :: xs)) = t at e1 e3 ⊢
      have hst : stayG keep t = t := by
        cases t with
        | nil => rfl
        | cons y ys =>
          simp only [stayG, List.cons_append, List.cons.injEq] at e1
          obtain ⟨rfl, e1⟩ := e1
          rw [e1] at hc
          simp only [stayG]
          rw [chn_stay keep _ _ (chn_pre keep _ _ _ hc)]
      rw [hst]
      exact tail_self t e3
/-- With nothing kept there is no more. -/
theorem foldG_less (keep : List Int) (bottom : Bool) {g : List Ent} (hg : Grp g) : (foldG [] bottom g).length ≤ (foldG keep bottom g).length := by
  cases g with
  | nil => exact absurd rfl hg.1
  | cons x xs =>
    have h0 : stayP [] x xs = [] := by
      have : ∀ (xs : List Ent) (p : Ent), stayP [] p xs = [] := by
        intro xs
        induction xs with
        | nil => intro p; rfl
        | cons x xs ih => intro p; simp only [stayP]; rw [if_neg (by simp [need]), ih]
      exact this xs x
    unfold foldG
    simp only [stayG]
    rw [h0]
    cases bottom with
    | false => rw [if_neg (by decide), if_neg (by decide)]; simp
    | true =>
      rw [if_pos rfl, if_pos rfl]
      show (tailF 1 [x]).length ≤ _
      simp only [tailF]
      have hl : lastE [x] = x := rfl
      rw [hl]
      by_cases c : x.f2 = true
      · rw [if_pos ⟨by simp, c⟩]; simp [tailF]
      · rw [if_neg (fun e => c e.2)]
        obtain ⟨d, e1, e2, e3⟩ := tail_split (x :: stayP keep x xs).length (x :: stayP keep x xs) rfl
        generalize tailF (x :: stayP keep x xs).length (x :: stayP keep x xs) = t at e1 ⊢
        cases t with
        | nil =>
          exfalso
          rw [List.nil_append] at e1
          exact c (e2 x (by rw [← e1]; exact List.mem_cons_self))
        | cons y ys => simp
end Go.Proofs.Yteljlfodjbgejaa.Print

namespace Go.Proofs.Yteljlfodjbgejaa.Print
open Go.RowKit Go.Proofs.YteljlfodjbgejaaX Go.Proofs.YteljlfodjbgejaaW.PrintWords Go.Proofs.YteljlfodjbgejaaW.PrintLast
set_option linter.unusedVariables false
set_option linter.unusedSimpArgs false

/-! ## Which list's entry comes next -/
def exh (ls : List (List Ent)) (ks : List Nat) (i : Nat) : Prop := ks.getD i 0 = (rd_L4 ls (i : Int)).length
def BInv (ls : List (List Ent)) (ks : List Nat) (i : Nat) (b : Int) : Prop :=
  (b = -1 ∧ ∀ j, j < i → exh ls ks j) ∨ ∃ k : Nat, b = (k : Int) ∧ k < i ∧ ¬ exh ls ks k ∧ (∀ j, j < k → ¬ exh ls ks j → beforeB (hdE ls ks k) (hdE ls ks j) = true) ∧ (∀ j, k < j → j < i → ¬ exh ls ks j → ¬ beforeB (hdE ls ks j) (hdE ls ks k) = true)
theorem best_spec (ls : List (List Ent)) (ks : List Nat) : ∀ (m i : Nat) (b : Int), BInv ls ks i b → BInv ls ks (i + m) (bestF ls ks m i b) := by
  intro m
  induction m with
  | zero => intro i b h; exact h
  | succ m ih =>
    intro i b h
    simp only [bestF]
    rw [show i + (m + 1) = (i + 1) + m by omega]
    refine ih (i + 1) _ ?_
    by_cases c : exh ls ks i
    · have c' : ks.getD i 0 = (rd_L4 ls (i : Int)).length := c
      rw [if_pos c']
      rcases h with ⟨h1, h2⟩ | ⟨k, h1, h2, h3, h4, h5⟩
      · exact .inl ⟨h1, fun j hj => by rcases Nat.lt_or_eq_of_le (Nat.le_of_lt_succ hj) with e | e; exact h2 j e; exact e ▸ c⟩
      · exact .inr ⟨k, h1, by omega, h3, h4, fun j hj1 hj2 hj3 => by rcases Nat.lt_or_eq_of_le (Nat.le_of_lt_succ hj2) with e | e; exact h5 j hj1 e hj3; exact absurd (e ▸ c) hj3⟩
    · have c' : ¬ ks.getD i 0 = (rd_L4 ls (i : Int)).length := c
      rw [if_neg c']
      rcases h with ⟨h1, h2⟩ | ⟨k, h1, h2, h3, h4, h5⟩
      · rw [if_pos (by omega)]
        exact .inr ⟨i, rfl, by omega, c, fun j hj hn => absurd (h2 j hj) hn, fun j hj1 hj2 _ => by omega⟩
      · rw [if_neg (by omega), h1, Int.toNat_natCast, bfE_before]
        by_cases d : beforeB (hdE ls ks i) (hdE ls ks k) = true
        · rw [if_pos d]
          refine .inr ⟨i, rfl, by omega, c, fun j hj hn => ?_, fun j hj1 hj2 _ => by omega⟩
          rcases Nat.lt_trichotomy j k with e | e | e
          · exact lt_trans d (h4 j e hn)
          · exact e ▸ d
          · rcases not_lt (h5 j e hj hn) with f | f
            · exact lt_same_r d f.symm
            · exact lt_trans d f
        · rw [if_neg d]
          exact .inr ⟨k, rfl, by omega, h3, h4, fun j hj1 hj2 hj3 => by rcases Nat.lt_or_eq_of_le (Nat.le_of_lt_succ hj2) with e | e; exact h5 j hj1 e hj3; exact e ▸ d⟩
theorem best_all (ls : List (List Ent)) (ks : List Nat) : BInv ls ks ls.length (bestF ls ks ls.length 0 (-1)) := by
  have h := best_spec ls ks ls.length 0 (-1) (.inl ⟨rfl, fun j hj => by omega⟩)
  rwa [Nat.zero_add] at h
/-! ## What is still to come -/
def restAt (ls : List (List Ent)) (ks : List Nat) (i : Nat) : List Ent := (rd_L4 ls (i : Int)).drop (ks.getD i 0)
def rests (ls : List (List Ent)) (ks : List Nat) : List (List Ent) := (List.range ls.length).map (restAt ls ks)
theorem rests_len (ls : List (List Ent)) (ks : List Nat) : (rests ls ks).length = ls.length := by simp [rests]
theorem rests_get (ls : List (List Ent)) (ks : List Nat) (i : Nat) (h : i < (rests ls ks).length) : (rests ls ks)[i] = restAt ls ks i := by simp [rests]
theorem restAt_cons {ls : List (List Ent)} {ks : List Nat} {b : Nat} (h : ks.getD b 0 < (rd_L4 ls (b : Int)).length) : restAt ls ks b = hdE ls ks b :: (rd_L4 ls (b : Int)).drop (ks.getD b 0 + 1) := drop_rd _ _ h
theorem getD_set {α : Type} (l : List α) (b : Nat) (v d : α) (hb : b < l.length) (j : Nat) : (l.set b v).getD j d = if j = b then v else l.getD j d := by
  rw [List.getD_eq_getElem?_getD, List.getElem?_set]
  by_cases c : b = j
  · rw [if_pos c, if_pos (by omega), if_pos c.symm]; rfl
  · rw [if_neg c, if_neg (fun e => c e.symm), ← List.getD_eq_getElem?_getD]
theorem rests_set {ls : List (List Ent)} {ks : List Nat} {b : Nat} (hk : ks.length = ls.length) (hb : b < ls.length) :
    rests ls (ks.set b (ks.getD b 0 + 1)) = (rests ls ks).set b ((rd_L4 ls (b : Int)).drop (ks.getD b 0 + 1)) := by
  apply List.ext_getElem
  · rw [List.length_set, rests_len, rests_len]
  · intro i h1 h2
    rw [rests_get, List.getElem_set]
    unfold restAt
    rw [getD_set ks b _ 0 (by omega) i]
    by_cases c : b = i
    · subst c; rw [if_pos rfl, if_pos rfl]
    · rw [if_neg c, if_neg (fun e => c e.symm), rests_get]; rfl
theorem flatten_at {α : Type} (L : List (List α)) (b : Nat) (h : b < L.length) : L.flatten = (L.take b).flatten ++ (L[b] ++ (L.drop (b + 1)).flatten) := by
  conv => lhs; rw [← List.take_append_drop b L, List.drop_eq_getElem_cons h]
  rw [List.flatten_append, List.flatten_cons]
theorem flatten_set {α : Type} (L : List (List α)) (b : Nat) (t : List α) (h : b < L.length) : (L.set b t).flatten = (L.take b).flatten ++ (t ++ (L.drop (b + 1)).flatten) := by
  rw [List.set_eq_take_append_cons_drop, if_pos h, List.flatten_append, List.flatten_cons]
theorem filter_none {x : Ent} {L : List (List Ent)} (h : ∀ l ∈ L, ∀ y ∈ l, ¬ Same x y) : L.flatten.filter (sameB x) = [] := by
  rw [List.filter_eq_nil_iff]
  intro y hy
  obtain ⟨l, hl, hyl⟩ := List.mem_flatten.1 hy
  rw [same_iff]
  exact h l hl y hyl
/-- The lists are sorted. -/
def AllSorted (ls : List (List Ent)) : Prop := ∀ i : Nat, i < ls.length → SSorted (rd_L4 ls (i : Int))
theorem restAt_sorted {ls : List (List Ent)} {ks : List Nat} (h : AllSorted ls) {i : Nat} (hi : i < ls.length) : SSorted (restAt ls ks i) := (h i hi).sublist (List.drop_sublist _ _)
/-- An entry of a list's rest is its head, or stands behind it. -/
theorem restAt_mem {ls : List (List Ent)} {ks : List Nat} (h : AllSorted ls) {i : Nat} (hi : i < ls.length) (hk : ks.getD i 0 ≤ (rd_L4 ls (i : Int)).length) {y : Ent} (hy : y ∈ restAt ls ks i) : ¬ exh ls ks i ∧ (y = hdE ls ks i ∨ beforeB (hdE ls ks i) y = true) := by
  by_cases c : exh ls ks i
  · have c' : ks.getD i 0 = (rd_L4 ls (i : Int)).length := c
    unfold restAt at hy
    rw [c', List.drop_length] at hy
    cases hy
  · refine ⟨c, ?_⟩
    have c' : ¬ ks.getD i 0 = (rd_L4 ls (i : Int)).length := c
    have hs := restAt_sorted (ks := ks) h hi
    rw [restAt_cons (by omega)] at hy hs
    rcases List.mem_cons.1 hy with e | e
    · exact .inl e
    · exact .inr ((List.pairwise_cons.1 hs).1 y e)
def KOk (ls : List (List Ent)) (ks : List Nat) : Prop := ks.length = ls.length ∧ ∀ i : Nat, i < ls.length → ks.getD i 0 ≤ (rd_L4 ls (i : Int)).length
theorem KOk.step {ls : List (List Ent)} {ks : List Nat} {b : Nat} (h : KOk ls ks) (hb : b < ls.length) (hx : ¬ exh ls ks b) : KOk ls (ks.set b (ks.getD b 0 + 1)) := by
  refine ⟨by rw [List.length_set]; exact h.1, fun i hi => ?_⟩
  rw [getD_set ks b _ 0 (by rw [h.1]; exact hb) i]
  by_cases c : i = b
  · subst c
    rw [if_pos rfl]
    have h1 := h.2 i hi
    have h2 : ¬ ks.getD i 0 = (rd_L4 ls (i : Int)).length := hx
    omega
  · rw [if_neg c]; exact h.2 i hi
theorem mem_rests {ls : List (List Ent)} {ks : List Nat} {y : Ent} (h : y ∈ (rests ls ks).flatten) : ∃ i, i < ls.length ∧ y ∈ restAt ls ks i := by
  obtain ⟨l, hl, hy⟩ := List.mem_flatten.1 h
  unfold rests at hl
  obtain ⟨i, hi, rfl⟩ := List.mem_map.1 hl
  exact ⟨i, List.mem_range.1 hi, hy⟩
theorem rests_mem {ls : List (List Ent)} {ks : List Nat} {y : Ent} {i : Nat} (hi : i < ls.length) (h : y ∈ restAt ls ks i) : y ∈ (rests ls ks).flatten :=
  List.mem_flatten.2 ⟨_, List.mem_map.2 ⟨i, List.mem_range.2 hi, rfl⟩, h⟩
/-- The merged lists have of each entry just what the lists have, in the lists' order; and they are sorted, fellows beside each other. -/
theorem merged_spec (ls : List (List Ent)) (hs : AllSorted ls) : ∀ (fuel : Nat) (ks : List Nat), KOk ls ks → restF ls ks < fuel →
    (∀ x, (mergedF ls fuel ks).filter (sameB x) = (rests ls ks).flatten.filter (sameB x)) ∧ (mergedF ls fuel ks).Pairwise (fun x y => ¬ beforeB y x = true) := by
  intro fuel
  induction fuel with
  | zero => intro ks _ h; omega
  | succ m ih =>
    intro ks hk hf
    simp only [mergedF]
    rcases best_all ls ks with ⟨h1, h2⟩ | ⟨b, h1, h2, h3, h4, h5⟩
    · rw [h1, if_pos (by decide)]
      refine ⟨fun x => ?_, List.Pairwise.nil⟩
      symm
      refine filter_none (fun l hl y hy => ?_)
      exfalso
      obtain ⟨i, hi, hyi⟩ := mem_rests (List.mem_flatten.2 ⟨l, hl, hy⟩)
      exact (restAt_mem hs hi (hk.2 i hi) hyi).1 (h2 i hi)
    · rw [h1, if_neg (by omega), Int.toNat_natCast]
      have hlt : ks.getD b 0 < (rd_L4 ls (b : Int)).length := by have h6 := hk.2 b h2; have h7 : ¬ ks.getD b 0 = (rd_L4 ls (b : Int)).length := h3; omega
      have hk2 := hk.step h2 h3
      obtain ⟨i1, i2⟩ := ih (ks.set b (ks.getD b 0 + 1)) hk2 (by have := rest_set ls ks b (by rw [hk.1]; exact h2) hk.1 hlt; omega)
      have hb : b < (rests ls ks).length := by rw [rests_len]; exact h2
      have hC := flatten_at (rests ls ks) b hb
      have hC' := flatten_set (rests ls ks) b ((rd_L4 ls (b : Int)).drop (ks.getD b 0 + 1)) hb
      rw [← rests_set hk.1 h2] at hC'
      rw [rests_get, restAt_cons hlt] at hC
      refine ⟨fun x => ?_, List.Pairwise.cons (fun y hy => ?_) i2⟩
      · rw [List.filter_cons, i1 x, hC, hC', List.filter_append, List.filter_append, List.filter_append, List.filter_append, List.filter_cons]
        by_cases c : sameB x (hdE ls ks b) = true
        · rw [if_pos c, if_pos c]
          have hz : ((rests ls ks).take b).flatten.filter (sameB x) = [] := by
            refine filter_none (fun l hl y hy hsm => ?_)
            obtain ⟨j, hj, rfl⟩ := List.mem_take_iff_getElem.1 hl
            rw [rests_get] at hy
            have hjb : j < b := by omega
            have hjl : j < ls.length := by omega
            obtain ⟨e1, e2⟩ := restAt_mem hs hjl (hk.2 j hjl) hy
            have e3 := h4 j hjb e1
            have e4 : beforeB (hdE ls ks b) y = true := by
              rcases e2 with e2 | e2
              · rw [e2]; exact e3
              · exact lt_trans e3 e2
            exact lt_not_same e4 ((same_iff.1 c).symm.trans hsm)
          rw [hz]
          rfl
        · rw [if_neg c, if_neg c]
      · have hy1 : y ∈ (mergedF ls m (ks.set b (ks.getD b 0 + 1))).filter (sameB y) := List.mem_filter.2 ⟨hy, same_iff.2 (Same.refl y)⟩
        rw [i1 y] at hy1
        obtain ⟨j, hj, hyj⟩ := mem_rests (List.mem_filter.1 hy1).1
        intro hbad
        by_cases c : j = b
        · subst c
          have hyt : y ∈ (rd_L4 ls (j : Int)).drop (ks.getD j 0 + 1) := by
            unfold restAt at hyj
            rwa [getD_set ks j _ 0 (by rw [hk.1]; exact h2) j, if_pos rfl] at hyj
          have hst := restAt_sorted (ks := ks) hs hj
          rw [restAt_cons hlt] at hst
          exact lt_asym ((List.pairwise_cons.1 hst).1 y hyt) hbad
        · have hyj' : y ∈ restAt ls ks j := by
            unfold restAt at hyj ⊢
            rwa [getD_set ks b _ 0 (by rw [hk.1]; exact h2) j, if_neg c] at hyj
          obtain ⟨e1, e2⟩ := restAt_mem hs hj (hk.2 j hj) hyj'
          have e3 : beforeB (hdE ls ks j) (hdE ls ks b) = true := by
            rcases e2 with e2 | e2
            · rw [← e2]; exact hbad
            · exact lt_trans e2 hbad
          rcases Nat.lt_or_gt_of_ne c with f | f
          · exact lt_asym (h4 j f e1) e3
          · exact h5 j f hj e1 e3
/-! ## Fellows left out -/
theorem lastE_snoc (l : List Ent) (x : Ent) : lastE (l ++ [x]) = x := by
  unfold lastE
  rw [List.length_append, List.length_singleton, show ((l.length + 1 : Nat) : Int) - 1 = (l.length : Int) by omega, rd_gt]
  unfold gt
  rw [List.getD_eq_getElem?_getD, List.getElem?_append_right (Nat.le_refl _), Nat.sub_self]
  rfl
theorem step_spec (M : List Ent) (h : M.Pairwise (fun x y => ¬ beforeB y x = true)) : SSorted (M.foldl mergeStep []) ∧ (∀ x, x ∈ M.foldl mergeStep [] ↔ (M.filter (sameB x)).head? = some x) := by
  have key : ∀ n (M : List Ent), M.length = n → M.Pairwise (fun x y => ¬ beforeB y x = true) → SSorted (M.foldl mergeStep []) ∧ (∀ x, x ∈ M.foldl mergeStep [] ↔ (M.filter (sameB x)).head? = some x) := by
    intro n
    induction n with
    | zero =>
      intro M hM _
      rw [List.length_eq_zero_iff.1 hM]
      exact ⟨List.Pairwise.nil, fun x => by simp⟩
    | succ n ih =>
      intro M hM hP
      have hne : M ≠ [] := fun e => by rw [e] at hM; simp at hM
      obtain ⟨Q, e, rfl⟩ : ∃ Q e, M = Q ++ [e] := ⟨M.dropLast, M.getLast hne, (List.dropLast_concat_getLast hne).symm⟩
      obtain ⟨p1, _, p3⟩ := List.pairwise_append.1 hP
      obtain ⟨i1, i2⟩ := ih Q (by simpa using hM) p1
      rw [List.foldl_append]
      show SSorted (mergeStep (Q.foldl mergeStep []) e) ∧ ∀ x, x ∈ mergeStep (Q.foldl mergeStep []) e ↔ _
      have hcov : ∀ y ∈ Q, ∃ z ∈ Q.foldl mergeStep [], Same z y := by
        intro y hy
        have hy1 : y ∈ Q.filter (sameB y) := List.mem_filter.2 ⟨hy, same_iff.2 (Same.refl y)⟩
        cases hf : Q.filter (sameB y) with
        | nil => rw [hf] at hy1; cases hy1
        | cons z zs =>
          have hz : z ∈ Q.filter (sameB y) := by rw [hf]; exact List.mem_cons_self
          have hzs := same_iff.1 (List.mem_filter.1 hz).2
          refine ⟨z, (i2 z).2 ?_, hzs.symm⟩
          have hfun : Q.filter (sameB z) = Q.filter (sameB y) := by
            apply List.filter_congr
            intro u _
            rw [Bool.eq_iff_iff, same_iff, same_iff]
            exact ⟨fun k => hzs.trans k, fun k => hzs.symm.trans k⟩
          rw [hfun, hf]; rfl
      have hsub : ∀ z ∈ Q.foldl mergeStep [], z ∈ Q := fun z hz => by
        have := (i2 z).1 hz
        have h2 : z ∈ Q.filter (sameB z) := by
          cases hq : Q.filter (sameB z) with
          | nil => rw [hq] at this; cases this
          | cons a b => rw [hq] at this; have := Option.some.inj this; rw [← this]; exact List.mem_cons_self
        exact (List.mem_filter.1 h2).1
      have hle : ∀ z ∈ Q, ¬ beforeB e z = true := fun z hz => p3 z hz e (by simp)
      generalize Q.foldl mergeStep [] = D at i1 i2 hcov hsub ⊢
      have hfil : ∀ x, ((Q ++ [e]).filter (sameB x)).head? = some x ↔ ((Q.filter (sameB x)).head? = some x ∨ (Q.filter (sameB x) = [] ∧ x = e)) := by
        intro x
        rw [List.filter_append]
        cases hq : Q.filter (sameB x) with
        | nil =>
          rw [List.nil_append, List.filter_cons, List.filter_nil]
          by_cases c : sameB x e = true
          · rw [if_pos c]
            simp
            exact ⟨fun h => h.symm, fun h => h.symm⟩
          · rw [if_neg c]
            simp
            intro h
            exact c (by rw [h]; exact same_iff.2 (Same.refl e))
        | cons a b => simp
      by_cases hD : D = []
      · subst hD
        have hQ : Q = [] := by
          cases Q with
          | nil => rfl
          | cons q Q => obtain ⟨z, hz, _⟩ := hcov q List.mem_cons_self; cases hz
        subst hQ
        refine ⟨by unfold mergeStep; simp [SSorted], fun x => ?_⟩
        rw [hfil x]
        unfold mergeStep
        simp
      · obtain ⟨D0, d, rfl⟩ : ∃ Q e, D = Q ++ [e] := ⟨D.dropLast, D.getLast hD, (List.dropLast_concat_getLast hD).symm⟩
        have hde : ¬ beforeB e d = true := hle d (hsub d (by simp))
        unfold mergeStep
        rw [lastE_snoc]
        by_cases c : Same d e
        · rw [if_pos ⟨by simp, by rw [c.1], c.2⟩]
          refine ⟨i1, fun x => ?_⟩
          rw [hfil x, i2 x]
          constructor
          · exact fun h => .inl h
          · rintro (h | ⟨h1, h2⟩)
            · exact h
            · exfalso
              have hd : d ∈ Q.filter (sameB x) := List.mem_filter.2 ⟨hsub d (by simp), same_iff.2 (h2 ▸ c.symm)⟩
              rw [h1] at hd; cases hd
        · have hlt : beforeB d e = true := by
            rcases lt_tri d e with f | f | f
            · exact f
            · exact absurd f c
            · exact absurd f hde
          rw [if_neg (fun h => c ⟨toList_inj h.2.1, h.2.2⟩)]
          have hall : ∀ z ∈ D0 ++ [d], beforeB z e = true := by
            intro z hz
            rcases List.mem_append.1 hz with f | f
            · exact lt_trans ((List.pairwise_append.1 i1).2.2 z f d (by simp)) hlt
            · rw [List.mem_singleton.1 f]; exact hlt
          refine ⟨List.pairwise_append.2 ⟨i1, List.pairwise_singleton _ _, fun z hz y hy => by rw [List.mem_singleton.1 hy]; exact hall z hz⟩, fun x => ?_⟩
          rw [hfil x, List.mem_append, i2 x]
          constructor
          · rintro (h | h)
            · exact .inl h
            · refine .inr ⟨?_, List.mem_singleton.1 h⟩
              rw [List.mem_singleton.1 h, List.filter_eq_nil_iff]
              intro y hy hye
              obtain ⟨z, hz, hzy⟩ := hcov y hy
              exact lt_not_same (hall z hz) (hzy.trans (same_iff.1 hye).symm)
          · rintro (h | ⟨_, h⟩)
            · exact .inl h
            · exact .inr (by rw [h]; simp)
  exact key M.length M rfl h
/-! ## The merged lists -/
def mergeR (ls : List (List Ent)) : List Ent := (mergedF ls (restF ls (List.replicate ls.length 0) + 1) (List.replicate ls.length 0)).foldl mergeStep []
theorem rep_getD (n i : Nat) : (List.replicate n 0).getD i 0 = 0 := by
  rw [List.getD_eq_getElem?_getD, List.getElem?_replicate]
  split <;> rfl
theorem rests_zero (ls : List (List Ent)) : rests ls (List.replicate ls.length 0) = ls := by
  apply List.ext_getElem
  · rw [rests_len]
  · intro i h1 h2
    rw [rests_get]
    unfold restAt rd_L4
    rw [rep_getD, List.drop_zero, Int.toNat_natCast, List.getD_eq_getElem?_getD, List.getElem?_eq_getElem h2]
    rfl
theorem mergeR_spec (ls : List (List Ent)) (hs : AllSorted ls) : SSorted (mergeR ls) ∧ ∀ x, x ∈ mergeR ls ↔ (ls.flatten.filter (sameB x)).head? = some x := by
  obtain ⟨h1, h2⟩ := merged_spec ls hs (restF ls (List.replicate ls.length 0) + 1) (List.replicate ls.length 0) ⟨by simp, fun i _ => by rw [rep_getD]; omega⟩ (by omega)
  obtain ⟨h3, h4⟩ := step_spec _ h2
  refine ⟨h3, fun x => ?_⟩
  unfold mergeR
  rw [h4 x, h1 x, rests_zero]
end Go.Proofs.Yteljlfodjbgejaa.Print

namespace Go.Proofs.Yteljlfodjbgejaa.Print
open Go.RowKit Go.Proofs.YteljlfodjbgejaaX Go.Proofs.YteljlfodjbgejaaW.PrintWords Go.Proofs.YteljlfodjbgejaaW.PrintLast
set_option linter.unusedVariables false
set_option linter.unusedSimpArgs false

/-! ## What Fold, See and Merge come to -/
def grps (l : List Ent) : List (List Ent) := groupsF l.length l
theorem grps_flat (l : List Ent) : (grps l).flatten = l := groups_flat _ _ (Nat.le_refl _)
theorem grps_ok {l : List Ent} (h : SSorted l) : GrpsOk (grps l) := groups_ok _ _ (Nat.le_refl _) h
theorem grps_of {gs : List (List Ent)} (h : GrpsOk gs) : grps gs.flatten = gs := groups_of gs _ h (Nat.le_refl _)
theorem grp_len {l g : List Ent} (h : g ∈ grps l) : g.length ≤ l.length := by
  have hs : g.Sublist (grps l).flatten := List.sublist_flatten_of_mem h
  rw [grps_flat] at hs
  exact hs.length_le
def foldR (keep : List Int) (bottom : Bool) (l : List Ent) : List Ent := (grps l).flatMap (foldG keep bottom)
def seeR (s : Int) (l : List Ent) : List Ent := (grps l).flatMap (seeG s)
theorem foldl_flat {f : List Ent → List Ent → List Ent} {h : List Ent → List Ent} : ∀ (gs : List (List Ent)) (out : List Ent), (∀ g ∈ gs, ∀ o, f o g = o ++ h g) → gs.foldl f out = out ++ gs.flatMap h := by
  intro gs
  induction gs with
  | nil => intro out _; simp
  | cons g gs ih =>
    intro out hh
    rw [List.foldl_cons, hh g List.mem_cons_self, ih _ (fun x hx => hh x (List.mem_cons_of_mem _ hx)), List.flatMap_cons, List.append_assoc]
theorem ss_of {l : List Ent} (h : sortedB l = true) : SSorted l := ((sorted_iff l).1 h).2
theorem sorted_k (l : List Ent) (hl : l.length ≤ 1000000) : block_Sorted.f kBig l = some (sortedB l) := sorted_big l (by omega) kBig (by rw [kBig_eq]; omega)
theorem fold_val (l : List Ent) (keep : List Int) (bottom : Bool) (hl : l.length ≤ 1000000) (hk : keep.length ≤ 4611686018427387904) : merge_Fold.f l keep bottom = some (if sortedB l = true then (foldR keep bottom l, none) else ([], some 1)) := by
  unfold merge_Fold.f
  rw [if_pos ⟨hl, hk, by rw [sorted_k l hl]; rfl⟩, sorted_k l hl]
  cases hs : sortedB l with
  | false => rw [if_pos (show (some false).getD false = false from rfl), if_neg (by decide)]
  | true =>
    rw [if_neg (show ¬ (some true).getD false = false by decide), if_pos rfl]
    have h := foldl_flat (f := foldStep keep bottom) (h := foldG keep bottom) (groupsF l.length l) [] (fun g hg o => foldStep_grp keep bottom ((grps_ok (ss_of hs)).1 g hg) o)
    rw [h]; rfl
theorem findE_some (g : List Ent) (hl : g.length ≤ 1000000) (s : Int) : (findE g s).isSome = true := by
  unfold findE
  rw [find_big g _ s (by omega) kBig (by rw [kBig_eq]; omega)]
  rfl
theorem see_val (l : List Ent) (s : Int) (hl : l.length ≤ 1000000) : merge_See.f l s = some (if sortedB l = true then (seeR s l, none) else ([], some 1)) := by
  unfold merge_See.f
  rw [if_pos ⟨hl, by rw [sorted_k l hl]; rfl, by rw [List.all_eq_true]; exact fun g hg => findE_some g (by have := grp_len (l := l) hg; omega) s⟩, sorted_k l hl]
  cases hs : sortedB l with
  | false => rw [if_pos (show (some false).getD false = false from rfl), if_neg (by decide)]
  | true =>
    rw [if_neg (show ¬ (some true).getD false = false by decide), if_pos rfl]
    have h := foldl_flat (f := seeStep s) (h := seeG s) (groupsF l.length l) [] (fun g hg o => seeStep_grp ((grps_ok (ss_of hs)).1 g hg) (by have := grp_len (l := l) hg; omega) s o)
    rw [h]; rfl
theorem rest_le : ∀ (ls : List (List Ent)) (ks : List Nat), (∀ l ∈ ls, l.length ≤ 1000) → restF ls ks ≤ ls.length * 1000 := by
  intro ls
  induction ls with
  | nil => intro ks _; cases ks <;> simp [restF]
  | cons l ls ih =>
    intro ks h
    cases ks with
    | nil => simp [restF]
    | cons k ks =>
      have h1 := ih ks (fun x hx => h x (List.mem_cons_of_mem _ hx))
      have h2 := h l List.mem_cons_self
      simp only [restF, List.length_cons]
      omega
theorem merge_val (ls : List (List Ent)) (hl : ls.length ≤ 1000) (hx : ∀ l ∈ ls, l.length ≤ 1000) : merge_Merge.f ls = some (if ls.all sortedB = true then (mergeR ls, none) else ([], some 1)) := by
  unfold merge_Merge.f
  have hsk : ∀ l ∈ ls, block_Sorted.f kBig l = some (sortedB l) := fun l h => sorted_k l (by have := hx l h; omega)
  have h1 : ls.all (fun x => decide (x.length ≤ 1000) && (block_Sorted.f kBig x).isSome) = true := by
    rw [List.all_eq_true]
    intro l h
    rw [hsk l h, decide_eq_true (hx l h)]; rfl
  rw [if_pos ⟨hl, h1, by have := rest_le ls (List.replicate ls.length 0) hx; omega⟩]
  have h2 : ls.any (fun x => !((block_Sorted.f kBig x).getD false)) = !(ls.all sortedB) := by
    rw [Bool.eq_iff_iff, List.any_eq_true, Bool.not_eq_true', ← Bool.not_eq_true, List.all_eq_true]
    constructor
    · rintro ⟨l, h, e⟩ hall
      rw [hsk l h, hall l h] at e
      cases e
    · intro h
      apply Classical.byContradiction
      intro hn
      refine h (fun l hl' => ?_)
      apply Classical.byContradiction
      intro hs
      exact hn ⟨l, hl', by rw [hsk l hl']; simpa using hs⟩
  rw [h2]
  cases ls.all sortedB with
  | true => rw [if_neg (by decide), if_pos rfl]; rfl
  | false => rw [if_pos (by decide), if_neg (by decide)]
theorem allSorted_of {ls : List (List Ent)} (h : ls.all sortedB = true) : AllSorted ls := by
  intro i hi
  rw [List.all_eq_true] at h
  refine ss_of (h _ ?_)
  unfold rd_L4
  rw [Int.toNat_natCast, List.getD_eq_getElem?_getD, List.getElem?_eq_getElem hi]
  exact List.getElem_mem hi
/-! ## What is kept is sorted -/
theorem fold_grps (keep : List Int) (bottom : Bool) {gs : List (List Ent)} (h : GrpsOk gs) : GrpsOk ((gs.map (foldG keep bottom)).filter (fun g => !g.isEmpty)) := by
  induction gs with
  | nil => exact ⟨(fun g hg => by cases hg), List.Pairwise.nil⟩
  | cons g gs ih =>
    obtain ⟨h1, h2⟩ := h
    obtain ⟨b1, b2⟩ := List.pairwise_cons.1 h2
    obtain ⟨i1, i2⟩ := ih ⟨fun x hx => h1 x (List.mem_cons_of_mem _ hx), b2⟩
    rw [List.map_cons, List.filter_cons]
    by_cases c : foldG keep bottom g = []
    · rw [c]; exact ⟨i1, i2⟩
    · rw [if_pos (by cases hq : foldG keep bottom g with | nil => exact absurd hq c | cons => rfl)]
      obtain ⟨q1, q2⟩ := grp_sub (h1 g List.mem_cons_self) (foldG_sub keep bottom g) c
      refine ⟨fun x hx => ?_, List.Pairwise.cons (fun y hy => ?_) i2⟩
      · rcases List.mem_cons.1 hx with rfl | hx
        · exact q1
        · exact i1 x hx
      · obtain ⟨hy1, hy2⟩ := List.mem_filter.1 hy
        obtain ⟨z, hz, rfl⟩ := List.mem_map.1 hy1
        have hne : foldG keep bottom z ≠ [] := fun e => by rw [e] at hy2; cases hy2
        rw [q2, (grp_sub (h1 z (List.mem_cons_of_mem _ hz)) (foldG_sub keep bottom z) hne).2]
        exact b1 z hz
theorem flat_filter (gs : List (List Ent)) : (gs.filter (fun g => !g.isEmpty)).flatten = gs.flatten := by
  induction gs with
  | nil => rfl
  | cons g gs ih =>
    rw [List.filter_cons]
    cases g with
    | nil => simpa using ih
    | cons x xs => rw [if_pos (show (!(x :: xs).isEmpty) = true from rfl), List.flatten_cons, List.flatten_cons, ih]
theorem foldR_grps (keep : List Int) (bottom : Bool) {l : List Ent} (h : SSorted l) : grps (foldR keep bottom l) = ((grps l).map (foldG keep bottom)).filter (fun g => !g.isEmpty) := by
  have hg := fold_grps keep bottom (grps_ok h)
  rw [← grps_of hg, flat_filter, ← List.flatMap_def]
  rfl
theorem foldR_sorted (keep : List Int) (bottom : Bool) {l : List Ent} (h : sortedB l = true) : sortedB (foldR keep bottom l) = true := by
  obtain ⟨h1, h2⟩ := (sorted_iff l).1 h
  have hs : (foldR keep bottom l).Sublist l := by
    conv => rhs; rw [← grps_flat l]
    unfold foldR
    generalize grps l = gs
    induction gs with
    | nil => exact List.Sublist.slnil
    | cons g gs ih => rw [List.flatMap_cons, List.flatten_cons]; exact (foldG_sub keep bottom g).append ih
  exact (sorted_iff _).2 ⟨fun x hx => h1 x (hs.subset hx), h2.sublist hs⟩
theorem foldR_sub (keep : List Int) (bottom : Bool) (l : List Ent) : (foldR keep bottom l).Sublist l := by
  conv => rhs; rw [← grps_flat l]
  unfold foldR
  generalize grps l = gs
  induction gs with
  | nil => exact List.Sublist.slnil
  | cons g gs ih => rw [List.flatMap_cons, List.flatten_cons]; exact (foldG_sub keep bottom g).append ih
theorem flatMap_filter {h : List Ent → List Ent} (h0 : h [] = []) (gs : List (List Ent)) : (gs.filter (fun g => !g.isEmpty)).flatMap h = gs.flatMap h := by
  induction gs with
  | nil => rfl
  | cons g gs ih =>
    rw [List.filter_cons]
    cases g with
    | nil => rw [List.flatMap_cons, h0, List.nil_append]; simpa using ih
    | cons x xs => rw [if_pos (show (!(x :: xs).isEmpty) = true from rfl), List.flatMap_cons, List.flatMap_cons, ih]
/-- What is seen of what was kept. -/
theorem see_fold (keep : List Int) (bottom : Bool) (s : Int) {l : List Ent} (h : SSorted l) (hs : s ∈ keep ∨ ∀ x ∈ l, x.f1 ≤ s) : seeR s (foldR keep bottom l) = seeR s l := by
  unfold seeR
  rw [foldR_grps keep bottom h, flatMap_filter rfl, List.flatMap_map]
  have hall : ∀ g ∈ grps l, seeG s (foldG keep bottom g) = seeG s g := fun g hg => seeG_fold bottom (hs.imp_right (fun hx x hxg => hx x (by rw [← grps_flat l]; exact List.mem_flatten.2 ⟨g, hg, hxg⟩)))
  generalize grps l = gs at hall
  induction gs with
  | nil => rfl
  | cons g gs ih => rw [List.flatMap_cons, List.flatMap_cons, hall g List.mem_cons_self, ih (fun x hx => hall x (List.mem_cons_of_mem _ hx))]
theorem fold_fold (keep : List Int) (bottom : Bool) {l : List Ent} (h : SSorted l) : foldR keep bottom (foldR keep bottom l) = foldR keep bottom l := by
  have h0 : foldG keep bottom [] = [] := by unfold foldG; cases bottom <;> rfl
  have e : foldR keep bottom (foldR keep bottom l) = (grps (foldR keep bottom l)).flatMap (foldG keep bottom) := rfl
  rw [e, foldR_grps keep bottom h, flatMap_filter h0, List.flatMap_map]
  unfold foldR
  have hall : ∀ g ∈ grps l, foldG keep bottom (foldG keep bottom g) = foldG keep bottom g := fun g hg => foldG_again keep bottom ((grps_ok h).1 g hg)
  generalize grps l = gs at hall
  induction gs with
  | nil => rfl
  | cons g gs ih => rw [List.flatMap_cons, List.flatMap_cons, hall g List.mem_cons_self, ih (fun x hx => hall x (List.mem_cons_of_mem _ hx))]
theorem fold_less (keep : List Int) (bottom : Bool) {l : List Ent} (h : SSorted l) : (foldR [] bottom l).length ≤ (foldR keep bottom l).length := by
  unfold foldR
  have hall : ∀ g ∈ grps l, (foldG [] bottom g).length ≤ (foldG keep bottom g).length := fun g hg => foldG_less keep bottom ((grps_ok h).1 g hg)
  generalize grps l = gs at hall
  induction gs with
  | nil => exact Nat.le_refl _
  | cons g gs ih =>
    have h1 := hall g List.mem_cons_self
    have h2 := ih (fun x hx => hall x (List.mem_cons_of_mem _ hx))
    rw [List.flatMap_cons, List.flatMap_cons, List.length_append, List.length_append]
    omega
/-! ## The chapter's examples -/
def xA5 : Ent := ⟨⟨#[97]⟩, 5, false, ⟨#[]⟩⟩
def xA3 : Ent := ⟨⟨#[97]⟩, 3, false, ⟨#[]⟩⟩
def xA1 : Ent := ⟨⟨#[97]⟩, 1, false, ⟨#[]⟩⟩
def xD5 : Ent := ⟨⟨#[97]⟩, 5, true, ⟨#[]⟩⟩
def xB9 : Ent := ⟨⟨#[98]⟩, 9, false, ⟨#[]⟩⟩
def xB1 : Ent := ⟨⟨#[98]⟩, 1, false, ⟨#[]⟩⟩
theorem ex_s1 : sortedB [xA5, xA3, xA1] = true := by
  unfold sortedB sAt rightB beforeB bless xA5 xA3 xA1
  simp only [ByteArray.toList_eq]
  decide +kernel
theorem ex_s2 : sortedB [xD5, xA3] = true := by
  unfold sortedB sAt rightB beforeB bless xD5 xA3
  simp only [ByteArray.toList_eq]
  decide +kernel
theorem ex_s3 : sortedB [xD5, xA3, xB9] = true := by
  unfold sortedB sAt rightB beforeB bless xD5 xA3 xB9
  simp only [ByteArray.toList_eq]
  decide +kernel
theorem ex_s4 : ([[xB1], [xA1]] : List (List Ent)).all sortedB = true := by
  unfold sortedB sAt rightB beforeB bless xB1 xA1
  simp only [ByteArray.toList_eq]
  decide +kernel
theorem grp_1 (x : Ent) : Grp [x] := ⟨by simp, fun y hy => by rw [List.mem_singleton.1 hy]; rfl, List.pairwise_singleton _ _⟩
theorem ex_g1 : Grp [xA5, xA3, xA1] := ⟨by simp, fun y hy => by
    simp only [List.mem_cons, List.not_mem_nil, or_false] at hy
    rcases hy with rfl | rfl | rfl <;> rfl, by simp [xA5, xA3, xA1]⟩
theorem ex_g2 : Grp [xD5, xA3] := ⟨by simp, fun y hy => by
    simp only [List.mem_cons, List.not_mem_nil, or_false] at hy
    rcases hy with rfl | rfl <;> rfl, by simp [xD5, xA3]⟩
theorem ok_1 {g : List Ent} (h : Grp g) : GrpsOk [g] := ⟨fun x hx => by rw [List.mem_singleton.1 hx]; exact h, List.pairwise_singleton _ _⟩
theorem ex_f1 : foldR [4, 4] false [xA5, xA3, xA1] = [xA5, xA3] := by
  have h := grps_of (ok_1 ex_g1)
  rw [List.flatten_singleton] at h
  unfold foldR
  rw [h]
  rfl
theorem ex_f2 : foldR [] true [xD5, xA3] = [] := by
  have h := grps_of (ok_1 ex_g2)
  rw [List.flatten_singleton] at h
  unfold foldR
  rw [h]
  rfl
theorem ex_f3 : seeR 4 [xD5, xA3, xB9] = [xA3] := by
  have hb : bless (gt [xD5, xA3] 0).f0 (gt [xB9] 0).f0 = true := by
    show Op.bytesLess (ByteArray.toList ⟨#[97]⟩) (ByteArray.toList ⟨#[98]⟩) = true
    simp only [ByteArray.toList_eq]
    decide +kernel
  have hok : GrpsOk [[xD5, xA3], [xB9]] := ⟨fun x hx => by
      simp only [List.mem_cons, List.not_mem_nil, or_false] at hx
      rcases hx with rfl | rfl
      · exact ex_g2
      · exact grp_1 _, List.Pairwise.cons (fun y hy => by rw [List.mem_singleton.1 hy]; exact hb) (List.pairwise_singleton _ _)⟩
  have h := grps_of hok
  have e : ([[xD5, xA3], [xB9]] : List (List Ent)).flatten = [xD5, xA3, xB9] := rfl
  rw [e] at h
  unfold seeR
  rw [h]
  rfl
theorem ex_f4 : mergeR [[xB1], [xA1]] = [xA1, xB1] := by
  obtain ⟨h1, h2⟩ := mergeR_spec [[xB1], [xA1]] (allSorted_of ex_s4)
  have hb : beforeB xA1 xB1 = true := by
    unfold beforeB bless xA1 xB1
    simp only [ByteArray.toList_eq]
    decide +kernel
  refine ssorted_ext _ _ h1 (List.Pairwise.cons (fun y hy => by rw [List.mem_singleton.1 hy]; exact hb) (List.pairwise_singleton _ _)) (fun x => ?_)
  rw [h2 x]
  have e : ([[xB1], [xA1]] : List (List Ent)).flatten = [xB1, xA1] := rfl
  rw [e]
  constructor
  · intro h
    have hm : x ∈ ([xB1, xA1].filter (sameB x)) := List.mem_of_mem_head? h
    rcases List.mem_cons.1 (List.mem_filter.1 hm).1 with rfl | f
    · simp
    · rw [List.mem_singleton.1 f]; simp
  · intro h
    rcases List.mem_cons.1 h with rfl | f
    · have hn : sameB xA1 xB1 = false := by
        cases hs : sameB xA1 xB1 with
        | false => rfl
        | true => exact absurd (same_iff.1 hs) (lt_not_same hb)
      rw [List.filter_cons, hn, if_neg (by decide), List.filter_cons, if_pos (same_iff.2 (Same.refl _))]
      rfl
    · rw [List.mem_singleton.1 f, List.filter_cons, if_pos (same_iff.2 (Same.refl _))]
      rfl
theorem examples_val : palinodelaw15_examples.f = some true := by
  unfold palinodelaw15_examples.f
  have e1 : merge_Fold.f [xA5, xA3, xA1] [4, 4] false = some ([xA5, xA3], none) := by rw [fold_val _ _ _ (by simp) (by simp), if_pos ex_s1, ex_f1]
  have e2 : merge_Fold.f [xD5, xA3] [] true = some ([], none) := by rw [fold_val _ _ _ (by simp) (by simp), if_pos ex_s2, ex_f2]
  have e3 : merge_See.f [xD5, xA3, xB9] 4 = some ([xA3], none) := by rw [see_val _ _ (by simp), if_pos ex_s3, ex_f3]
  have e4 : merge_Merge.f [[xB1], [xA1]] = some ([xA1, xB1], none) := by rw [merge_val _ (by simp) (by simp), if_pos ex_s4, ex_f4]
  unfold xA5 xA3 xA1 at e1
  unfold xD5 xA3 at e2
  unfold xD5 xA3 xB9 at e3
  unfold xA1 xB1 at e4
  rw [e1, Option.bind_some, e2, Option.bind_some, e3, Option.bind_some, e4, Option.bind_some]
  have hk : (ByteArray.toList ⟨#[97]⟩) = ([97] : List UInt8) := by rw [ByteArray.toList_eq]
  simp [rd_T34, hk]
end Go.Proofs.Yteljlfodjbgejaa.Print

namespace Go.Proofs.Yteljlfodjbgejaa.Print
open Go.RowKit Go.Proofs.YteljlfodjbgejaaX Go.Proofs.YteljlfodjbgejaaW.PrintWords Go.Proofs.YteljlfodjbgejaaW.PrintLast
set_option linter.unusedVariables false
set_option linter.unusedSimpArgs false

theorem entries_l0 (a : List Ent) (ha : a.length ≤ 4611686018427387904) : ∀ (n i k : Nat), a.length - i = n → i ≤ a.length → n < k → palinodelaw15_entries.l0 k a a (i : Int) = some true := by
  intro n
  induction n with
  | zero =>
    intro i k hn hi hk
    obtain ⟨k, rfl⟩ : ∃ j, k = j + 1 := ⟨k - 1, by omega⟩
    simp only [palinodelaw15_entries.l0]
    rw [if_neg (by omega)]
  | succ n ih =>
    intro i k hn hi hk
    obtain ⟨k, rfl⟩ : ∃ j, k = j + 1 := ⟨k - 1, by omega⟩
    simp only [palinodelaw15_entries.l0]
    rw [if_pos (by omega), if_pos (by omega), if_pos (by omega), if_neg (by simp), wrap_of _ (by omega) (by omega), show (i : Int) + 1 = ((i + 1 : Nat) : Int) by omega]
    exact ih (i + 1) k (by omega) (by omega) (by omega)
theorem entries_self (a : List Ent) (ha : a.length ≤ 4611686018427387904) (k : Nat) (hk : a.length < k) : palinodelaw15_entries.f k a a = some true := by
  unfold palinodelaw15_entries.f
  rw [if_pos rfl]
  exact entries_l0 a ha a.length 0 k (by omega) (by omega) hk
theorem mn_take (l : List Ent) (m : Nat) : ∃ q : List Ent, q.length ≤ m ∧ q = l.take (mn (l.length : Int) (m : Int)).toNat ∧ (0 : Int) ≤ mn (l.length : Int) (m : Int) ∧ mn (l.length : Int) (m : Int) ≤ (l.length : Int) := by
  have h : (mn (l.length : Int) (m : Int)).toNat ≤ m ∧ (0 : Int) ≤ mn (l.length : Int) (m : Int) ∧ mn (l.length : Int) (m : Int) ≤ (l.length : Int) := by unfold mn; omega
  exact ⟨_, by rw [List.length_take]; omega, rfl, h.2.1, h.2.2⟩
theorem fold_len (keep : List Int) (bottom : Bool) (l : List Ent) : (foldR keep bottom l).length ≤ l.length := (foldR_sub keep bottom l).length_le
theorem seeG_len (s : Int) (g : List Ent) : (seeG s g).length ≤ 1 := by
  unfold seeG
  split
  · split <;> simp
  · simp
theorem see_len (s : Int) {l : List Ent} (h : SSorted l) : (seeR s l).length ≤ l.length := by
  have h1 := flat_count (grps l) (fun g hg => List.length_pos_iff.2 ((grps_ok h).1 g hg).1)
  rw [grps_flat] at h1
  refine Nat.le_trans ?_ h1
  unfold seeR
  generalize grps l = gs
  induction gs with
  | nil => exact Nat.le_refl _
  | cons g gs ih =>
    rw [List.flatMap_cons, List.length_append, List.length_cons]
    have := seeG_len s g
    omega
end Go.Proofs.Yteljlfodjbgejaa.Print

namespace Go.Proofs.Yteljlfodjbgejaa.Print
open Go.RowKit Go.Proofs.YteljlfodjbgejaaX Go.Proofs.YteljlfodjbgejaaW.PrintWords Go.Proofs.YteljlfodjbgejaaW.PrintLast
set_option linter.unusedVariables false
set_option linter.unusedSimpArgs false

theorem right_iff {e : Ent} : rightB e = true ↔ (e.f2 = true → e.f3.toList = []) ∧ 1 ≤ e.f1 ∧ e.f1 ≤ 9007199254740991 ∧ 0 < e.f0.size ∧ e.f0.size ≤ 80 ∧ e.f3.size ≤ 300 := by
  unfold rightB
  simp only [Bool.and_eq_true, decide_eq_true_eq, Bool.not_eq_true', Bool.and_eq_false_iff, bne_eq_false_iff_eq]
  constructor
  · rintro ⟨⟨⟨⟨⟨h1, h2⟩, h3⟩, h4⟩, h5⟩, h6⟩
    exact ⟨fun h => h1.resolve_left (by rw [h]; simp), h2, h3, h4, h5, h6⟩
  · rintro ⟨h1, h2, h3, h4, h5, h6⟩
    refine ⟨⟨⟨⟨⟨?_, h2⟩, h3⟩, h4⟩, h5⟩, h6⟩
    cases h : e.f2 with
    | true => exact .inr (h1 h)
    | false => exact .inl rfl
theorem toList_nil_iff {s : ByteArray} : s.toList = ([] : List UInt8) ↔ s.size = 0 := by
  rw [ByteArray.toList_eq]
  constructor
  · intro h
    have := congrArg List.length h
    simpa using this
  · intro h
    apply List.length_eq_zero_iff.1
    simpa using h
theorem refRight_eq (e : Ent) : palinoderef10_Right.f e.f0 e.f1 e.f2 e.f3 = some (rightB e) := by
  have key : ∀ b : Bool, (rightB e = b) → palinoderef10_Right.f e.f0 e.f1 e.f2 e.f3 = some b := by
    intro b hb
    unfold palinoderef10_Right.f
    have no : ∀ p : Prop, ¬ p → (rightB e = true → p) → b = false := fun p hp h => by
      cases b with
      | false => rfl
      | true => exact absurd (h hb) hp
    have hR := fun h => (right_iff (e := e)).1 h
    by_cases c1 : e.f0.toList = ([] : List UInt8)
    · rw [if_pos c1, no (0 < e.f0.size) (by rw [toList_nil_iff] at c1; omega) (fun h => (hR h).2.2.2.1)]
    · rw [if_neg c1]
      have z0 : 0 < e.f0.size := by rw [toList_nil_iff] at c1; omega
      by_cases c2 : (e.f0.size : Int) ≤ 80
      · rw [if_pos c2]
        by_cases c3 : (e.f3.size : Int) ≤ 300
        · rw [if_pos c3]
          by_cases c4 : e.f1 ≥ 1
          · rw [if_pos c4]
            by_cases c5 : e.f1 ≤ 9007199254740991
            · rw [if_pos c5]
              by_cases c6 : e.f2 = true
              · rw [if_pos c6, ← hb]
                congr 1
                rw [Bool.eq_iff_iff, beq_iff_eq, right_iff]
                exact ⟨fun h => ⟨fun _ => h, c4, c5, z0, by omega, by omega⟩, fun h => h.1 c6⟩
              · rw [if_neg c6, ← hb]
                congr 1
                symm
                rw [right_iff]
                exact ⟨fun h => absurd h c6, c4, c5, z0, by omega, by omega⟩
            · rw [if_neg c5, no _ c5 (fun h => (hR h).2.2.1)]
          · rw [if_neg c4, no (1 ≤ e.f1) (by omega) (fun h => (hR h).2.1)]
        · rw [if_neg c3, no (e.f3.size ≤ 300) (by omega) (fun h => (hR h).2.2.2.2.2)]
      · rw [if_neg c2, no (e.f0.size ≤ 80) (by omega) (fun h => (hR h).2.2.2.2.1)]
  exact key _ rfl
theorem refBefore_eq (x y : Ent) : palinoderef10_Before.f x.f0 x.f1 x.f2 x.f3 y.f0 y.f1 y.f2 y.f3 = some (beforeB x y) := by
  unfold palinoderef10_Before.f beforeB bless
  by_cases d : x.f0.toList = y.f0.toList
  · rw [if_pos d, d, bl_irr]; simp
  · rw [if_neg d, beq_eq_false_iff_ne.mpr d]; simp
theorem refSorted_l0 (l : List Ent) (hl : l.length ≤ 4611686018427387904) : ∀ (n i k : Nat), l.length - i = n → i ≤ l.length → n < k → palinoderef12_Sorted.l0 k l (i : Int) = some (((List.range l.length).drop i).all (sAt l)) := by
  intro n
  induction n with
  | zero =>
    intro i k hn hi hk
    obtain ⟨k, rfl⟩ : ∃ j, k = j + 1 := ⟨k - 1, by omega⟩
    simp only [palinoderef12_Sorted.l0]
    rw [if_neg (by omega), List.drop_eq_nil_of_le (by simp; omega)]
    rfl
  | succ n ih =>
    intro i k hn hi hk
    obtain ⟨k, rfl⟩ : ∃ j, k = j + 1 := ⟨k - 1, by omega⟩
    simp only [palinoderef12_Sorted.l0]
    rw [if_pos (by omega), if_pos (by omega), rd_gt, refRight_eq, Option.bind_some, range_drop _ _ (by omega), List.all_cons, wrap_of ((i : Int) + 1) (by omega) (by omega), show (i : Int) + 1 = ((i + 1 : Nat) : Int) by omega, ih (i + 1) k (by omega) (by omega) (by omega)]
    unfold sAt
    cases hr : rightB (gt l i) with
    | false => rw [if_neg (by simp)]; simp
    | true =>
      rw [if_pos rfl]
      by_cases h0 : i = 0
      · subst h0
        rw [if_neg (by omega)]
        simp
      · rw [if_pos (by omega), wrap_of ((i : Int) - 1) (by omega) (by omega), show (i : Int) - 1 = ((i - 1 : Nat) : Int) by omega, if_pos (by omega), if_pos (by omega), rd_gt, refBefore_eq, Option.bind_some, decide_eq_false h0]
        cases hb : beforeB (gt l (i - 1)) (gt l i) with
        | false => rw [if_neg (by simp)]; simp
        | true => rw [if_pos rfl]; simp
theorem refSorted_big (l : List Ent) (hl : l.length ≤ 4611686018427387904) (k : Nat) (hk : l.length < k) : palinoderef12_Sorted.f k l = some (sortedB l) := by
  unfold palinoderef12_Sorted.f
  have h := refSorted_l0 l hl l.length 0 k (by omega) (by omega) hk
  rw [show ((0 : Nat) : Int) = 0 from rfl, List.drop_zero] at h
  exact h
end Go.Proofs.Yteljlfodjbgejaa.Print

namespace Go.Proofs.Yteljlfodjbgejaa.Print
open Go.RowKit Go.Proofs.YteljlfodjbgejaaX Go.Proofs.YteljlfodjbgejaaW.PrintWords Go.Proofs.YteljlfodjbgejaaW.PrintLast
set_option linter.unusedVariables false
set_option linter.unusedSimpArgs false

/-! ## The chapter's Fold, entry by entry -/
def needL (keep : List Int) (p : Option Ent) (x : Ent) : Bool := match p with
  | none => true
  | some p => p.f0.toList != x.f0.toList || need keep p x
def lastL (x : Ent) (r : List Ent) : Bool := match r with
  | [] => true
  | y :: _ => y.f0.toList != x.f0.toList
def popF (key : ByteArray) : Nat → List Ent → List Ent
  | 0, l => l
  | m + 1, l => if 0 < l.length ∧ (lastE l).f0.toList = key.toList ∧ (lastE l).f2 = true then popF key m (l.take (l.length - 1)) else l
def stepL (keep : List Int) (bottom : Bool) (p : Option Ent) (x : Ent) (r out : List Ent) : List Ent :=
  if bottom = true ∧ lastL x r = true then popF x.f0 (if needL keep p x = true then out ++ [x] else out).length (if needL keep p x = true then out ++ [x] else out) else (if needL keep p x = true then out ++ [x] else out)
def iterL (keep : List Int) (bottom : Bool) : Option Ent → List Ent → List Ent → List Ent
  | _, [], out => out
  | p, x :: r, out => iterL keep bottom (some x) r (stepL keep bottom p x r out)
theorem popF_len (key : ByteArray) : ∀ (m : Nat) (l : List Ent), (popF key m l).length ≤ l.length := by
  intro m
  induction m with
  | zero => intro l; exact Nat.le_refl _
  | succ m ih =>
    intro l
    simp only [popF]
    split
    · have := ih (l.take (l.length - 1)); rw [List.length_take] at this; omega
    · exact Nat.le_refl _
theorem stepL_len (keep : List Int) (bottom : Bool) (p : Option Ent) (x : Ent) (r out : List Ent) : (stepL keep bottom p x r out).length ≤ out.length + 1 := by
  have h : (if needL keep p x = true then out ++ [x] else out).length ≤ out.length + 1 := by split <;> simp
  unfold stepL
  split
  · exact Nat.le_trans (popF_len _ _ _) h
  · exact h
theorem needed_l0 (l : List Ent) (keep : List Int) (i : Nat) (hi : i + 1 < l.length) (hl : l.length ≤ 1000000) (hk : keep.length ≤ 4611686018427387904) : ∀ (n j k : Nat), keep.length - j = n → j ≤ keep.length → n < k →
    palinoderef15_needed.l0 k l ((i + 1 : Nat) : Int) keep (j : Int) = some (need (keep.drop j) (gt l i) (gt l (i + 1))) := by
  intro n
  induction n with
  | zero =>
    intro j k hn hj hkk
    obtain ⟨k, rfl⟩ : ∃ q, k = q + 1 := ⟨k - 1, by omega⟩
    simp only [palinoderef15_needed.l0]
    rw [if_neg (by omega), List.drop_eq_nil_of_le (by omega)]
    rfl
  | succ n ih =>
    intro j k hn hj hkk
    obtain ⟨k, rfl⟩ : ∃ q, k = q + 1 := ⟨k - 1, by omega⟩
    have hw : wrap64 (((i + 1 : Nat) : Int) - 1) = (i : Int) := by unfold wrap64; omega
    have hj1 : wrap64 ((j : Int) + 1) = ((j + 1 : Nat) : Int) := by unfold wrap64; omega
    have hd : keep.drop j = rd keep (j : Int) :: keep.drop (j + 1) := drop_rdI keep j (by omega)
    have hih := ih (j + 1) k (by omega) (by omega) (by omega)
    have hnd : need (keep.drop j) (gt l i) (gt l (i + 1)) = ((decide ((gt l (i + 1)).f1 ≤ rd keep (j : Int)) && decide (rd keep (j : Int) < (gt l i).f1)) || need (keep.drop (j + 1)) (gt l i) (gt l (i + 1))) := by rw [hd]; rfl
    simp only [palinoderef15_needed.l0]
    rw [if_pos (by omega), if_pos (by omega), if_pos (by omega), if_pos (by omega), rd_gt, hj1, hih, hnd]
    by_cases c : (gt l (i + 1)).f1 ≤ rd keep (j : Int)
    · rw [if_pos c, hw, if_pos (by omega), if_pos (by omega), rd_gt]
      by_cases d : (gt l i).f1 > rd keep (j : Int)
      · rw [if_pos d, decide_eq_true c, decide_eq_true (show rd keep (j : Int) < (gt l i).f1 from d)]; rfl
      · rw [if_neg d, decide_eq_false (show ¬ rd keep (j : Int) < (gt l i).f1 from d), Bool.and_false, Bool.false_or]
    · rw [if_neg c, decide_eq_false c, Bool.false_and, Bool.false_or]
def prevE (l : List Ent) (i : Nat) : Option Ent := if i = 0 then none else some (gt l (i - 1))
theorem needed_eq (l : List Ent) (keep : List Int) (i k : Nat) (hi : i < l.length) (hl : l.length ≤ 1000000) (hk : keep.length ≤ 4611686018427387904) (hkk : keep.length + 1 < k) : palinoderef15_needed.f k l (i : Int) keep = some (needL keep (prevE l i) (gt l i)) := by
  obtain ⟨k, rfl⟩ : ∃ q, k = q + 1 := ⟨k - 1, by omega⟩
  unfold palinoderef15_needed.f prevE
  by_cases c : i = 0
  · subst c
    rw [if_pos rfl]
    rfl
  · obtain ⟨j, rfl⟩ : ∃ j, i = j + 1 := ⟨i - 1, by omega⟩
    have hw : wrap64 (((j + 1 : Nat) : Int) - 1) = (j : Int) := by unfold wrap64; omega
    rw [if_neg (by omega), hw, if_pos (by omega), if_pos (by omega), if_pos (by omega), if_pos (by omega), rd_gt, rd_gt, if_neg c, Nat.add_sub_cancel]
    show (if ((gt l j).f0.toList != (gt l (j + 1)).f0.toList) = true then _ else _) = some ((gt l j).f0.toList != (gt l (j + 1)).f0.toList || need keep (gt l j) (gt l (j + 1)))
    have h0 := needed_l0 l keep j hi hl hk keep.length 0 k (by omega) (by omega) (by omega)
    rw [List.drop_zero] at h0
    cases hne : ((gt l j).f0.toList != (gt l (j + 1)).f0.toList) with
    | true => rw [if_pos rfl]; rfl
    | false => rw [if_neg (by decide), show ((0 : Int)) = ((0 : Nat) : Int) from rfl, h0]; rfl
theorem lastE_rd (l : List Ent) (h : 0 < l.length) : rd_T34 l ((l.length : Int) - 1) = lastE l := rfl
/-- The pops, then the next entry. -/
theorem fold_l1 (l : List Ent) (keep : List Int) (bottom : Bool) (i : Nat) (hi : i < l.length) (hl : l.length ≤ 1000000) (last : Bool) (K : Option (List Ent × Bool)) : ∀ (n : Nat) (out : List Ent) (k : Nat), out.length = n → out.length ≤ 1000000 → n < k →
    (∀ k', k - n - 1 ≤ k' → palinoderef15_Fold.l0 k' l keep bottom (if bottom = true ∧ last = true then popF (gt l i).f0 out.length out else out) ((i + 1 : Nat) : Int) = K) → palinoderef15_Fold.l1 k l keep bottom out (i : Int) last = K := by
  intro n
  induction n with
  | zero =>
    intro out k hn ho hk h
    obtain ⟨k, rfl⟩ : ∃ q, k = q + 1 := ⟨k - 1, by omega⟩
    have h1 := h k (by omega)
    have hw : wrap64 ((i : Int) + 1) = ((i + 1 : Nat) : Int) := by unfold wrap64; omega
    have e0 : (if bottom = true ∧ last = true then popF (gt l i).f0 out.length out else out) = out := by split; rw [hn]; rfl; rfl
    rw [e0] at h1
    simp only [palinoderef15_Fold.l1]
    rw [hw, h1]
    cases bottom with
    | false => rw [if_neg (by decide)]
    | true =>
      rw [if_pos rfl]
      cases last with
      | false => rw [if_neg (by decide)]
      | true => rw [if_pos rfl, if_neg (by omega)]
  | succ n ih =>
    intro out k hn ho hk h
    obtain ⟨k, rfl⟩ : ∃ q, k = q + 1 := ⟨k - 1, by omega⟩
    have hw : wrap64 ((i : Int) + 1) = ((i + 1 : Nat) : Int) := by unfold wrap64; omega
    have hw2 : wrap64 ((out.length : Int) - 1) = (out.length : Int) - 1 := by unfold wrap64; omega
    have hix : ((out.length : Int) - 1).toNat = out.length - 1 := by omega
    simp only [palinoderef15_Fold.l1]
    rw [hw, hw2]
    cases bottom with
    | false => rw [if_neg (by decide)]; have h1 := h k (by omega); rwa [if_neg (fun e => by cases e.1)] at h1
    | true =>
      rw [if_pos rfl]
      cases last with
      | false => rw [if_neg (by decide)]; have h1 := h k (by omega); rwa [if_neg (fun e => by cases e.2)] at h1
      | true =>
        rw [if_pos rfl, if_pos (by omega), if_pos (by omega), if_pos (by omega), if_pos (by omega), if_pos (by omega), rd_gt, lastE_rd out (by omega)]
        rw [if_pos ⟨rfl, rfl⟩] at h
        have hp : popF (gt l i).f0 out.length out = if (lastE out).f0.toList = (gt l i).f0.toList ∧ (lastE out).f2 = true then popF (gt l i).f0 n (out.take (out.length - 1)) else out := by
          rw [hn]
          simp only [popF]
          rw [hn, Nat.add_sub_cancel]
          by_cases c : (lastE out).f0.toList = (gt l i).f0.toList ∧ (lastE out).f2 = true
          · rw [if_pos ⟨by omega, c⟩, if_pos c]
          · rw [if_neg (fun e => c e.2), if_neg c]
        rw [hp] at h
        by_cases c1 : (lastE out).f0.toList = (gt l i).f0.toList
        · rw [if_pos c1]
          by_cases c2 : (lastE out).f2 = true
          · rw [if_pos c2, if_pos (by omega), hix]
            rw [if_pos ⟨c1, c2⟩] at h
            have htl : (out.take (out.length - 1)).length = n := by rw [List.length_take]; omega
            refine ih (out.take (out.length - 1)) k htl (by omega) (by omega) (fun k' hk' => ?_)
            rw [if_pos ⟨rfl, rfl⟩, htl]
            exact h k' (by omega)
          · rw [if_neg c2]
            rw [if_neg (fun e => c2 e.2)] at h
            exact h k (by omega)
        · rw [if_neg c1]
          rw [if_neg (fun e => c1 e.1)] at h
          exact h k (by omega)
theorem fuel_step {n c k o k' : Nat} (h : (n + 1) * 2000 + c + 10 ≤ k + 2 + 1) (ho : o ≤ 1001) (hk : k - o - 1 ≤ k') : n * 2000 + c + 10 ≤ k' := by
  have e : (n + 1) * 2000 = n * 2000 + 2000 := Nat.succ_mul n 2000
  rw [e] at h
  generalize n * 2000 = t at h ⊢
  omega
theorem fold_l0 (l : List Ent) (keep : List Int) (bottom : Bool) (hl : l.length ≤ 1000) (hk : keep.length ≤ 4611686018427387904) : ∀ (n i : Nat) (out : List Ent) (k : Nat), l.length - i = n → i ≤ l.length → out.length ≤ i → n * 2000 + keep.length + 10 ≤ k →
    palinoderef15_Fold.l0 k l keep bottom out (i : Int) = some (iterL keep bottom (prevE l i) (l.drop i) out, true) := by
  intro n
  induction n with
  | zero =>
    intro i out k hn hi ho hkk
    obtain ⟨k, rfl⟩ : ∃ q, k = q + 1 := ⟨k - 1, by omega⟩
    simp only [palinoderef15_Fold.l0]
    rw [if_neg (by omega), List.drop_eq_nil_of_le (by omega)]
    rfl
  | succ n ih =>
    intro i out k hn hi ho hkk
    obtain ⟨k, rfl⟩ : ∃ q, k = q + 1 := ⟨k - 1, by omega⟩
    have hlt : i < l.length := by omega
    have hd : l.drop i = gt l i :: l.drop (i + 1) := by rw [List.drop_eq_getElem_cons hlt, gt_get hlt]
    rw [hd]
    show _ = some (iterL keep bottom (some (gt l i)) (l.drop (i + 1)) (stepL keep bottom (prevE l i) (gt l i) (l.drop (i + 1)) out), true)
    have hpe : some (gt l i) = prevE l (i + 1) := by unfold prevE; rw [if_neg (by omega), Nat.add_sub_cancel]
    rw [hpe]
    have hst := stepL_len keep bottom (prevE l i) (gt l i) (l.drop (i + 1)) out
    have hS : ∀ b, needL keep (prevE l i) (gt l i) = b → (if bottom = true ∧ lastL (gt l i) (l.drop (i + 1)) = true then popF (gt l i).f0 (if b = true then out ++ [gt l i] else out).length (if b = true then out ++ [gt l i] else out) else (if b = true then out ++ [gt l i] else out)) = stepL keep bottom (prevE l i) (gt l i) (l.drop (i + 1)) out := fun b hb => by
      subst hb; rfl
    generalize stepL keep bottom (prevE l i) (gt l i) (l.drop (i + 1)) out = S at hst hS ⊢
    have hih := fun k' hk' => ih (i + 1) S k' (by omega) (by omega) (by omega) hk'
    generalize iterL keep bottom (prevE l (i + 1)) (l.drop (i + 1)) S = R at hih ⊢
    -- behind the entry
    have hj1 : ∀ (o : List Ent), o.length ≤ i + 1 → (if bottom = true ∧ lastL (gt l i) (l.drop (i + 1)) = true then popF (gt l i).f0 o.length o else o) = S → palinoderef15_Fold.j1 k l keep bottom o (i : Int) = some (R, true) := by
      intro o ho2 he
      obtain ⟨k, rfl⟩ : ∃ q, k = q + 2 := ⟨k - 2, by omega⟩
      have hob : o.length ≤ 1001 := by omega
      have hok : o.length < k := by omega
      have hj2 : palinoderef15_Fold.j2 (k + 1) l keep bottom o (i : Int) (lastL (gt l i) (l.drop (i + 1))) = some (R, true) := by
        show palinoderef15_Fold.l1 k l keep bottom o (i : Int) (lastL (gt l i) (l.drop (i + 1))) = _
        refine fold_l1 l keep bottom i hlt (by omega) _ _ o.length o k rfl (Nat.le_trans hob (by decide)) hok (fun k' hk' => ?_)
        rw [he]
        exact hih k' (fuel_step hkk hob hk')
      clear hkk hih hok
      simp only [palinoderef15_Fold.j1]
      have hw : wrap64 ((l.length : Int) - 1) = (l.length : Int) - 1 := by unfold wrap64; omega
      have hw1 : wrap64 ((i : Int) + 1) = ((i + 1 : Nat) : Int) := by unfold wrap64; omega
      rw [hw, hw1]
      by_cases c : (i : Int) = (l.length : Int) - 1
      · rw [if_pos c]
        have hdn : l.drop (i + 1) = [] := List.drop_eq_nil_of_le (by omega)
        have hll : lastL (gt l i) (l.drop (i + 1)) = true := by rw [hdn]; rfl
        rw [hll] at hj2
        exact hj2
      · rw [if_neg c, if_pos (by omega), if_pos (by omega), if_pos (by omega), if_pos (by omega), rd_gt, rd_gt]
        have hdc : l.drop (i + 1) = gt l (i + 1) :: l.drop (i + 2) := by rw [List.drop_eq_getElem_cons (show i + 1 < l.length by omega), gt_get (show i + 1 < l.length by omega)]
        have hll : lastL (gt l i) (l.drop (i + 1)) = ((gt l (i + 1)).f0.toList != (gt l i).f0.toList) := by rw [hdc]; rfl
        rw [← hll]
        exact hj2
    simp only [palinoderef15_Fold.l0]
    rw [if_pos (by omega), needed_eq l keep i k hlt (by omega) hk (by omega), Option.bind_some]
    cases hn2 : needL keep (prevE l i) (gt l i) with
    | true =>
      have h3 := hS true hn2
      rw [if_pos (show true = true from rfl)] at h3
      rw [if_pos (show true = true from rfl), if_pos (by omega), if_pos (by omega), rd_gt]
      exact hj1 (out ++ [gt l i]) (by rw [List.length_append]; simp; omega) h3
    | false =>
      have h3 := hS false hn2
      rw [if_neg (show ¬ (false = true) by decide)] at h3
      rw [if_neg (show ¬ (false = true) by decide)]
      exact hj1 out (by omega) h3
/-! ## .. and part by part -/
theorem popF_tail (key : ByteArray) (out : List Ent) (ho : ∀ x ∈ out, x.f0 ≠ key) : ∀ (n : Nat) (s : List Ent), s.length = n → (∀ x ∈ s, x.f0 = key) → popF key (out ++ s).length (out ++ s) = out ++ tailF s.length s := by
  intro n
  induction n with
  | zero =>
    intro s hn hs
    rw [List.length_eq_zero_iff.1 hn, List.append_nil]
    show _ = out ++ []
    rw [List.append_nil]
    cases hol : out.length with
    | zero => rfl
    | succ m =>
      simp only [popF]
      rw [if_neg]
      rintro ⟨_, e, _⟩
      have hm : lastE out ∈ out := by
        unfold lastE
        rw [hol, show (((m + 1 : Nat) : Int) - 1) = (m : Int) by omega, rd_gt]
        exact gt_mem (by omega)
      exact ho _ hm (toList_inj e)
  | succ n ih =>
    intro s hn hs
    have hne : s ≠ [] := fun e => by rw [e] at hn; simp at hn
    obtain ⟨s0, e, rfl⟩ : ∃ Q e, s = Q ++ [e] := ⟨s.dropLast, s.getLast hne, (List.dropLast_concat_getLast hne).symm⟩
    have hs0 : s0.length = n := by simpa using hn
    have hke : e.f0 = key := hs e (by simp)
    rw [← List.append_assoc]
    have hL : (out ++ s0 ++ [e]).length = (out ++ s0).length + 1 := by rw [List.length_append]; rfl
    rw [hL, hn]
    simp only [popF, tailF]
    rw [lastE_snoc, lastE_snoc]
    by_cases c : e.f2 = true
    · rw [if_pos ⟨by rw [hL]; omega, by rw [hke], c⟩, if_pos ⟨by rw [hn]; omega, c⟩, hL, Nat.add_sub_cancel, List.take_left, hn, Nat.add_sub_cancel]
      have ht : (s0 ++ [e]).take n = s0 := by rw [← hs0, List.take_left]
      rw [ht, ih s0 hs0 (fun x hx => hs x (by simp [hx])), hs0]
    · rw [if_neg (fun f => c f.2.2), if_neg (fun f => c f.2), List.append_assoc]
def finL (bottom : Bool) (key : ByteArray) (o : List Ent) : List Ent := if bottom = true then popF key o.length o else o
theorem iter_part (keep : List Int) (bottom : Bool) (key : ByteArray) (B : List Ent) (hB : ∀ y, B.head? = some y → y.f0 ≠ key) : ∀ (r : List Ent) (x p : Ent) (O : List Ent), p.f0 = key → x.f0 = key → (∀ y ∈ r, y.f0 = key) →
    ∃ q : Ent, q.f0 = key ∧ iterL keep bottom (some p) (x :: (r ++ B)) O = iterL keep bottom (some q) B (finL bottom key (O ++ stayP keep p (x :: r))) := by
  intro r
  induction r with
  | nil =>
    intro x p O hp hx _
    refine ⟨x, hx, ?_⟩
    show iterL keep bottom (some x) B (stepL keep bottom (some p) x B O) = _
    congr 1
    have hlast : lastL x B = true := by
      unfold lastL
      cases B with
      | nil => rfl
      | cons y ys =>
        have := hB y rfl
        rw [bne_iff_ne]
        intro e
        exact this ((toList_inj e).trans hx)
    have hnd : needL keep (some p) x = need keep p x := by
      show (p.f0.toList != x.f0.toList || need keep p x) = _
      rw [hp, hx]; simp
    unfold stepL finL
    rw [hnd, hx, hlast]
    simp only [stayP, and_true]
    by_cases c : need keep p x = true
    · rw [if_pos c, if_pos c]
    · rw [if_neg c, if_neg c, List.append_nil]
  | cons y r ih =>
    intro x p O hp hx hr
    have hy : y.f0 = key := hr y List.mem_cons_self
    obtain ⟨q, hq, h⟩ := ih y x (if need keep p x = true then O ++ [x] else O) hx hy (fun z hz => hr z (List.mem_cons_of_mem _ hz))
    refine ⟨q, hq, ?_⟩
    show iterL keep bottom (some x) (y :: (r ++ B)) (stepL keep bottom (some p) x (y :: (r ++ B)) O) = _
    have hnd : needL keep (some p) x = need keep p x := by
      show (p.f0.toList != x.f0.toList || need keep p x) = _
      rw [hp, hx]; simp
    have hst : stepL keep bottom (some p) x (y :: (r ++ B)) O = if need keep p x = true then O ++ [x] else O := by
      unfold stepL
      rw [hnd]
      have hlast : lastL x (y :: (r ++ B)) = false := by
        show (y.f0.toList != x.f0.toList) = false
        rw [hy, hx]; simp
      rw [hlast, if_neg (fun e => by cases e.2)]
    rw [hst, h]
    congr 2
    have e1 : stayP keep p (x :: y :: r) = if need keep p x = true then x :: stayP keep x (y :: r) else stayP keep x (y :: r) := by rw [stayP]
    rw [e1]
    by_cases c : need keep p x = true
    · rw [if_pos c, if_pos c, List.append_assoc]; rfl
    · rw [if_neg c, if_neg c]
theorem fin_grp (keep : List Int) (bottom : Bool) {g : List Ent} (hg : Grp g) (out : List Ent) (ho : ∀ x ∈ out, x.f0 ≠ (gt g 0).f0) : finL bottom (gt g 0).f0 (out ++ stayG keep g) = out ++ foldG keep bottom g := by
  unfold finL foldG
  cases bottom with
  | false => rw [if_neg (by decide), if_neg (by decide)]
  | true =>
    rw [if_pos rfl, if_pos rfl]
    exact popF_tail _ out ho _ _ rfl (fun x hx => hg.2.1 x ((stayG_sub keep g).subset hx))
theorem iter_grps (keep : List Int) (bottom : Bool) : ∀ (gs : List (List Ent)), GrpsOk gs → ∀ (p : Option Ent) (out : List Ent), (∀ q, p = some q → ∀ g ∈ gs, q.f0 ≠ (gt g 0).f0) → (∀ x ∈ out, ∀ g ∈ gs, x.f0 ≠ (gt g 0).f0) →
    iterL keep bottom p gs.flatten out = out ++ gs.flatMap (foldG keep bottom) := by
  intro gs
  induction gs with
  | nil => intro _ p out _ _; simp [iterL]
  | cons g gs ih =>
    intro hG p out hp ho
    obtain ⟨h1, h2⟩ := hG
    obtain ⟨b1, b2⟩ := List.pairwise_cons.1 h2
    have hg := h1 g List.mem_cons_self
    have hne : ∀ h ∈ gs, (gt g 0).f0 ≠ (gt h 0).f0 := fun h hh e => by have := b1 h hh; rw [e] at this; exact bless_irr _ this
    have hB : ∀ y, gs.flatten.head? = some y → y.f0 ≠ (gt g 0).f0 := by
      intro y hy e
      have hym : y ∈ gs.flatten := List.mem_of_mem_head? hy
      obtain ⟨h, hh, hyh⟩ := List.mem_flatten.1 hym
      have := (h1 h (List.mem_cons_of_mem _ hh)).2.1 y hyh
      exact hne h hh (e.symm.trans this)
    have hog := fun x hx => ho x hx g List.mem_cons_self
    have key : ∃ q : Ent, q.f0 = (gt g 0).f0 ∧ iterL keep bottom p (g ++ gs.flatten) out = iterL keep bottom (some q) gs.flatten (out ++ foldG keep bottom g) := by
      rw [← fin_grp keep bottom hg out hog]
      obtain ⟨x, xs, rfl⟩ : ∃ x xs, g = x :: xs := List.exists_cons_of_ne_nil hg.1
      have hx : x.f0 = (gt (x :: xs) 0).f0 := rfl
      have hnd : needL keep p x = true := by
        cases hpp : p with
        | none => rfl
        | some q =>
          show (q.f0.toList != x.f0.toList || need keep q x) = true
          have hq := hp q hpp (x :: xs) List.mem_cons_self
          rw [Bool.or_eq_true, bne_iff_ne]
          exact .inl (fun e => hq (toList_inj e))
      cases xs with
      | nil =>
        refine ⟨x, hx, ?_⟩
        show iterL keep bottom (some x) gs.flatten (stepL keep bottom p x gs.flatten out) = _
        congr 1
        have hlast : lastL x gs.flatten = true := by
          unfold lastL
          cases hf : gs.flatten with
          | nil => rfl
          | cons y ys =>
            have := hB y (by rw [hf]; rfl)
            rw [bne_iff_ne]
            intro e
            exact this ((toList_inj e).trans hx)
        unfold stepL finL
        rw [hnd, hlast, if_pos rfl]
        simp only [stayG, stayP, and_true]
        rfl
      | cons y ys =>
        have hst : stepL keep bottom p x (y :: ys ++ gs.flatten) out = out ++ [x] := by
          unfold stepL
          rw [hnd, if_pos rfl]
          have hlast : lastL x (y :: ys ++ gs.flatten) = false := by
            show (y.f0.toList != x.f0.toList) = false
            rw [hg.2.1 y (by simp)]
            simp [gt]
          rw [hlast, if_neg (fun e => by cases e.2)]
        obtain ⟨q, hq, h⟩ := iter_part keep bottom (gt (x :: y :: ys) 0).f0 gs.flatten hB ys y x (out ++ [x]) hx (hg.2.1 y (by simp)) (fun z hz => hg.2.1 z (by simp [hz]))
        refine ⟨q, hq, ?_⟩
        show iterL keep bottom (some x) (y :: (ys ++ gs.flatten)) (stepL keep bottom p x (y :: ys ++ gs.flatten) out) = _
        rw [hst, h, List.append_assoc]
        rfl
    obtain ⟨q, hq, h⟩ := key
    rw [List.flatten_cons, h, ih ⟨fun z hz => h1 z (List.mem_cons_of_mem _ hz), b2⟩ (some q) (out ++ foldG keep bottom g) (fun q' e h hh => by cases e; rw [hq]; exact hne h hh) (fun x hx h hh => ?_), List.flatMap_cons, List.append_assoc]
    rcases List.mem_append.1 hx with f | f
    · exact ho x f h (List.mem_cons_of_mem _ hh)
    · rw [hg.2.1 x ((foldG_sub keep bottom g).subset f)]; exact hne h hh
theorem refFold_val (l : List Ent) (keep : List Int) (bottom : Bool) (hl : l.length ≤ 1000) (hk : keep.length ≤ 4611686018427387904) (k : Nat) (hkk : l.length * 2000 + keep.length + 10 ≤ k) :
    palinoderef15_Fold.f k l keep bottom = some (if sortedB l = true then (foldR keep bottom l, true) else ([], false)) := by
  unfold palinoderef15_Fold.f
  rw [refSorted_big l (by omega) k (by omega), Option.bind_some]
  cases hs : sortedB l with
  | false => rw [if_neg (by decide), if_neg (by decide)]
  | true =>
    rw [if_pos rfl, if_pos rfl]
    have h := fold_l0 l keep bottom hl hk l.length 0 [] k (by omega) (by omega) (by simp) hkk
    rw [show ((0 : Nat) : Int) = 0 from rfl, List.drop_zero] at h
    rw [h]
    have hi := iter_grps keep bottom (grps l) (grps_ok (ss_of hs)) none [] (fun q e => by cases e) (fun x hx => by cases hx)
    rw [grps_flat, List.nil_append] at hi
    show some (iterL keep bottom none l [], true) = _
    rw [hi]; rfl
end Go.Proofs.Yteljlfodjbgejaa.Print

namespace Go.Proofs.Yteljlfodjbgejaa.Print
open Go.RowKit Go.Proofs.YteljlfodjbgejaaX Go.Proofs.YteljlfodjbgejaaW.PrintWords Go.Proofs.YteljlfodjbgejaaW.PrintLast
set_option linter.unusedVariables false
set_option linter.unusedSimpArgs false

/-! ## The chapter's See, entry by entry -/
def newL (s : Int) (p : Option Ent) (x : Ent) : Bool := match p with
  | none => true
  | some p => p.f0.toList != x.f0.toList || decide (s < p.f1)
def takeL (s : Int) (p : Option Ent) (x : Ent) : Bool := newL s p x && decide (x.f1 ≤ s) && !x.f2
def seeL (s : Int) : Option Ent → List Ent → List Ent → List Ent
  | _, [], out => out
  | p, x :: r, out => seeL s (some x) r (if takeL s p x = true then out ++ [x] else out)
theorem see_l0 (l : List Ent) (s : Int) (hl : l.length ≤ 1000000) : ∀ (n i : Nat) (out : List Ent) (k : Nat), l.length - i = n → i ≤ l.length → out.length ≤ i → n < k →
    palinoderef15_See.l0 k l s out (i : Int) = some (seeL s (prevE l i) (l.drop i) out, true) := by
  intro n
  induction n with
  | zero =>
    intro i out k hn hi ho hk
    obtain ⟨k, rfl⟩ : ∃ q, k = q + 1 := ⟨k - 1, by omega⟩
    simp only [palinoderef15_See.l0]
    rw [if_neg (by omega), List.drop_eq_nil_of_le (by omega)]
    rfl
  | succ n ih =>
    intro i out k hn hi ho hk
    obtain ⟨k, rfl⟩ : ∃ q, k = q + 1 := ⟨k - 1, by omega⟩
    have hlt : i < l.length := by omega
    have hd : l.drop i = gt l i :: l.drop (i + 1) := by rw [List.drop_eq_getElem_cons hlt, gt_get hlt]
    have hpe : some (gt l i) = prevE l (i + 1) := by unfold prevE; rw [if_neg (by omega), Nat.add_sub_cancel]
    have hw1 : wrap64 ((i : Int) + 1) = ((i + 1 : Nat) : Int) := by unfold wrap64; omega
    have hA := ih (i + 1) (out ++ [gt l i]) k (by omega) (by omega) (by rw [List.length_append]; simp; omega) (by omega)
    have hB := ih (i + 1) out k (by omega) (by omega) (by omega) (by omega)
    have hR : ∀ b, takeL s (prevE l i) (gt l i) = b → seeL s (prevE l i) (l.drop i) out = seeL s (prevE l (i + 1)) (l.drop (i + 1)) (if b = true then out ++ [gt l i] else out) := fun b hb => by
      rw [hd, ← hpe, ← hb]; rfl
    have hyes : takeL s (prevE l i) (gt l i) = true → palinoderef15_See.l0 k l s (out ++ [gt l i]) ((i + 1 : Nat) : Int) = some (seeL s (prevE l i) (l.drop i) out, true) := fun h => by rw [hR true h, hA, if_pos rfl]
    have hno : takeL s (prevE l i) (gt l i) = false → palinoderef15_See.l0 k l s out ((i + 1 : Nat) : Int) = some (seeL s (prevE l i) (l.drop i) out, true) := fun h => by rw [hR false h, hB, if_neg (show ¬ (false = true) by decide)]
    generalize some (seeL s (prevE l i) (l.drop i) out, true) = K at hyes hno ⊢
    have hoL : out.length < 2932031007402 := by omega
    clear hR hA hB ih
    simp only [palinoderef15_See.l0]
    rw [if_pos (by omega), hw1, rd_gt]
    by_cases c0 : i = 0
    · have hp : prevE l i = none := by unfold prevE; rw [if_pos c0]
      rw [hp] at hyes hno
      have ht : takeL s none (gt l i) = (decide ((gt l i).f1 ≤ s) && !(gt l i).f2) := by unfold takeL newL; simp
      rw [ht] at hyes hno
      rw [if_pos (by omega), if_pos (by omega)]
      by_cases c1 : (gt l i).f1 ≤ s
      · rw [if_pos c1]
        rw [decide_eq_true c1, Bool.true_and] at hyes hno
        by_cases c2 : (gt l i).f2 = true
        · rw [if_pos c2]; exact hno (by rw [c2]; rfl)
        · rw [if_neg c2, if_pos hoL]; exact hyes (by rw [Bool.eq_false_iff.2 c2]; rfl)
      · rw [if_neg c1]
        exact hno (by rw [decide_eq_false c1]; rfl)
    · obtain ⟨j, rfl⟩ : ∃ j, i = j + 1 := ⟨i - 1, by omega⟩
      have hw : wrap64 (((j + 1 : Nat) : Int) - 1) = (j : Int) := by unfold wrap64; omega
      have hp : prevE l (j + 1) = some (gt l j) := by unfold prevE; rw [if_neg c0, Nat.add_sub_cancel]
      rw [hp] at hyes hno
      have ht : takeL s (some (gt l j)) (gt l (j + 1)) = (((gt l j).f0.toList != (gt l (j + 1)).f0.toList || decide (s < (gt l j).f1)) && decide ((gt l (j + 1)).f1 ≤ s) && !(gt l (j + 1)).f2) := rfl
      rw [ht] at hyes hno
      rw [if_neg (by omega), hw, if_pos (by omega), if_pos (by omega), if_pos (by omega), rd_gt]
      by_cases cf : (gt l j).f0.toList = (gt l (j + 1)).f0.toList
      · rw [if_pos cf]
        rw [cf, bne_self_eq_false, Bool.false_or] at hyes hno
        by_cases c1 : (gt l (j + 1)).f1 ≤ s
        · rw [if_pos c1]
          rw [decide_eq_true c1, Bool.and_true] at hyes hno
          by_cases c3 : (gt l j).f1 > s
          · rw [if_pos c3]
            rw [decide_eq_true (show s < (gt l j).f1 from c3), Bool.true_and] at hyes hno
            by_cases c2 : (gt l (j + 1)).f2 = true
            · rw [if_pos c2]; exact hno (by rw [c2]; rfl)
            · rw [if_neg c2, if_pos hoL]; exact hyes (by rw [Bool.eq_false_iff.2 c2]; rfl)
          · rw [if_neg c3]
            exact hno (by rw [decide_eq_false (show ¬ s < (gt l j).f1 from c3)]; rfl)
        · rw [if_neg c1]
          exact hno (by rw [decide_eq_false c1, Bool.and_false]; rfl)
      · rw [if_neg cf]
        rw [show ((gt l j).f0.toList != (gt l (j + 1)).f0.toList) = true from bne_iff_ne.2 cf, Bool.true_or, Bool.true_and] at hyes hno
        by_cases c1 : (gt l (j + 1)).f1 ≤ s
        · rw [if_pos c1]
          rw [decide_eq_true c1, Bool.true_and] at hyes hno
          by_cases c2 : (gt l (j + 1)).f2 = true
          · rw [if_pos c2]; exact hno (by rw [c2]; rfl)
          · rw [if_neg c2, if_pos hoL]; exact hyes (by rw [Bool.eq_false_iff.2 c2]; rfl)
        · rw [if_neg c1]
          exact hno (by rw [decide_eq_false c1]; rfl)
/-! ## .. and part by part -/
def seeP (s : Int) : Ent → List Ent → List Ent
  | _, [] => []
  | p, x :: r => (if s < p.f1 ∧ x.f1 ≤ s ∧ ¬ x.f2 = true then [x] else []) ++ seeP s x r
theorem seeG_cons (s : Int) (x : Ent) (r : List Ent) : seeG s (x :: r) = if x.f1 ≤ s then (if x.f2 = true then [] else [x]) else seeG s r := by
  unfold seeG
  rw [List.find?_cons]
  by_cases c : x.f1 ≤ s
  · rw [show upto s x = true from decide_eq_true c, if_pos c]
  · rw [show upto s x = false from decide_eq_false c, if_neg c]
theorem seeP_eq (s : Int) : ∀ (xs : List Ent) (p : Ent), (p :: xs).Pairwise (fun x y => y.f1 < x.f1) → seeP s p xs = if s < p.f1 then seeG s xs else [] := by
  intro xs
  induction xs with
  | nil => intro p _; simp [seeP, seeG]
  | cons x xs ih =>
    intro p h
    obtain ⟨a1, a2⟩ := List.pairwise_cons.1 h
    have hx := a1 x List.mem_cons_self
    simp only [seeP]
    rw [ih x a2, seeG_cons]
    by_cases c : s < p.f1
    · rw [if_pos c]
      by_cases d : x.f1 ≤ s
      · rw [if_pos d, if_neg (show ¬ s < x.f1 by omega), List.append_nil]
        by_cases e : x.f2 = true
        · rw [if_pos e, if_neg (fun f => f.2.2 e)]
        · rw [if_neg e, if_pos ⟨c, d, e⟩]
      · rw [if_neg d, if_pos (show s < x.f1 by omega), if_neg (fun f => d f.2.1), List.nil_append]
    · rw [if_neg c, if_neg (fun f => c f.1), if_neg (show ¬ s < x.f1 by omega)]
      rfl
theorem see_part (s : Int) (key : ByteArray) (B : List Ent) : ∀ (r : List Ent) (p : Ent) (O : List Ent), p.f0 = key → (∀ y ∈ r, y.f0 = key) → ∃ q : Ent, q.f0 = key ∧ seeL s (some p) (r ++ B) O = seeL s (some q) B (O ++ seeP s p r) := by
  intro r
  induction r with
  | nil => intro p O hp _; exact ⟨p, hp, by simp [seeP]⟩
  | cons x r ih =>
    intro p O hp hr
    have hx : x.f0 = key := hr x List.mem_cons_self
    obtain ⟨q, hq, h⟩ := ih x (if takeL s (some p) x = true then O ++ [x] else O) hx (fun y hy => hr y (List.mem_cons_of_mem _ hy))
    refine ⟨q, hq, ?_⟩
    show seeL s (some x) (r ++ B) (if takeL s (some p) x = true then O ++ [x] else O) = _
    rw [h]
    congr 1
    simp only [seeP]
    have ht : takeL s (some p) x = true ↔ (s < p.f1 ∧ x.f1 ≤ s ∧ ¬ x.f2 = true) := by
      show ((p.f0.toList != x.f0.toList || decide (s < p.f1)) && decide (x.f1 ≤ s) && !x.f2) = true ↔ _
      rw [hp, hx, bne_self_eq_false, Bool.false_or, Bool.and_eq_true, Bool.and_eq_true, decide_eq_true_eq, decide_eq_true_eq, Bool.not_eq_true', Bool.not_eq_true, and_assoc]
    by_cases c : takeL s (some p) x = true
    · rw [if_pos c, if_pos (ht.1 c), List.append_assoc]
    · rw [if_neg c, if_neg (fun e => c (ht.2 e)), List.nil_append]
theorem see_grps (s : Int) : ∀ (gs : List (List Ent)), GrpsOk gs → ∀ (p : Option Ent) (out : List Ent), (∀ q, p = some q → ∀ g ∈ gs, q.f0 ≠ (gt g 0).f0) → seeL s p gs.flatten out = out ++ gs.flatMap (seeG s) := by
  intro gs
  induction gs with
  | nil => intro _ p out _; simp [seeL]
  | cons g gs ih =>
    intro hG p out hp
    obtain ⟨h1, h2⟩ := hG
    obtain ⟨b1, b2⟩ := List.pairwise_cons.1 h2
    have hg := h1 g List.mem_cons_self
    have hne : ∀ h ∈ gs, (gt g 0).f0 ≠ (gt h 0).f0 := fun h hh e => by have := b1 h hh; rw [e] at this; exact bless_irr _ this
    have key : ∃ q : Ent, q.f0 = (gt g 0).f0 ∧ seeL s p (g ++ gs.flatten) out = seeL s (some q) gs.flatten (out ++ seeG s g) := by
      obtain ⟨x, xs, rfl⟩ : ∃ x xs, g = x :: xs := List.exists_cons_of_ne_nil hg.1
      have hnew : newL s p x = true := by
        cases hpp : p with
        | none => rfl
        | some q =>
          show (q.f0.toList != x.f0.toList || decide (s < q.f1)) = true
          have hq := hp q hpp (x :: xs) List.mem_cons_self
          rw [Bool.or_eq_true, bne_iff_ne]
          exact .inl (fun e => hq (toList_inj e))
      obtain ⟨q, hq, h⟩ := see_part s x.f0 gs.flatten xs x (if takeL s p x = true then out ++ [x] else out) rfl (fun y hy => hg.2.1 y (List.mem_cons_of_mem _ hy))
      refine ⟨q, hq, ?_⟩
      show seeL s (some x) (xs ++ gs.flatten) (if takeL s p x = true then out ++ [x] else out) = _
      rw [h]
      congr 1
      rw [seeP_eq s xs x hg.2.2, seeG_cons]
      have ht : takeL s p x = true ↔ (x.f1 ≤ s ∧ ¬ x.f2 = true) := by
        unfold takeL
        rw [hnew, Bool.true_and, Bool.and_eq_true, decide_eq_true_eq, Bool.not_eq_true', Bool.not_eq_true]
      by_cases c : x.f1 ≤ s
      · rw [if_pos c, if_neg (show ¬ s < x.f1 by omega), List.append_nil]
        by_cases e : x.f2 = true
        · rw [if_neg (fun f => (ht.1 f).2 e), if_pos e, List.append_nil]
        · rw [if_pos (ht.2 ⟨c, e⟩), if_neg e]
      · rw [if_neg c, if_pos (show s < x.f1 by omega), if_neg (fun f => c (ht.1 f).1)]
    obtain ⟨q, hq, h⟩ := key
    rw [List.flatten_cons, h, ih ⟨fun z hz => h1 z (List.mem_cons_of_mem _ hz), b2⟩ (some q) (out ++ seeG s g) (fun q' e h hh => by cases e; rw [hq]; exact hne h hh), List.flatMap_cons, List.append_assoc]
theorem refSee_val (l : List Ent) (s : Int) (hl : l.length ≤ 1000000) (k : Nat) (hkk : l.length < k) :
    palinoderef15_See.f k l s = some (if sortedB l = true then (seeR s l, true) else ([], false)) := by
  unfold palinoderef15_See.f
  rw [refSorted_big l (by omega) k (by omega), Option.bind_some]
  cases hs : sortedB l with
  | false => rw [if_neg (show ¬ (false = true) by decide), if_neg (show ¬ (false = true) by decide)]
  | true =>
    rw [if_pos (show true = true from rfl), if_pos (show true = true from rfl)]
    have h := see_l0 l s hl l.length 0 [] k (by omega) (by omega) (by simp) hkk
    rw [show ((0 : Nat) : Int) = 0 from rfl, List.drop_zero] at h
    rw [h]
    have hi := see_grps s (grps l) (grps_ok (ss_of hs)) none [] (fun q e => by cases e)
    rw [grps_flat, List.nil_append] at hi
    show some (seeL s none l [], true) = _
    rw [hi]; rfl
end Go.Proofs.Yteljlfodjbgejaa.Print
