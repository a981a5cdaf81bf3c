import Derived.Test.YtdeiaicplcpbeaaPrint0
import Derived.Test.YtdeiaicplcpbeaaXGoto
import Derived.Test.YtdeiaicplcpbeaaXArrayRow
import Derived.WalkKit
import Derived.Deep.LoopGhost
import Derived.Deep.QuietTactic
import Derived.BigQuiet
import Derived.Deep.CutBlock
namespace Go.Proofs.Ytdeiaicplcpbeaa.Print
open Go.RowKit Go.Proofs.YtdeiaicplcpbeaaX Go.Proofs.YtdeiaicplcpbeaaW.PrintWords Go.Proofs.YtdeiaicplcpbeaaW.PrintLast
set_option linter.unusedVariables false
set_option linter.unusedSimpArgs false

/-! ## The order of texts -/
abbrev bless (a b : ByteArray) : Bool := Op.bytesLess a.toList b.toList
theorem u8_tri (a b : UInt8) : a < b ∨ a = b ∨ b < a := by
  rcases Nat.lt_trichotomy a.toNat b.toNat with h | h | h
  · exact .inl h
  · exact .inr (.inl (UInt8.toNat_inj.1 h))
  · exact .inr (.inr h)
theorem u8_irr (a : UInt8) : ¬ a < a := fun h => Nat.lt_irrefl _ (show a.toNat < a.toNat from h)
theorem u8_asym {a b : UInt8} (h : a < b) : ¬ b < a := fun h2 => Nat.lt_irrefl _ (Nat.lt_trans (show a.toNat < b.toNat from h) h2)
theorem bl_cons (a b : UInt8) (x y : List UInt8) : Op.bytesLess (a :: x) (b :: y) = (decide (a < b) || (a == b && Op.bytesLess x y)) := rfl
theorem bl_irr : ∀ x : List UInt8, Op.bytesLess x x = false
  | [] => rfl
  | a :: x => by rw [bl_cons, bl_irr x]; simp [u8_irr]
theorem bl_cons_iff {a b : UInt8} {x y : List UInt8} : Op.bytesLess (a :: x) (b :: y) = true ↔ a < b ∨ a = b ∧ Op.bytesLess x y = true := by
  rw [bl_cons, Bool.or_eq_true, Bool.and_eq_true, decide_eq_true_eq, beq_iff_eq]
theorem bl_trans : ∀ {x y z : List UInt8}, Op.bytesLess x y = true → Op.bytesLess y z = true → Op.bytesLess x z = true
  | x, y, [], _, h => by cases y <;> cases h
  | x, [], c :: z, h, _ => by cases x <;> cases h
  | [], b :: y, c :: z, _, _ => rfl
  | a :: x, b :: y, c :: z, h1, h2 => by
    rcases bl_cons_iff.1 h1 with g1 | ⟨e1, g1⟩ <;> rcases bl_cons_iff.1 h2 with g2 | ⟨e2, g2⟩
    · exact bl_cons_iff.2 (.inl (Nat.lt_trans (show a.toNat < b.toNat from g1) (show b.toNat < c.toNat from g2)))
    · exact bl_cons_iff.2 (.inl (e2 ▸ g1))
    · exact bl_cons_iff.2 (.inl (e1 ▸ g2))
    · exact bl_cons_iff.2 (.inr ⟨e1.trans e2, bl_trans g1 g2⟩)
theorem bl_tri : ∀ x y : List UInt8, Op.bytesLess x y = true ∨ x = y ∨ Op.bytesLess y x = true
  | [], [] => .inr (.inl rfl)
  | [], _ :: _ => .inl rfl
  | _ :: _, [] => .inr (.inr rfl)
  | a :: x, b :: y => by
    rcases u8_tri a b with h | rfl | h
    · exact .inl (bl_cons_iff.2 (.inl h))
    · rcases bl_tri x y with h | rfl | h
      · exact .inl (bl_cons_iff.2 (.inr ⟨rfl, h⟩))
      · exact .inr (.inl rfl)
      · exact .inr (.inr (bl_cons_iff.2 (.inr ⟨rfl, h⟩)))
    · exact .inr (.inr (bl_cons_iff.2 (.inl h)))
theorem bl_asym {x y : List UInt8} (h : Op.bytesLess x y = true) : Op.bytesLess y x = false := by
  by_cases c : Op.bytesLess y x = true
  · have := bl_trans h c; rw [bl_irr] at this; cases this
  · simpa using c
theorem toList_data (s : ByteArray) : s.data.toList = s.toList := (ByteArray.toList_eq s).symm
theorem toList_inj {a b : ByteArray} (h : a.toList = b.toList) : a = b := by
  have h1 : a.data = b.data := by
    apply Array.ext'
    rw [toList_data, toList_data]; exact h
  cases a; cases b
  simp at h1
  subst h1; rfl

/-! ## A list's nodes -/
structure Nd where
  key : ByteArray
  val : ByteArray
  h : Nat
  b : Nat
def ptrV : Option Nat → Value
  | none => .pointer none
  | some b => .pointer (some ⟨b, 0, none⟩)
theorem ptr_none : ptrV none = .pointer none := rfl
theorem ptr_some (b : Nat) : ptrV (some b) = .pointer (some ⟨b, 0, none⟩) := rfl
def lanes (f : Nat → Option Nat) : List Value := [ptrV (f 0), ptrV (f 1), ptrV (f 2), ptrV (f 3), ptrV (f 4), ptrV (f 5), ptrV (f 6), ptrV (f 7), ptrV (f 8), ptrV (f 9), ptrV (f 10), ptrV (f 11)]
def upd (f : Nat → Option Nat) (j : Nat) (t : Option Nat) : Nat → Option Nat := fun i => if i = j then t else f i
theorem lanes_get (f : Nat → Option Nat) (j : Nat) (h : j < 12) : (lanes f)[j]? = some (ptrV (f j)) := by
  match j, h with
  | 0, _ | 1, _ | 2, _ | 3, _ | 4, _ | 5, _ | 6, _ | 7, _ | 8, _ | 9, _ | 10, _ | 11, _ => rfl
theorem lanes_set (f : Nat → Option Nat) (j : Nat) (h : j < 12) (t : Option Nat) : (lanes f).set j (ptrV t) = lanes (upd f j t) := by
  match j, h with
  | 0, _ | 1, _ | 2, _ | 3, _ | 4, _ | 5, _ | 6, _ | 7, _ | 8, _ | 9, _ | 10, _ | 11, _ => rfl
theorem lanes_congr {f g : Nat → Option Nat} (h : ∀ j, j < 12 → f j = g j) : lanes f = lanes g := by
  unfold lanes
  rw [h 0 (by decide), h 1 (by decide), h 2 (by decide), h 3 (by decide), h 4 (by decide), h 5 (by decide), h 6 (by decide), h 7 (by decide), h 8 (by decide), h 9 (by decide), h 10 (by decide), h 11 (by decide)]
def ndC (x : Nd) (f : Nat → Option Nat) : Array Value := (.string x.key :: .string x.val :: .int .i64 (x.h : Int) :: lanes f).toArray
def hdC (m : Nat) (f : Nat → Option Nat) : Array Value := (.string (⟨#[]⟩ : ByteArray) :: .string (⟨#[]⟩ : ByteArray) :: .int .i64 0 :: (lanes f ++ [.int .i64 (m : Int)])).toArray
/-- A list and its nodes lie in memory; 'nx b j': where the node in block b leads to, in lane j. -/
structure SH (W : World) (lb m : Nat) (L : List Nd) (nx : Nat → Nat → Option Nat) : Prop where
  head : W.heap[lb]? = some (.cells (hdC m (nx lb)) 51 (0, 0))
  node : ∀ x ∈ L, W.heap[x.b]? = some (.cells (ndC x (nx x.b)) 49 (0, 0))
section
variable {W W' : World} {lb m : Nat} {L : List Nd} {nx : Nat → Nat → Option Nat}
def blks (lb : Nat) (L : List Nd) : List Nat := lb :: L.map (·.b)
theorem SH.move (h : SH W lb m L nx) (hm : ∀ b ∈ blks lb L, W'.heap[b]? = W.heap[b]?) : SH W' lb m L nx :=
  ⟨(hm lb List.mem_cons_self).trans h.head, fun x hx => (hm x.b (List.mem_cons_of_mem _ (List.mem_map.2 ⟨x, hx, rfl⟩))).trans (h.node x hx)⟩
theorem SH.lt (h : SH W lb m L nx) {b : Nat} (hb : b ∈ blks lb L) : b < W.heap.size := by
  rcases List.mem_cons.1 hb with rfl | hb
  · exact (Array.getElem?_eq_some_iff.1 h.head).1
  · obtain ⟨x, hx, rfl⟩ := List.mem_map.1 hb
    exact (Array.getElem?_eq_some_iff.1 (h.node x hx)).1
theorem SH.lane (h : SH W lb m L nx) {b : Nat} (hb : b ∈ blks lb L) (j : Nat) (hj : j < 12) : W.cell? ⟨b, 3 + j, none⟩ = some (ptrV (nx b j)) ∧ W.frozen? ⟨b, 3 + j, none⟩ = false := by
  have e : 3 + j = j + 1 + 1 + 1 := by omega
  have hl : j < (lanes (nx b)).length := hj
  rcases List.mem_cons.1 hb with rfl | hb
  · refine ⟨?_, blk_frozen h.head _⟩
    rw [cell_of_row _ _ _ _ _ _ h.head, e]
    simp only [hdC, List.getElem?_toArray, List.getElem?_cons_succ]
    rw [List.getElem?_append_left hl, lanes_get _ _ hj]
  · obtain ⟨x, hx, rfl⟩ := List.mem_map.1 hb
    refine ⟨?_, blk_frozen (h.node x hx) _⟩
    rw [cell_of_row _ _ _ _ _ _ (h.node x hx), e]
    simp only [ndC, List.getElem?_toArray, List.getElem?_cons_succ]
    exact lanes_get _ _ hj
theorem SH.parts (h : SH W lb m L nx) {x : Nd} (hx : x ∈ L) : W.cell? ⟨x.b, 0, none⟩ = some (.string x.key) ∧ W.cell? ⟨x.b, 1, none⟩ = some (.string x.val) ∧ W.cell? ⟨x.b, 2, none⟩ = some (.int .i64 (x.h : Int)) ∧ W.frozen? ⟨x.b, 1, none⟩ = false :=
  ⟨(cell_of_row _ _ _ _ _ _ (h.node x hx)).trans rfl, (cell_of_row _ _ _ _ _ _ (h.node x hx)).trans rfl, (cell_of_row _ _ _ _ _ _ (h.node x hx)).trans rfl, blk_frozen (h.node x hx) _⟩
theorem SH.many (h : SH W lb m L nx) : W.cell? ⟨lb, 15, none⟩ = some (.int .i64 (m : Int)) ∧ W.frozen? ⟨lb, 15, none⟩ = false :=
  ⟨(cell_of_row _ _ _ _ _ _ h.head).trans rfl, blk_frozen h.head _⟩
theorem SH.ne (h : SH W lb m L nx) {x : Nd} (hx : x ∈ L) : lb ≠ x.b := fun e => by
  have h1 := h.head
  rw [e, h.node x hx] at h1
  simp at h1
/-- Where a node leads to is set. -/
theorem SH.set (h : SH W lb m L nx) {b : Nat} (hb : b ∈ blks lb L) (j : Nat) (hj : j < 12) (t : Option Nat) : SH (W.setCell ⟨b, 3 + j, none⟩ (ptrV t)) lb m L (fun b' => if b' = b then upd (nx b) j t else nx b') := by
  have e : 3 + j = j + 1 + 1 + 1 := by omega
  have hl : j < (lanes (nx b)).length := hj
  rcases List.mem_cons.1 hb with rfl | hb
  · constructor
    · rw [setCell_eq_setRow W b (3 + j) _ _ _ _ h.head, setRow_heap W b _ _ _ _ h.head, if_pos rfl]
      congr 2
      rw [e]
      simp only [hdC, List.setIfInBounds_toArray, List.set_cons_succ]
      rw [List.set_append_left _ _ hl, lanes_set _ _ hj]
    · intro x hx
      rw [if_neg (fun e => h.ne hx e.symm)]
      exact (Below.heap_setCell W _ _ _ (fun e => h.ne hx e.symm)).trans (h.node x hx)
  · obtain ⟨y, hy, rfl⟩ := List.mem_map.1 hb
    constructor
    · rw [if_neg (h.ne hy)]
      exact (Below.heap_setCell W _ _ _ (h.ne hy)).trans h.head
    · intro x hx
      by_cases c : x.b = y.b
      · rw [if_pos c, c]
        have hn := h.node x hx
        rw [c] at hn
        rw [setCell_eq_setRow W y.b (3 + j) _ _ _ _ hn, setRow_heap W y.b _ _ _ _ hn]
        congr 2
        rw [e]
        simp only [ndC, List.setIfInBounds_toArray, List.set_cons_succ]
        rw [lanes_set _ _ hj]
      · rw [if_neg c]
        exact (Below.heap_setCell W _ _ _ c).trans (h.node x hx)
theorem SH.set_many (h : SH W lb m L nx) (n : Nat) : SH (W.setCell ⟨lb, 15, none⟩ (.int .i64 (n : Int))) lb n L nx := by
  constructor
  · rw [setCell_eq_setRow W lb 15 _ _ _ _ h.head, setRow_heap W lb _ _ _ _ h.head]
    rfl
  · intro x hx
    exact (Below.heap_setCell W _ _ _ (fun e => h.ne hx e.symm)).trans (h.node x hx)
def putVal (b : Nat) (v : ByteArray) (x : Nd) : Nd := if x.b = b then { x with val := v } else x
theorem SH.set_val (h : SH W lb m L nx) {y : Nd} (hy : y ∈ L) (v : ByteArray) : SH (W.setCell ⟨y.b, 1, none⟩ (.string v)) lb m (L.map (putVal y.b v)) nx := by
  constructor
  · exact (Below.heap_setCell W _ _ _ (h.ne hy)).trans h.head
  · intro x hx
    obtain ⟨z, hz, rfl⟩ := List.mem_map.1 hx
    unfold putVal
    by_cases c : z.b = y.b
    · rw [if_pos c]
      have hn := h.node z hz
      show (W.setCell ⟨y.b, 1, none⟩ (.string v)).heap[z.b]? = _
      rw [c] at hn ⊢
      rw [setCell_eq_setRow W y.b 1 _ _ _ _ hn, setRow_heap W y.b _ _ _ _ hn]
      rfl
    · rw [if_neg c]
      exact (Below.heap_setCell W _ _ _ c).trans (h.node z hz)
/-- A new node, in no lane yet. -/
theorem SH.add (h : SH W lb m L nx) (x : Nd) (hx : x.b = W.heap.size) {L' : List Nd} (hL : ∀ y ∈ L', y ∈ L ∨ y = x) : SH (W.alloc (.cells (ndC x (fun _ => none)) 49)) lb m L' (fun b => if b = x.b then fun _ => none else nx b) := by
  have hlt := (Array.getElem?_eq_some_iff.1 h.head).1
  constructor
  · rw [if_neg (by omega)]
    exact (Below.heap_alloc W _ _ hlt).trans h.head
  · intro y hy
    rcases hL y hy with hy | rfl
    · have h1 := (Array.getElem?_eq_some_iff.1 (h.node y hy)).1
      rw [if_neg (by omega)]
      exact (Below.heap_alloc W _ _ h1).trans (h.node y hy)
    · rw [if_pos rfl, hx]
      exact heap_alloc_new W _
end
/-- An array of a node's lanes. -/
def PRow (W : World) (g : Nat) (f : Nat → Option Nat) : Prop := W.heap[g]? = some (.cells (lanes f).toArray 47 (0, 0))
theorem PRow.cell {W : World} {g : Nat} {f : Nat → Option Nat} (h : PRow W g f) (j : Nat) (hj : j < 12) : W.cell? ⟨g, j, none⟩ = some (ptrV (f j)) ∧ W.frozen? ⟨g, j, none⟩ = false := by
  refine ⟨?_, blk_frozen h j⟩
  rw [cell_of_row _ _ _ _ _ _ h, List.getElem?_toArray, lanes_get _ _ hj]
theorem PRow.set {W : World} {g : Nat} {f : Nat → Option Nat} (h : PRow W g f) (j : Nat) (hj : j < 12) (t : Option Nat) : PRow (W.setCell ⟨g, j, none⟩ (ptrV t)) g (upd f j t) := by
  unfold PRow
  rw [setCell_eq_setRow W g j _ _ _ _ h, setRow_heap W g _ _ _ _ h]
  congr 2
  rw [List.setIfInBounds_toArray, lanes_set _ _ hj]
end Go.Proofs.Ytdeiaicplcpbeaa.Print
