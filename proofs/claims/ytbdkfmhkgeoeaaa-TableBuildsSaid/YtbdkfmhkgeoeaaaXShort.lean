/- Words of this session's own. -/
import Derived.Test.YtbdkfmhkgeoeaaaWAll
namespace Go.Proofs.YtbdkfmhkgeoeaaaX
open Go.RowKit Go.Proofs.YtbdkfmhkgeoeaaaW.PrintWords
/-! Short names of what the printed walks use most: a file of a claim has a bound. -/
abbrev Zn := @blk_drewN
abbrev Zd := @blk_drew
abbrev Za := @blk_alloc
abbrev Zf := @blk_frozen
abbrev Zc := @blk_cell
abbrev Zb := @blk_below
abbrev Zp := @blk_put
abbrev Zq := @blk_far
abbrev Ya := @below_alloc
abbrev Yn := @pw_below_drewN
abbrev Yd := @below_drew1
abbrev Ys := @below_set
/-! One step of what stands in memory: the fact ahead of it is named, the rest is found. -/
theorem Zv {w w1 w2 : World} {g : Nat} {o : Obj} (h : Aside0 (w.heap[g]? = some o)) (hb : Below w1.heap.size w1 w2) (T : w.heap[g]? = some o → w1.heap[g]? = some o := by intro h; repeat (first | (with_reducible first | exact h | refine Go.Proofs.YtbdkfmhkgeoeaaaX.Zn ?_ _ | refine Go.Proofs.YtbdkfmhkgeoeaaaX.Zd ?_ | refine Go.Proofs.YtbdkfmhkgeoeaaaX.Za ?_ _ | refine Go.Proofs.YtbdkfmhkgeoeaaaX.Zq ?_ (Go.Proofs.YtbdkfmhkgeoeaaaW.PrintWords.Aside0.out (by assumption)) _))) : w2.heap[g]? = some o := blk_below (T h.out) hb
theorem Zl {w w1 : World} {g g' : Nat} {o : Obj} (h : Aside0 (w.heap[g]? = some o)) (hg : g' = w1.heap.size) (T : w.heap[g]? = some o → w1.heap[g]? = some o := by intro h; repeat (first | (with_reducible first | exact h | refine Go.Proofs.YtbdkfmhkgeoeaaaX.Zn ?_ _ | refine Go.Proofs.YtbdkfmhkgeoeaaaX.Zd ?_ | refine Go.Proofs.YtbdkfmhkgeoeaaaX.Za ?_ _ | refine Go.Proofs.YtbdkfmhkgeoeaaaX.Zq ?_ (Go.Proofs.YtbdkfmhkgeoeaaaW.PrintWords.Aside0.out (by assumption)) _))) : g ≠ g' := by rw [hg]; exact Nat.ne_of_lt (blk_lt (T h.out))
theorem Zg {w w1 : World} {g g' : Nat} {o : Obj} (h : Aside0 (w.heap[g]? = some o)) (hg : g' = w1.heap.size) (T : w.heap[g]? = some o → w1.heap[g]? = some o := by intro h; repeat (first | (with_reducible first | exact h | refine Go.Proofs.YtbdkfmhkgeoeaaaX.Zn ?_ _ | refine Go.Proofs.YtbdkfmhkgeoeaaaX.Zd ?_ | refine Go.Proofs.YtbdkfmhkgeoeaaaX.Za ?_ _ | refine Go.Proofs.YtbdkfmhkgeoeaaaX.Zq ?_ (Go.Proofs.YtbdkfmhkgeoeaaaW.PrintWords.Aside0.out (by assumption)) _))) : g' ≠ g := by rw [hg]; exact Nat.ne_of_gt (blk_lt (T h.out))
theorem Yv {w W w1 w2 : World} (h : Aside0 (Below w.heap.size w W)) (hb : Below w1.heap.size w1 w2) (T : Below w.heap.size w W → Below w.heap.size w w1 := by intro h; repeat (first | (with_reducible first | exact h | apply Go.Proofs.YtbdkfmhkgeoeaaaX.Ya | apply Go.Proofs.YtbdkfmhkgeoeaaaX.Yn | apply Go.Proofs.YtbdkfmhkgeoeaaaX.Yd | refine Go.Proofs.YtbdkfmhkgeoeaaaX.Ys ?_ (Go.Proofs.YtbdkfmhkgeoeaaaW.PrintWords.Aside0.out (by assumption))) | exact h)) : Below w.heap.size w w2 := below_step (T h.out) hb
theorem Yr {w W w1 : World} (h : Aside0 (Below w.heap.size w W)) (T : Below w.heap.size w W → Below w.heap.size w w1 := by intro h; repeat (first | (with_reducible first | exact h | apply Go.Proofs.YtbdkfmhkgeoeaaaX.Ya | apply Go.Proofs.YtbdkfmhkgeoeaaaX.Yn | apply Go.Proofs.YtbdkfmhkgeoeaaaX.Yd | refine Go.Proofs.YtbdkfmhkgeoeaaaX.Ys ?_ (Go.Proofs.YtbdkfmhkgeoeaaaW.PrintWords.Aside0.out (by assumption))) | exact h)) : Below w.heap.size w w1 := T h.out
theorem Yg {w W w1 : World} {g : Nat} (h : Aside0 (Below w.heap.size w W)) (hg : g = w1.heap.size) (T : Below w.heap.size w W → Below w.heap.size w w1 := by intro h; repeat (first | (with_reducible first | exact h | apply Go.Proofs.YtbdkfmhkgeoeaaaX.Ya | apply Go.Proofs.YtbdkfmhkgeoeaaaX.Yn | apply Go.Proofs.YtbdkfmhkgeoeaaaX.Yd | refine Go.Proofs.YtbdkfmhkgeoeaaaX.Ys ?_ (Go.Proofs.YtbdkfmhkgeoeaaaW.PrintWords.Aside0.out (by assumption))) | exact h)) : w.heap.size ≤ g := by rw [hg]; exact below_size (T h.out)
theorem Zk1 {w : World} {g : Nat} {t : TypeId} {x0 : Value} (h : Aside0 (w.heap[g]? = some (.cells #[x0] t (0, 0)))) : (w.cell? ⟨g, 0, none⟩ = some x0) ∧ (w.frozen? ⟨g, 0, none⟩ = false) := ⟨(blk_cell h.out 0).trans rfl, blk_frozen h.out 0⟩
theorem Zk2 {w : World} {g : Nat} {t : TypeId} {x0 x1 : Value} (h : Aside0 (w.heap[g]? = some (.cells #[x0, x1] t (0, 0)))) : (w.cell? ⟨g, 0, none⟩ = some x0 ∧ w.cell? ⟨g, 1, none⟩ = some x1) ∧ (w.frozen? ⟨g, 0, none⟩ = false ∧ w.frozen? ⟨g, 1, none⟩ = false) := ⟨⟨(blk_cell h.out 0).trans rfl, (blk_cell h.out 1).trans rfl⟩, ⟨blk_frozen h.out 0, blk_frozen h.out 1⟩⟩
theorem Zk4 {w : World} {g : Nat} {t : TypeId} {x0 x1 x2 x3 : Value} (h : Aside0 (w.heap[g]? = some (.cells #[x0, x1, x2, x3] t (0, 0)))) : (w.cell? ⟨g, 0, none⟩ = some x0 ∧ w.cell? ⟨g, 1, none⟩ = some x1 ∧ w.cell? ⟨g, 2, none⟩ = some x2 ∧ w.cell? ⟨g, 3, none⟩ = some x3) ∧ (w.frozen? ⟨g, 0, none⟩ = false ∧ w.frozen? ⟨g, 1, none⟩ = false ∧ w.frozen? ⟨g, 2, none⟩ = false ∧ w.frozen? ⟨g, 3, none⟩ = false) := ⟨⟨(blk_cell h.out 0).trans rfl, (blk_cell h.out 1).trans rfl, (blk_cell h.out 2).trans rfl, (blk_cell h.out 3).trans rfl⟩, ⟨blk_frozen h.out 0, blk_frozen h.out 1, blk_frozen h.out 2, blk_frozen h.out 3⟩⟩
theorem Zo {a b : Nat} (h : Aside0 (a ≠ b)) : a ≠ b ∧ b ≠ a := ⟨h.out, h.out.symm⟩
end Go.Proofs.YtbdkfmhkgeoeaaaX
