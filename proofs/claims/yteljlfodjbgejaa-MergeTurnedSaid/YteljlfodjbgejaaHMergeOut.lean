/- Contracts proved by hand: see the theorems' own lines. -/
import Derived.OwnWalkIn
import Derived.RangeFuncBound
import Derived.RangeFuncBox
import Derived.RangeFuncCalls
import Derived.RangeFuncLeaves
import Derived.RangeFuncNested
import Derived.RangeFuncRecord
import Derived.Shelf.Abstract
import Derived.Shelf.RegionOpen
import Derived.Test.YteljlfodjbgejaaHMergeRange
import Derived.Test.YteljlfodjbgejaaPrint0
import Derived.WalkKit
namespace Go.Proofs.Yteljlfodjbgejaa.Print
open Go.RowKit Go.Shelf Go.Proofs.YteljlfodjbgejaaW.PrintWords Go.Proofs.YteljlfodjbgejaaW.PrintLast Go.Proofs.YteljlfodjbgejaaX
set_option linter.unusedVariables false
set_option linter.unusedSimpArgs false

/-! ## A row of entries that is being made -/
def eC (x : S34) : List Value := [.string x.f0, .int .i64 x.f1, .bool x.f2, .string x.f3]
theorem reps_eC (W : World) (base : Nat) (ok : Nat → Prop) : ∀ xs : List S34, Reps (Kd.M k34 W base ok) 4 xs (xs.flatMap eC) := by
  intro xs
  induction xs with
  | nil => exact Reps.none _ _
  | cons x xs ih => exact Kd.reps_append (ps := [x]) (cs := eC x) (Reps.snoc (Reps.none _ _) (k34_mkM W base ok x) rfl) ih
def ERow (W : World) (base : Nat) (v : Value) (xs : List S34) : Prop := W.ownsRow base 34 4 v xs.length (xs.flatMap eC)
theorem ERow.R {W : World} {base : Nat} {v : Value} {xs : List S34} (h : ERow W base v xs) : Kd.R k34 34 W base (fun _ => True) v xs := ⟨fun _ _ => trivial, xs.flatMap eC, h, reps_eC _ _ _ xs⟩
theorem ERow.nil (W : World) (base : Nat) : ERow W base (.slice none 0 0) [] := World.ownsRow_nil _ _ _ _
theorem ERow.at {W : World} {base : Nat} {v : Value} {xs : List S34} (h : ERow W base v xs) : ∃ A c, v = .slice A xs.length c ∧ xs.length ≤ c ∧ Kd.C k34 W A xs.length xs := Kd.R_reads h.R
theorem ERow.base_le {W : World} {base g : Nat} {v : Value} {xs : List S34} (h : ERow W base v xs) (hg : v.ownBlock = some g) : base ≤ g ∧ g < W.heap.size ∧ ∃ cs, W.heap[g]? = some (.cells cs 34 (0, 0)) := by
  rcases h.2 with ⟨rfl, _⟩ | ⟨g', cap, cur, rfl, hb, hgb, _⟩
  · simp [Value.ownBlock] at hg
  · obtain rfl : g' = g := by simpa [Value.ownBlock] using hg
    exact ⟨hb, (Array.getElem?_eq_some_iff.1 hgb).1, _, hgb⟩
/-- Behind 'out = append(out, ..)': what the box holds, what has stayed. -/
theorem appendedE {W w1 : World} {n0 n1 B : Nat} {v v' : Value} {xs ys : List S34} {tmp : Obj} (hv : Boxed W B 24 v) (hrow : ERow W n1 v xs) (h01 : n0 ≤ n1) (hn1 : n1 ≤ W.heap.size) (hB : n0 ≤ B) (hB1 : B < n1)
    (hown : w1.ownsRow n1 34 4 v' ys.length (ys.flatMap eC)) (hgrow : (W.alloc tmp).grownBy w1 v.ownBlock) :
    Boxed w1 B 24 v ∧ Boxed (w1.setCell ⟨B, 0, none⟩ v') B 24 v' ∧ ERow (w1.setCell ⟨B, 0, none⟩ v') n1 v' ys ∧ KeepsOthers W (w1.setCell ⟨B, 0, none⟩ v') ∧ Below n0 W (w1.setCell ⟨B, 0, none⟩ v') ∧ (∀ k, k < n1 → k ≠ B → (w1.setCell ⟨B, 0, none⟩ v').heap[k]? = W.heap[k]?) := by
  obtain ⟨h1, h2, h3, h4, h5⟩ := hv.appended (n₀ := n0) (by decide) (own_weaken hrow h01) (Nat.le_trans h01 hn1) hB (own_weaken hown h01) hgrow
  refine ⟨h1, h2, hown.kept (grownBy_setCell' w1 B v') (.inr (h1.not_row (by decide) hown).symm), h4, h5, fun k hk hkB => ?_⟩
  refine (Below.heap_setCell w1 ⟨B, 0, none⟩ v' k hkB).trans ((hgrow.block k (by rw [World.size_alloc]; omega) (fun e => ?_)).trans (Below.heap_alloc W tmp k (by omega)))
  have := (hrow.base_le e.symm).1
  omega
/-- One entry's cells, just laid. -/
theorem cells_newE (W : World) (x : S34) (t : TypeId) : ∀ j u, (eC x)[j]? = some u → (W.alloc (.cells #[.string x.f0, .int .i64 x.f1, .bool x.f2, .string x.f3] t)).cell? ((⟨W.heap.size, 0, none⟩ : Addr).add j) = some u := by
  intro j u hu
  have hadd : (⟨W.heap.size, 0, none⟩ : Addr).add j = ⟨W.heap.size, j, none⟩ := by unfold Addr.add; split <;> simp_all
  rw [hadd, cell_of_row _ W.heap.size j _ _ _ (heap_alloc_new W (.cells #[.string x.f0, .int .i64 x.f1, .bool x.f2, .string x.f3] t))]
  simpa [eC] using hu
theorem one_eC (x : S34) : ∀ u ∈ eC x, u.oneCell' = true := by
  intro u hu
  simp only [eC, List.mem_cons, List.not_mem_nil, or_false] at hu
  rcases hu with rfl | rfl | rfl | rfl <;> rfl
theorem belowP {b : Nat} (W : World) (l : Nat) (o' : Obj) (hl : b ≤ l) : Below b W (W.putObj l o') :=
  ⟨(grownBy_putObj' W l o').os, (grownBy_putObj' W l o').tape, (grownBy_putObj' W l o').output, (grownBy_putObj' W l o').size, fun k hk => World.putObj_heap_other (by omega)⟩
theorem boxedP {W : World} {B l : Nat} {t : TypeId} {v : Value} (h : Boxed W B t v) (o' : Obj) (hl : B < l) : Boxed (W.putObj l o') B t v := (World.putObj_heap_other (by omega)).trans h
theorem ERow.put {W : World} {base l : Nat} {v : Value} {xs : List S34} {o : Obj} (h : ERow W base v xs) (hl : W.heap[l]? = some o) (hc : o.isCells = false) (o' : Obj) : ERow (W.putObj l o') base v xs := ownsRow_putObj h o' hl hc
theorem ERow.turned {T : Nat → Prop} {W W' : World} {base : Nat} {v : Value} {xs : List S34} (h : ERow W base v xs) (ht : Turned T W W') (hT : ∀ k, T k → k < base) : ERow W' base v xs :=
  own_move h (fun k hk => ht.block k (h.base_le hk).2.1 (fun hk2 => by have := hT k hk2; have := (h.base_le hk).1; omega))
theorem Boxed.turned {T : Nat → Prop} {W W' : World} {B : Nat} {t : TypeId} {v : Value} (h : Boxed W B t v) (ht : Turned T W W') (hT : ¬ T B) : Boxed W' B t v := ht.same h hT
theorem ERow.below {W W' : World} {base : Nat} {v : Value} {xs : List S34} (h : ERow W base v xs) (hb : Below W.heap.size W W') : ERow W' base v xs := own_move h (fun k hk => hb.block k (h.base_le hk).2.1)
theorem Boxed.below {W W' : World} {B : Nat} {t : TypeId} {v : Value} (h : Boxed W B t v) (hb : Below W.heap.size W W') : Boxed W' B t v := (hb.block B h.lt).trans h
theorem turnB {T : Nat → Prop} {b : Nat} {w W W' : World} (hb : Below b w W) (h : Turned T W W') (hw : b ≤ w.heap.size) (hT : ∀ k, T k → b ≤ k) : Below b w W' :=
  ⟨h.os.trans hb.os, h.tape.trans hb.tape, h.output.trans hb.output, Nat.le_trans hb.size h.size, fun k hk => (h.block k (by have := hb.size; omega) (fun ht => by have := hT k ht; omega)).trans (hb.block k hk)⟩
end Go.Proofs.Yteljlfodjbgejaa.Print
