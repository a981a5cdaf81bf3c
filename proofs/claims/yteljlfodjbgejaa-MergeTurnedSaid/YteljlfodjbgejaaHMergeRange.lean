/- Contracts proved by hand: see the theorems' own lines. -/
import Derived.LoopIn
import Derived.LoopNIn
import Derived.OwnWalkIn
import Derived.RangeFuncBound
import Derived.RangeFuncCalls
import Derived.RangeFuncLeaves
import Derived.RangeFuncNested
import Derived.RangeFuncRecord
import Derived.Shelf.Abstract
import Derived.Shelf.RegionOpen
import Derived.TacticsInMore
import Derived.Test.YteljlfodjbgejaaPrint0
import Derived.WalkKit
namespace Go.Proofs.Yteljlfodjbgejaa.Print
open Go.RowKit Go.Shelf Go.Proofs.YteljlfodjbgejaaW.PrintWords Go.Proofs.YteljlfodjbgejaaW.PrintLast Go.Proofs.YteljlfodjbgejaaX
set_option linter.unusedVariables false
set_option linter.unusedSimpArgs false

/-- New blocks may have come; of the blocks that lay, those of T alone may have turned. -/
structure Turned (T : Nat → Prop) (w w' : World) : Prop where
  os : w'.os = w.os
  tape : w'.tape = w.tape
  output : w'.output = w.output
  size : w.heap.size ≤ w'.heap.size
  block : ∀ k, k < w.heap.size → ¬ T k → w'.heap[k]? = w.heap[k]?
theorem Turned.refl (T : Nat → Prop) (w : World) : Turned T w w := ⟨rfl, rfl, rfl, Nat.le_refl _, fun _ _ _ => rfl⟩
theorem Turned.trans {T : Nat → Prop} {a b c : World} (h : Turned T a b) (k : Turned T b c) : Turned T a c := ⟨k.os.trans h.os, k.tape.trans h.tape, k.output.trans h.output, Nat.le_trans h.size k.size, fun i hi ht => (k.block i (Nat.lt_of_lt_of_le hi h.size) ht).trans (h.block i hi ht)⟩
theorem Turned.of_below {T : Nat → Prop} {a b : World} (h : Below a.heap.size a b) : Turned T a b := ⟨h.os, h.tape, h.output, h.size, fun k hk _ => h.block k hk⟩
theorem Turned.same {T : Nat → Prop} {w w' : World} (h : Turned T w w') {k : Nat} {o : Obj} (hk : w.heap[k]? = some o) (ht : ¬ T k) : w'.heap[k]? = some o := (h.block k (Array.getElem?_eq_some_iff.1 hk).1 ht).trans hk
/-- A range over an iterator that may write its own boxes T: each round goes on to the next. -/
theorem wpIn_range_turned {α : Type} {n : Nat} {P : Program} {gf : Nat} {lb : Array Value} {g : Operand} {ps : Array Tmp} {assign body : Code} {Q : Exit → Act → World → Prop} {a : Act} {w : World} (T : Nat → Prop) (encs : α → Array Value) (S : List α → Prop) (V : List α → α → Prop) (Kp : World → World → Prop)
    (hg : a.eval g = .func (.func gf) #[] lb) (eg : ∀ args w, (callFunc gf args).run P w = .ok (.enter gf args) w) (hT : ∀ k, T k → k < w.heap.size) (hps : ∀ x, (encs x).size = ps.size)
    (hKt : ∀ {A B C : World}, Kp A B → Kp B C → Kp A C) (hKb : ∀ (W : World) (l : Nat) (o' : Obj), w.heap.size ≤ l → Kp W (W.putObj l o'))
    (I : List α → World → Prop) (hI : ∀ s W W', Turned T W W' → I s W → I s W') (hIb : ∀ s (W : World) l o o', w.heap.size ≤ l → W.heap[l]? = some o → o.isCells = false → I s W → I s (W.putObj l o')) (h0 : I [] w)
    (A : List α → α → Act → World → Prop) (hAb : ∀ s x c (W : World) l o o', w.heap.size ≤ l → W.heap[l]? = some o → o.isCells = false → A s x c W → A s x c (W.putObj l o'))
    (hseq : ∀ (l : Nat) (J : List α → World → Prop) (W1 : World), Below w.heap.size w W1 → (∀ s W W', Turned T W W' → J s W → J s W') →
      (∀ pre x W, J pre W → V pre x → YieldAt Fence.wide (n - 1 - 1) P l (encs x) W fun e W' => e = .returned (.bool true) ∧ J (pre ++ [x]) W' ∧ Kp W W') → J [] W1 →
      CallsIn Fence.wide (n - 1) P gf (#[.func (.yield l) #[] #[]] ++ lb) W1 fun e W' => (∃ v, e = .returned v) ∧ ∃ xs, S xs ∧ J xs W')
    (hassign : ∀ (l : Nat) (pre : List α) (x : α) (W : World) (K : Act → World → Prop), I pre W → V pre x → (∀ a' W', KeepsFrom w.heap.size W W' → Kp W W' → I pre W' → A pre x a' W' → K a' W') →
      assign.wpIn (Fence.wide.inRound l) (n - 1 - 1) P (Exit.then K (fun _ _ _ => False)) { tmps := (ps.zip (encs x)).foldl (fun t (p, v) => t.setIfInBounds p v) a.tmps, defers := [] } W)
    (hbody : ∀ (l : Nat) (pre : List α) (x : α) (a' : Act) (W : World), I pre W → A pre x a' W → V pre x → body.wpIn (Fence.wide.inRound l) (n - 1 - 1) P (fun e _ W' => e = .normal ∧ KeepsFrom w.heap.size W W' ∧ Kp W W' ∧ I (pre ++ [x]) W') a' W)
    (hdone : ∀ (D : Nat) (xs : List α) (W : World), w.heap.size ≤ D → S xs → I xs W → W.heap[D]? = some (.deferred (some [])) → Q .normal { a with defers := { target := .collected D, args := #[] } :: a.defers } W) :
    (Code.rangeFunc g ps assign body).wpIn Fence.wide n P Q a w := by
  refine wpIn_rangeFunc ?_
  intro fn hfn
  obtain ⟨rec, hrec⟩ : ∃ rec : LoopState → Option Code → Loop, rec = fun st pe => { state := st, pending := pe, fn, tmps := a.tmps, params := ps, assign, body, defers := w.heap.size } := ⟨_, rfl⟩
  obtain ⟨W1, hW1⟩ : ∃ W1, (w.alloc (.deferred (some []))).alloc (.loop (rec .ready none)) = W1 := ⟨_, rfl⟩
  have hL1 : W1.heap[w.heap.size + 1]? = some (.loop (rec .ready none)) := by
    rw [← hW1]
    have h := World.alloc_heap_new (w.alloc (.deferred (some []))) (.loop (rec .ready none))
    rwa [World.size_alloc] at h
  have hK1 : W1.heap[w.heap.size]? = some (.deferred (some [])) := by
    rw [← hW1]
    exact (Below.heap_alloc _ _ _ (by simp)).trans (World.alloc_heap_new w _)
  have hB1 : Below w.heap.size w W1 := by rw [← hW1]; exact ((Below.refl _ w).alloc (Nat.le_refl _) _).alloc (by simp) _
  have hnT : ∀ k, w.heap.size ≤ k → ¬ T k := fun k hk ht => by have := hT k ht; omega
  refine ⟨w.heap.size + 1, [{ target := .collected w.heap.size, args := #[] }], W1, { target := .fn (.func gf) lb, args := #[.func (.yield (w.heap.size + 1)) #[] #[]] }, W1, gf, #[.func (.yield (w.heap.size + 1)) #[] #[]] ++ lb, W1, ?_, ?_, fun _ _ => trivial, ?_, (fun h => by cases h), ?_⟩
  · rw [← hW1, hrec]; exact run_enterLoop_outer _ _ _ _ _
  · simp only [resolve, hg]
    simp [go_sem]
  · simp [invoke, go_sem, eg]
  · refine (hseq (w.heap.size + 1) (fun pre W => I pre W ∧ W.heap[w.heap.size + 1]? = some (.loop (rec .ready none)) ∧ W.heap[w.heap.size]? = some (.deferred (some []))) W1 hB1
      (fun s X Y ht hs => ⟨hI s X Y ht hs.1, ht.same hs.2.1 (hnT _ (by omega)), ht.same hs.2.2 (hnT _ (Nat.le_refl _))⟩) ?_ ⟨hI _ _ _ (Turned.of_below hB1) h0, hL1, hK1⟩).mono ?_
    · rintro pre x W ⟨hi, hl, hk⟩ hv
      have hy := run_yield (P := P) (args := encs x) hl (by rw [hrec]; exact hps x)
      rw [hrec] at hy
      refine ⟨fn, _, assign, body, hy, roundIn_of_wpIn hfn (hassign _ pre x W _ hi hv ?_)⟩
      intro a' X hkx hpx hix hax
      have hlX := hkx.same _ _ (by omega) hl rfl
      have hkX := hkx.same _ _ (Nat.le_refl _) hk rfl
      have hlt : w.heap.size + 1 < X.heap.size := (Array.getElem?_eq_some_iff.1 hlX).1
      refine ⟨_, run_beginRound hlX (by rw [hrec]), ?_⟩
      refine wpIn_mono (hbody _ pre x a' _ (hIb _ _ _ _ _ (by omega) hlX rfl hix) (hAb _ _ _ _ _ _ _ (by omega) hlX rfl hax) hv) ?_
      rintro e a3 Y ⟨rfl, hkY, hpY, hiY⟩
      have hlY := hkY.same _ _ (by omega) (World.putObj_heap_same (o := .loop { rec .ready none with state := .busy }) hlt) rfl
      have hkY2 := hkY.same _ _ (Nat.le_refl _) ((World.putObj_heap_other (by omega)).trans hkX) rfl
      have hr := run_endRound (P := P) none hlY
      rw [hrec] at hr hlY
      refine ⟨_, _, hr, rfl, ⟨hIb _ _ _ _ _ (by omega) hlY rfl hiY, ?_, (World.putObj_heap_other (by omega)).trans hkY2⟩, ?_⟩
      · rw [hrec]; exact World.putObj_heap_same (Array.getElem?_eq_some_iff.1 hlY).1
      · exact hKt hpx (hKt (hKb _ _ _ (by omega)) (hKt hpY (hKb _ _ _ (by omega))))
    · rintro e W2 ⟨⟨v, rfl⟩, xs, hS, hi, hl, hk⟩
      have hr := run_endLoop (P := P) hl (by rw [hrec]; simp)
      rw [hrec] at hr hl
      exact ⟨none, _, hr, hdone _ xs _ (Nat.le_refl _) hS (hIb _ _ _ _ _ (by omega) hl rfl hi) ((World.putObj_heap_other (by omega)).trans hk)⟩
end Go.Proofs.Yteljlfodjbgejaa.Print
