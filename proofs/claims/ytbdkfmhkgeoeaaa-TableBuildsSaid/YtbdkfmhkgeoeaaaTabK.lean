import Derived.Test.YtbdkfmhkgeoeaaaPrint0
import Derived.RangeFuncNested
import Derived.RangeFuncBound
import Derived.RangeFuncCalls
import Derived.RangeFuncLeaves
import Derived.RangeFuncRecord
import Derived.Shelf.Abstract
import Derived.Shelf.RegionOpen
import Derived.WalkKit
import Derived.OwnWalkIn
import Derived.TacticsInMore
import Derived.LoopNIn
import Derived.LoopIn
import Derived.Lib.QuietBelow
import Derived.BigQuiet
import Derived.Sort.CutIn
namespace Go.Proofs.Ytbdkfmhkgeoeaaa.Print
open Go.RowKit Go.Shelf Go.Proofs.YtbdkfmhkgeoeaaaW.PrintWords Go.Proofs.YtbdkfmhkgeoeaaaW.PrintLast Go.Proofs.YtbdkfmhkgeoeaaaX
set_option linter.unusedVariables false
set_option linter.unusedSimpArgs false

/-- New blocks may have come; of the blocks that lay, those of T alone may have turned. -/
structure Turned (T : Nat → Prop) (w w' : World) : Prop where
  os : w'.os = w.os
  tape : w'.tape = w.tape
  output : w'.output = w.output
  size : w.heap.size ≤ w'.heap.size
  block : ∀ k, k < w.heap.size → ¬ T k → w'.heap[k]? = w.heap[k]?
theorem Turned.refl (T : Nat → Prop) (w : World) : Turned T w w := ⟨rfl, rfl, rfl, Nat.le_refl _, fun _ _ _ => rfl⟩
theorem Turned.trans {T : Nat → Prop} {a b c : World} (h : Turned T a b) (k : Turned T b c) : Turned T a c := ⟨k.os.trans h.os, k.tape.trans h.tape, k.output.trans h.output, Nat.le_trans h.size k.size, fun i hi ht => (k.block i (Nat.lt_of_lt_of_le hi h.size) ht).trans (h.block i hi ht)⟩
theorem Turned.of_below {T : Nat → Prop} {a b : World} (h : Below a.heap.size a b) : Turned T a b := ⟨h.os, h.tape, h.output, h.size, fun k hk _ => h.block k hk⟩
theorem Turned.same {T : Nat → Prop} {w w' : World} (h : Turned T w w') {k : Nat} {o : Obj} (hk : w.heap[k]? = some o) (ht : ¬ T k) : w'.heap[k]? = some o := (h.block k (Array.getElem?_eq_some_iff.1 hk).1 ht).trans hk
/-- A range over an iterator that may write its own boxes T: each round goes on to the next. -/
theorem wpIn_range_turned {α : Type} {n : Nat} {P : Program} {gf : Nat} {lb : Array Value} {g : Operand} {ps : Array Tmp} {assign body : Code} {Q : Exit → Act → World → Prop} {a : Act} {w : World} (T : Nat → Prop) (encs : α → Array Value) (S : List α → Prop) (V : List α → α → Prop) (Kp : World → World → Prop)
    (hg : a.eval g = .func (.func gf) #[] lb) (eg : ∀ args w, (callFunc gf args).run P w = .ok (.enter gf args) w) (hT : ∀ k, T k → k < w.heap.size) (hps : ∀ x, (encs x).size = ps.size)
    (hKt : ∀ {A B C : World}, Kp A B → Kp B C → Kp A C) (hKb : ∀ (W : World) (l : Nat) (o' : Obj), w.heap.size ≤ l → Kp W (W.putObj l o'))
    (I : List α → World → Prop) (hI : ∀ s W W', Turned T W W' → I s W → I s W') (hIb : ∀ s (W : World) l o o', w.heap.size ≤ l → W.heap[l]? = some o → o.isCells = false → I s W → I s (W.putObj l o')) (h0 : I [] w)
    (A : List α → α → Act → World → Prop) (hAb : ∀ s x c (W : World) l o o', w.heap.size ≤ l → W.heap[l]? = some o → o.isCells = false → A s x c W → A s x c (W.putObj l o'))
    (hseq : ∀ (l : Nat) (J : List α → World → Prop) (W1 : World), Below w.heap.size w W1 → (∀ s W W', Turned T W W' → J s W → J s W') →
      (∀ pre x W, J pre W → V pre x → YieldAt Fence.wide (n - 1 - 1) P l (encs x) W fun e W' => e = .returned (.bool true) ∧ J (pre ++ [x]) W' ∧ Kp W W') → J [] W1 →
      CallsIn Fence.wide (n - 1) P gf (#[.func (.yield l) #[] #[]] ++ lb) W1 fun e W' => (∃ v, e = .returned v) ∧ ∃ xs, S xs ∧ J xs W')
    (hassign : ∀ (l : Nat) (pre : List α) (x : α) (W : World) (K : Act → World → Prop), I pre W → V pre x → (∀ a' W', KeepsFrom w.heap.size W W' → Kp W W' → I pre W' → A pre x a' W' → K a' W') →
      assign.wpIn (Fence.wide.inRound l) (n - 1 - 1) P (Exit.then K (fun _ _ _ => False)) { tmps := (ps.zip (encs x)).foldl (fun t (p, v) => t.setIfInBounds p v) a.tmps, defers := [] } W)
    (hbody : ∀ (l : Nat) (pre : List α) (x : α) (a' : Act) (W : World), I pre W → A pre x a' W → V pre x → body.wpIn (Fence.wide.inRound l) (n - 1 - 1) P (fun e _ W' => e = .normal ∧ KeepsFrom w.heap.size W W' ∧ Kp W W' ∧ I (pre ++ [x]) W') a' W)
    (hdone : ∀ (D : Nat) (xs : List α) (W : World), w.heap.size ≤ D → S xs → I xs W → W.heap[D]? = some (.deferred (some [])) → Q .normal { a with defers := { target := .collected D, args := #[] } :: a.defers } W) :
    (Code.rangeFunc g ps assign body).wpIn Fence.wide n P Q a w := by
  refine wpIn_rangeFunc ?_
  intro fn hfn
  obtain ⟨rec, hrec⟩ : ∃ rec : LoopState → Option Code → Loop, rec = fun st pe => { state := st, pending := pe, fn, tmps := a.tmps, params := ps, assign, body, defers := w.heap.size } := ⟨_, rfl⟩
  obtain ⟨W1, hW1⟩ : ∃ W1, (w.alloc (.deferred (some []))).alloc (.loop (rec .ready none)) = W1 := ⟨_, rfl⟩
  have hL1 : W1.heap[w.heap.size + 1]? = some (.loop (rec .ready none)) := by
    rw [← hW1]
    have h := World.alloc_heap_new (w.alloc (.deferred (some []))) (.loop (rec .ready none))
    rwa [World.size_alloc] at h
  have hK1 : W1.heap[w.heap.size]? = some (.deferred (some [])) := by
    rw [← hW1]
    exact (Below.heap_alloc _ _ _ (by simp)).trans (World.alloc_heap_new w _)
  have hB1 : Below w.heap.size w W1 := by rw [← hW1]; exact ((Below.refl _ w).alloc (Nat.le_refl _) _).alloc (by simp) _
  have hnT : ∀ k, w.heap.size ≤ k → ¬ T k := fun k hk ht => by have := hT k ht; omega
  refine ⟨w.heap.size + 1, [{ target := .collected w.heap.size, args := #[] }], W1, { target := .fn (.func gf) lb, args := #[.func (.yield (w.heap.size + 1)) #[] #[]] }, W1, gf, #[.func (.yield (w.heap.size + 1)) #[] #[]] ++ lb, W1, ?_, ?_, fun _ _ => trivial, ?_, (fun h => by cases h), ?_⟩
  · rw [← hW1, hrec]; exact run_enterLoop_outer _ _ _ _ _
  · simp only [resolve, hg]
    simp [go_sem]
  · simp [invoke, go_sem, eg]
  · refine (hseq (w.heap.size + 1) (fun pre W => I pre W ∧ W.heap[w.heap.size + 1]? = some (.loop (rec .ready none)) ∧ W.heap[w.heap.size]? = some (.deferred (some []))) W1 hB1
      (fun s X Y ht hs => ⟨hI s X Y ht hs.1, ht.same hs.2.1 (hnT _ (by omega)), ht.same hs.2.2 (hnT _ (Nat.le_refl _))⟩) ?_ ⟨hI _ _ _ (Turned.of_below hB1) h0, hL1, hK1⟩).mono ?_
    · rintro pre x W ⟨hi, hl, hk⟩ hv
      have hy := run_yield (P := P) (args := encs x) hl (by rw [hrec]; exact hps x)
      rw [hrec] at hy
      refine ⟨fn, _, assign, body, hy, roundIn_of_wpIn hfn (hassign _ pre x W _ hi hv ?_)⟩
      intro a' X hkx hpx hix hax
      have hlX := hkx.same _ _ (by omega) hl rfl
      have hkX := hkx.same _ _ (Nat.le_refl _) hk rfl
      have hlt : w.heap.size + 1 < X.heap.size := (Array.getElem?_eq_some_iff.1 hlX).1
      refine ⟨_, run_beginRound hlX (by rw [hrec]), ?_⟩
      refine wpIn_mono (hbody _ pre x a' _ (hIb _ _ _ _ _ (by omega) hlX rfl hix) (hAb _ _ _ _ _ _ _ (by omega) hlX rfl hax) hv) ?_
      rintro e a3 Y ⟨rfl, hkY, hpY, hiY⟩
      have hlY := hkY.same _ _ (by omega) (World.putObj_heap_same (o := .loop { rec .ready none with state := .busy }) hlt) rfl
      have hkY2 := hkY.same _ _ (Nat.le_refl _) ((World.putObj_heap_other (by omega)).trans hkX) rfl
      have hr := run_endRound (P := P) none hlY
      rw [hrec] at hr hlY
      refine ⟨_, _, hr, rfl, ⟨hIb _ _ _ _ _ (by omega) hlY rfl hiY, ?_, (World.putObj_heap_other (by omega)).trans hkY2⟩, ?_⟩
      · rw [hrec]; exact World.putObj_heap_same (Array.getElem?_eq_some_iff.1 hlY).1
      · exact hKt hpx (hKt (hKb _ _ _ (by omega)) (hKt hpY (hKb _ _ _ (by omega))))
    · rintro e W2 ⟨⟨v, rfl⟩, xs, hS, hi, hl, hk⟩
      have hr := run_endLoop (P := P) hl (by rw [hrec]; simp)
      rw [hrec] at hr hl
      exact ⟨none, _, hr, hdone _ xs _ (Nat.le_refl _) hS (hIb _ _ _ _ _ (by omega) hl rfl hi) ((World.putObj_heap_other (by omega)).trans hk)⟩
end Go.Proofs.Ytbdkfmhkgeoeaaa.Print

namespace Go.Proofs.Ytbdkfmhkgeoeaaa.Print
open Go.RowKit Go.Shelf Go.Proofs.YtbdkfmhkgeoeaaaX Go.Proofs.YtbdkfmhkgeoeaaaW.PrintWords Go.Proofs.YtbdkfmhkgeoeaaaW.PrintLast
set_option linter.unusedVariables false
set_option linter.unusedSimpArgs false
attribute [local go_sem] Oper.semAt_some

/-! ## slices.Chunk -/
def chsF : Nat → Nat → List S36 → List (List S36)
  | 0, _, _ => []
  | k + 1, m, r => if r.length = 0 then [] else r.take m :: chsF k m (r.drop m)
/-- A part as a value: its row reads in the world w. -/
structure KG (w : World) where
  A : Option Addr
  c : Nat
  l : List S36
  hr : Kd.C k36 w A l.length l
  hc : l.length ≤ c
def KG.enc {w : World} (x : KG w) : Array Value := #[.slice x.A x.l.length x.c]
def KpC (sb nb : Nat) (W W' : World) : Prop := W'.heap[sb]? = W.heap[sb]? ∧ W'.heap[nb]? = W.heap[nb]?
theorem cut_lhm (A : Option Addr) (n c : Nat) (lo e : Nat) (h : lo + e ≤ c) (he : 0 < e) : ∀ W : World, (Instr.slice 22 (.slice A n c) (some (.int .i64 (lo : Int))) (some (.int .i64 ((lo + e : Nat) : Int))) (some (.int .i64 ((lo + e : Nat) : Int)))).run Try.prog W = .ok (.slice (A.map (·.add (lo * 4))) e e) W := by
  intro W
  obtain ⟨i0, hi0, hz0, hz1, hz2⟩ := info_parts info36
  have ht := Try.underlying22
  have hel : Try.prog.elem 22 = 36 := by simp [Program.elem, ht]
  have hu : Try.prog.underlying 22 = some (.slice (Try.prog.elem 22)) := by rw [hel]; exact ht
  rw [run_slice_lhm W 22 A n c hu .i64 .i64 .i64 (lo : Int) ((lo + e : Nat) : Int) ((lo + e : Nat) : Int) (by omega) (by omega) (by omega) (by omega), hel]
  have hne : ¬ ((lo : Int) + (e : Int)).toNat = lo := by omega
  have he2 : ((lo : Int) + (e : Int)).toNat - lo = e := by omega
  simp [sizeOf, typeInfo, hi0, hz1, sliced, Result.andThen, hne, he2]
set_option maxHeartbeats 4000000 in
set_option maxRecDepth 100000 in
theorem chunk1_in (n : Nat) (hn : 1 ≤ n) (l sb nb : Nat) (w0 : World) (A0 : Option Addr) (c0 m : Nat) (hm : 1 ≤ m) (hm2 : m ≤ 1000) (xs : List S36) (hxs : xs.length ≤ 1000000) (hr0 : Kd.C k36 w0 A0 xs.length xs) (hc0 : xs.length ≤ c0) (J : List (KG w0) → World → Prop) (W : World)
    (hJ : ∀ s X Y, Turned (fun _ => False) X Y → J s X → J s Y) (hJb : ∀ s X, J s X → Below w0.heap.size w0 X)
    (hY : ∀ pre (x : KG w0) X, J pre X → (pre.map (·.l) ++ [x.l] <+: chsF xs.length m xs) → YieldAt Fence.wide (n - 1) Try.prog l x.enc X fun e X' => e = .returned (.bool true) ∧ J (pre ++ [x]) X' ∧ KpC sb nb X X')
    (hsb : W.heap[sb]? = some (.cells #[.slice A0 xs.length c0] 22 (0, 0))) (hnb : W.heap[nb]? = some (.cells #[.int .i64 (m : Int)] 3 (0, 0))) (h0 : J [] W) :
    CallsIn Fence.wide n Try.prog 46 #[.func (.yield l) #[] #[], .pointer (some ⟨sb, 0, none⟩), .pointer (some ⟨nb, 0, none⟩)] W fun e W' => (∃ v, e = .returned v) ∧ ∃ ys : List (KG w0), ys.map (·.l) = chsF xs.length m xs ∧ J ys W' := by
  refine callsIn_of_wp Try.func46 rfl trivial ?_ rfl
  simp only [Try.ntmps46, List.size_toArray, List.length_cons, List.length_nil, Nat.reduceAdd, Nat.reduceSub, Array.replicate_succ, Array.replicate_zero, List.push_toArray, List.append_toArray, List.nil_append, List.cons_append]
  gi_wp2
  gi_loopw [4] (fun v4 wr => ∃ (pre : List (KG w0)) (i k : Nat), v4 = .int .i64 (i : Int) ∧ i ≤ 1001000 ∧ (xs.drop i).length ≤ k ∧ wr.heap[sb]? = some (.cells #[.slice A0 xs.length c0] 22 (0, 0)) ∧ wr.heap[nb]? = some (.cells #[.int .i64 (m : Int)] 3 (0, 0)) ∧ J pre wr ∧ pre.map (·.l) ++ chsF k m (xs.drop i) = chsF xs.length m xs) (fun v4 wr => xs.length - (intOf v4).toNat)
  case atStart => exact ⟨[], 0, xs.length, rfl, by decide, Nat.le_refl _, hsb, hnb, h0, rfl⟩
  case round =>
    obtain ⟨pre, i, k, rfl, hi1, hik, hs, hnn, hJr, hgr⟩ := hrel
    have hwb := hJb _ _ hJr
    obtain ⟨hcs, hfs⟩ := Zk1 (Aside0.mk hs)
    obtain ⟨hcn, hfn⟩ := Zk1 (Aside0.mk hnn)
    by_cases hlt : i < xs.length
    · have hltz : (i : Int) < (xs.length : Int) := by omega
      obtain ⟨d, hd⟩ : ∃ d, d = xs.length - i := ⟨_, rfl⟩
      obtain ⟨e, he⟩ : ∃ e, e = min m d := ⟨_, rfl⟩
      have he0 : 0 < e ∧ e ≤ m ∧ i + e ≤ xs.length := by omega
      have hl : ((xs.drop i).take m).length = e := by rw [List.length_take, List.length_drop]; omega
      have hrC : Kd.C k36 w0 (A0.map (·.add (i * 4))) e ((xs.drop i).take m) := by
        have h1 := Kd.C_drop (c := c0) hr0 (m := i) (by omega) hc0
        rw [if_neg (by omega)] at h1
        have h2 := Kd.C_take h1 (m := e) (by rw [List.length_drop]; omega)
        have h3 : (xs.drop i).take e = (xs.drop i).take m := by
          by_cases c : m ≤ d
          · congr 1; omega
          · rw [List.take_of_length_le (by rw [List.length_drop]; omega), List.take_of_length_le (by rw [List.length_drop]; omega)]
        rw [h3, hl] at h2
        exact h2
      obtain ⟨k, rfl⟩ : ∃ j, k = j + 1 := ⟨k - 1, by rw [List.length_drop] at hik; omega⟩
      have hg0 : chsF (k + 1) m (xs.drop i) = (xs.drop i).take m :: chsF k m ((xs.drop i).drop m) := by simp only [chsF]; rw [if_neg (by rw [List.length_drop]; omega)]
      rw [hg0, List.drop_drop] at hgr
      have hpre : pre.map (·.l) ++ [(xs.drop i).take m] <+: chsF xs.length m xs := ⟨chsF k m (xs.drop (i + m)), by rw [← hgr, List.append_assoc]; rfl⟩
      obtain ⟨i0, hi0, _, hsz0, _⟩ := info_parts info36
      obtain ⟨A', hA'⟩ : ∃ A', A' = (if c0 = i then A0 else A0.map (·.add (i * 4))) := ⟨_, rfl⟩
      have hcf : ∀ W : World, (Instr.slice 22 (.slice A0 xs.length c0) (some (.int .i64 (i : Int))) none none).run Try.prog W = .ok (.slice A' d (c0 - i)) W := fun W => by
        have h := cut_from (P := Try.prog) 22 36 .i64 Try.underlying22 hi0 4 hsz0 A0 xs.length c0 (i : Int) (by omega) (by omega) W
        rw [Int.toNat_natCast, ← hA', ← hd] at h
        exact h
      have hmn : (if d < m then (d : Int) else (m : Int)) = (e : Int) := by split <;> omega
      have hc3 := cut_lhm A0 xs.length c0 i e (by omega) he0.1
      have hce : ((i + e : Nat) : Int) = (i : Int) + (e : Int) := by omega
      rw [hce] at hc3
      have hYr : ∀ w1, Below wr.heap.size wr w1 → YieldAt Fence.wide (n - 1) Try.prog l #[.slice (A0.map (·.add (i * 4))) e e] w1 fun e' X' => e' = .returned (.bool true) ∧ J (pre ++ [⟨A0.map (·.add (i * 4)), e, (xs.drop i).take m, by rw [hl]; exact hrC, Nat.le_of_eq hl⟩]) X' ∧ KpC sb nb w1 X' := fun w1 hb1 => by
        have h := hY pre ⟨A0.map (·.add (i * 4)), e, (xs.drop i).take m, by rw [hl]; exact hrC, Nat.le_of_eq hl⟩ w1 (hJ _ _ _ (Turned.of_below hb1) hJr) hpre
        unfold KG.enc at h
        simp only [hl] at h
        exact h
      have HD := Aside0.mk hd; have HE := Aside0.mk he; have HA := Aside0.mk hA'
      clear hd he hA' hce
      gi_upto_region 3 with (fail)
      refine wpIn_wide.2 (wp_region_quiet_lit (by kernel_rfl) (by kernel_rfl) ?_)
      repeat (go_big_quiet_step (fail))
      refine wpQuiet_nil ?_
      rintro w5 ⟨nq, hw5⟩
      have hs5 : w5.heap[sb]? = _ := (show w5.heap[sb]? = wr.heap[sb]? by rw [hw5]; rfl).trans hs
      have hn5 : w5.heap[nb]? = _ := (show w5.heap[nb]? = wr.heap[nb]? by rw [hw5]; rfl).trans hnn
      have hb5 : Below wr.heap.size wr w5 := hw5 ▸ pw_below_drewN (Below.refl _ _) nq
      clear hw5 hcs hfs hcn hfn
      obtain ⟨hcs, hfs⟩ := Zk1 (Aside0.mk hs5)
      obtain ⟨hcn, hfn⟩ := Zk1 (Aside0.mk hn5)
      obtain ⟨fn, tmps, assign, body, hy, hR⟩ := hYr w5 hb5
      clear hYr hcf
      gi_wp2
      refine hR.mono ?_
      rintro e' W3 ⟨rfl, hJ3, hk3⟩
      have hs3 := hk3.1.trans hs5
      have hn3 := hk3.2.trans hn5
      clear hcs hfs hcn hfn
      obtain ⟨hcs, hfs⟩ := Zk1 (Aside0.mk hs3)
      obtain ⟨hcn, hfn⟩ := Zk1 (Aside0.mk hn3)
      gi_wp2
      go_roundw
      case rel => exact ⟨_, i + m, k, by go_num, by omega, by rw [List.length_drop] at hik ⊢; omega, hs3, hn3, hJ3, by rw [List.map_append, List.append_assoc]; exact hgr⟩
      case measure => simp [intOf]; omega
    · have hltz : ¬ (i : Int) < (xs.length : Int) := by omega
      have hg0 : chsF k m (xs.drop i) = [] := by
        cases k with
        | zero => rfl
        | succ k => simp only [chsF]; rw [if_pos (by rw [List.length_drop]; omega)]
      rw [hg0, List.append_nil] at hgr
      gi_wp2
      go_end0
      exact ⟨⟨_, rfl⟩, pre, hgr, hJr⟩
set_option maxHeartbeats 4000000 in
set_option maxRecDepth 100000 in
theorem chunk_calls (A : Option Addr) (n c m : Nat) (hm : 1 ≤ m) (w : World) :
    Calls Try.prog 24 #[.slice A n c, .int .i64 (m : Int)] w fun e w' => ∃ sb nb, w.heap.size ≤ sb ∧ w.heap.size ≤ nb ∧ e = .returned (.func (.func 46) #[] #[.pointer (some ⟨sb, 0, none⟩), .pointer (some ⟨nb, 0, none⟩)]) ∧ w'.heap[sb]? = some (.cells #[.slice A n c] 22 (0, 0)) ∧ w'.heap[nb]? = some (.cells #[.int .i64 (m : Int)] 3 (0, 0)) ∧ Below w.heap.size w w' := by
  have hmz : ¬ (m : Int) < 1 := by omega
  have h1 := heap_alloc_new w (.cells #[.slice A n c] 22)
  have h2 := heap_alloc_new (w.alloc (.cells #[.slice A n c] 22)) (.cells #[.int .i64 (m : Int)] 3)
  rw [World.size_alloc] at h2
  have h3 : ((w.alloc (.cells #[.slice A n c] 22)).alloc (.cells #[.int .i64 (m : Int)] 3)).heap[w.heap.size]? = _ := (Below.heap_alloc _ _ _ (by rw [World.size_alloc]; omega)).trans h1
  have hB : Below w.heap.size w ((w.alloc (.cells #[.slice A n c] 22)).alloc (.cells #[.int .i64 (m : Int)] 3)) := ((Below.refl _ w).alloc (Nat.le_refl _) _).alloc (by simp) _
  have hc1 := cell_of_row _ _ 0 _ _ _ h3
  have hc2 := cell_of_row _ _ 0 _ _ _ h2
  go_enter Try.func24, Try.ntmps24
  go_wp2
  go_ret
  exact ⟨w.heap.size, Nat.le_refl _, w.heap.size + 1, by omega, rfl, h3, h2, hB⟩
end Go.Proofs.Ytbdkfmhkgeoeaaa.Print
