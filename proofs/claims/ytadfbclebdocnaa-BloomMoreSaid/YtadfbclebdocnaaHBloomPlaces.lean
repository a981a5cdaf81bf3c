/- Contracts proved by hand: see the theorems' own lines. -/
import Derived.LoopIn
import Derived.LoopNIn
import Derived.OwnWalkIn
import Derived.RangeFuncBound
import Derived.RangeFuncCalls
import Derived.RangeFuncLeaves
import Derived.RangeFuncNested
import Derived.Shelf.Abstract
import Derived.Shelf.RegionOpen
import Derived.TacticsInMore
import Derived.Test.YtadfbclebdocnaaHBloomHash
import Derived.Test.YtadfbclebdocnaaPrint0
import Derived.WalkKit
namespace Go.Proofs.Ytadfbclebdocnaa.Print
open Go.RowKit Go.Shelf Go.Proofs.YtadfbclebdocnaaW.PrintWords Go.Proofs.YtadfbclebdocnaaW.PrintLast Go.Proofs.YtadfbclebdocnaaX
set_option linter.unusedVariables false
set_option linter.unusedSimpArgs false
attribute [local go_sem] Oper.semAt_some

/-- A hash, its halves changed. -/
def rotH (h : Int) : Int := bits .or .u64 (IntKind.u64.wrap (h * 4294967296)) (h / 4294967296)
/-- The step from one place to the next one. -/
def stepG (s : ByteArray) : Int := bits .or .u64 (rotH (hashTo s s.size)) 1
/-- The number of the i-th place. -/
def hAt (s : ByteArray) : Nat → Int
  | 0 => hashTo s s.size
  | i + 1 => (hAt s i + stepG s) % 18446744073709551616
/-- The i-th place among m bits. -/
theorem hashTo_range (s : ByteArray) (k : Nat) : 0 ≤ hashTo s k ∧ hashTo s k < 18446744073709551616 := by
  cases k with
  | zero => exact ⟨by show (0 : Int) ≤ 14695981039346656037; decide, by show (14695981039346656037 : Int) < 18446744073709551616; decide⟩
  | succ k => simp only [hashTo]; omega
theorem hAt_range (s : ByteArray) (i : Nat) : 0 ≤ hAt s i ∧ hAt s i < 18446744073709551616 := by
  cases i with
  | zero => exact hashTo_range s s.size
  | succ i => simp only [hAt]; omega
/-- The i-th place among m bits. -/
def plc (s : ByteArray) (m : Nat) (hm : 0 < m) (i : Nat) : Fin m := ⟨(hAt s i % (m : Int)).toNat, by have h1 := Int.emod_nonneg (hAt s i) (show (m : Int) ≠ 0 by omega); have h2 := Int.emod_lt_of_pos (hAt s i) (show (0 : Int) < m by omega); omega⟩
def plcs (s : ByteArray) (m : Nat) (hm : 0 < m) (kk : Nat) : List (Fin m) := (List.range kk).map (plc s m hm)
theorem plc_val (s : ByteArray) (m : Nat) (hm : 0 < m) (h2 : m ≤ 2000000000000000) (i : Nat) : ((plc s m hm i).val : Int) = wrap64 (hAt s i % (m : Int)) := by
  have h1 := Int.emod_nonneg (hAt s i) (show (m : Int) ≠ 0 by omega)
  have h2 := Int.emod_lt_of_pos (hAt s i) (show (0 : Int) < m by omega)
  show (((hAt s i % (m : Int)).toNat : Nat) : Int) = _
  generalize hAt s i % (m : Int) = x at h1 h2
  unfold wrap64
  omega

set_option maxHeartbeats 4000000 in
set_option maxRecDepth 100000 in
theorem rotate_calls (h : Int) (w : World) (hh : 0 ≤ h ∧ h < 18446744073709551616) :
    Calls Try.prog 19 #[.int .u64 h, .int .i64 32] w fun e w' => e = .returned (.int .u64 (rotH h)) ∧ Below w.heap.size w w' := by
  have HB := Aside0.mk (Below.refl w.heap.size w)
  have hq : bits BinOp.and IntKind.u64 32 63 = 32 := by decide
  have hs1 : ∀ W : World, (Op.shift BinOp.shl IntKind.u64 h IntKind.u64 32).run Try.prog W = .ok (.int .u64 (IntKind.u64.wrap (h * 4294967296))) W := fun W => by rw [shift_shl .u64 .u64 h 32 (by decide) (by decide)]; rfl
  have hs2 : ∀ W : World, (Op.shift BinOp.shr IntKind.u64 h IntKind.u64 32).run Try.prog W = .ok (.int .u64 (h / 4294967296)) W := fun W => by rw [shift_shr .u64 .u64 h 32 (by decide) (by decide)]; rfl
  go_enter Try.func19, Try.ntmps19
  go_wp2
  go_ret
  exact ⟨rfl, HB.out⟩

def KpB (mb : Nat) (W W' : World) : Prop := W'.heap[mb]? = W.heap[mb]?
theorem below_grownBy {W W' : World} (h : Below W.heap.size W W') : W.grownBy W' none := ⟨h.os, h.tape, h.output, h.size, fun k hk _ => h.block k hk⟩

set_option maxHeartbeats 4000000 in
set_option maxRecDepth 100000 in
theorem places1_in (n : Nat) (hn : 1 ≤ n) (l ka kb mb : Nat) (key : ByteArray) (kk m : Nat) (hks : key.size ≤ 9223372036854775807) (hm : 0 < m) (hm2 : m ≤ 2000000000000000) (hk2 : kk ≤ 1000) (J Jx : List (Fin m) → World → Prop) (W : World)
    (hJ : AbidesFrom W.heap.size J)
    (hY : ∀ pre x W, J pre W → pre.length < kk → YieldAt Fence.wide (n - 1) Try.prog l #[.int .i64 (x.val : Int)] W fun e W' => (e = .returned (.bool true) ∧ J (pre ++ [x]) W' ∧ KpB mb W W') ∨ (e = .returned (.bool false) ∧ Jx (pre ++ [x]) W'))
    (ck : W.cell? ⟨ka, 0, none⟩ = some (.string key)) (ckk : W.cell? ⟨kb, 0, none⟩ = some (.int .i64 kk)) (cm : W.heap[mb]? = some (.cells #[.int .i64 m] 3 (0, 0))) (h0 : J [] W) :
    CallsIn Fence.wide n Try.prog 18 #[.func (.yield l) #[] #[], .pointer (some ⟨ka, 0, none⟩), .pointer (some ⟨kb, 0, none⟩), .pointer (some ⟨mb, 0, none⟩)] W fun e W' => (∃ v, e = .returned v) ∧ ((∃ ys, ys = plcs key m hm kk ∧ J ys W') ∨ (∃ pre, pre <+: plcs key m hm kk ∧ Jx pre W')) := by
  have hkb := (Array.getElem?_eq_some_iff.1 cm).1
  refine callsIn_of_wp Try.func18 rfl trivial ?_ rfl
  simp only [Try.ntmps18, List.size_toArray, List.length_cons, List.length_nil, Nat.reduceAdd, Nat.reduceSub, Array.replicate_succ, Array.replicate_zero, List.push_toArray, List.append_toArray, List.nil_append, List.cons_append]
  gi_wp2_with (first | (refine ⟨trivial, ?_⟩; gi_at_call 12; refine (callsIn_wide.2 (bloom_Hash.calls key (hashTo key key.size) _ (by unfold bloom_Hash.f; rw [if_pos hks]))).mono ?_; rintro e w1 ⟨rfl, hb1⟩) | (refine ⟨trivial, ?_⟩; gi_at_call 19; refine (callsIn_wide.2 (rotate_calls (hashTo key key.size) _ (hashTo_range key key.size))).mono ?_; rintro e w2 ⟨rfl, hb2⟩; have hb := below_step hb1 hb2; have ckk2 := (hb.cell (World.block_lt_of_cell? _ _ ckk)).trans ckk; have cm2 := (hb.block mb hkb).trans cm; have hJ2 := hJ [] W w2 none h0 (below_grownBy hb) (fun r e => by cases e)))
  gi_loopw [5, 13] (fun v5 v13 wr => ∃ i : Nat, i ≤ kk ∧ v13 = .int .i64 i ∧ v5 = .int .u64 (hAt key i) ∧ wr.heap[mb]? = some (.cells #[.int .i64 m] 3 (0, 0)) ∧ J ((List.range i).map (plc key m hm)) wr) (fun v5 v13 wr => kk - (intOf v13).toNat)
  case atStart => exact ⟨0, Nat.zero_le _, rfl, rfl, cm2, hJ2⟩
  case round =>
    obtain ⟨i, hi, rfl, rfl, hm9, hJi⟩ := hrel
    have hr := hAt_range key i
    have cmr : wr.cell? ⟨mb, 0, none⟩ = some (.int .i64 m) := by rw [cell_of_row wr mb 0 _ _ _ hm9]; rfl
    by_cases hlt : i < kk
    · obtain ⟨fn, tmps, assign, body, hy, hR⟩ := hY ((List.range i).map (plc key m hm)) (plc key m hm i) wr hJi (by simp; exact hlt)
      have hst : (List.range i).map (plc key m hm) ++ [plc key m hm i] = (List.range (i + 1)).map (plc key m hm) := by rw [List.range_succ, List.map_append]; rfl
      rw [hst] at hR
      rw [plc_val key m hm hm2 i] at hy
      gi_wp2
      refine hR.mono ?_
      rintro e W3 (⟨rfl, hJ3, hk3⟩ | ⟨rfl, hJx3⟩)
      · have hm3 := (show W3.heap[mb]? = wr.heap[mb]? from hk3).trans hm9
        gi_wp2
        go_roundw
        case rel => exact ⟨i + 1, hlt, by go_num, by simp only [hAt]; rw [IntKind.wrap_u64]; rfl, hm3, hJ3⟩
        case measure => simp [intOf]; omega
      · gi_wp2
        refine bodyPost_ret (results_none rfl _ _ _) rfl ?_
        exact ⟨⟨_, rfl⟩, .inr ⟨_, ⟨((List.range kk).map (plc key m hm)).drop (i + 1), by unfold plcs; rw [show (List.range (i + 1)).map (plc key m hm) = ((List.range kk).map (plc key m hm)).take (i + 1) by rw [← List.map_take, List.take_range, Nat.min_eq_left (by omega)], List.take_append_drop]⟩, hJx3⟩⟩
    · have hik : i = kk := by omega
      subst hik
      gi_wp2
      go_end0
      exact ⟨⟨_, rfl⟩, .inl ⟨_, rfl, hJi⟩⟩
theorem cell_new2 (W : World) (v : Value) (t : TypeId) : (W.alloc (.cells #[v] t)).cell? ⟨W.heap.size, 0, none⟩ = some v ∧ (W.alloc (.cells #[v] t)).frozen? ⟨W.heap.size, 0, none⟩ = false := by
  have h := heap_alloc_new W (.cells #[v] t (0, 0))
  exact ⟨(blk_cell h 0).trans rfl, blk_frozen h 0⟩
theorem cell_alloc2 {W : World} {a : Addr} {v : Value} (o : Obj) (h : W.cell? a = some v) : (W.alloc o).cell? a = some v := cell_kept h (World.grownBy_alloc W o none) (fun r e => by cases e)
theorem frozen_alloc2 {W : World} {a : Addr} {v : Value} (o : Obj) (h : W.cell? a = some v) (hf : W.frozen? a = false) : (W.alloc o).frozen? a = false := (frozen_kept h (World.grownBy_alloc W o none) (fun r e => by cases e)).trans hf
theorem box3 (w : World) (x y z : Value) (tx ty tz : TypeId) : (((w.alloc (.cells #[x] tx)).alloc (.cells #[y] ty)).alloc (.cells #[z] tz)).cell? ⟨w.heap.size, 0, none⟩ = some x ∧ (((w.alloc (.cells #[x] tx)).alloc (.cells #[y] ty)).alloc (.cells #[z] tz)).cell? ⟨w.heap.size + 1 + 1, 0, none⟩ = some z ∧ (((w.alloc (.cells #[x] tx)).alloc (.cells #[y] ty)).alloc (.cells #[z] tz)).heap[w.heap.size + 1]? = some (.cells #[y] ty (0, 0)) ∧ (((w.alloc (.cells #[x] tx)).alloc (.cells #[y] ty)).alloc (.cells #[z] tz)).heap.size = w.heap.size + 3 ∧ Below w.heap.size w (((w.alloc (.cells #[x] tx)).alloc (.cells #[y] ty)).alloc (.cells #[z] tz)) := by
  have h0 := (cell_new2 w x tx).1
  have h1 := heap_alloc_new (w.alloc (.cells #[x] tx)) (.cells #[y] ty (0, 0))
  have h2 := (cell_new2 ((w.alloc (.cells #[x] tx)).alloc (.cells #[y] ty)) z tz).1
  rw [World.size_alloc] at h1
  rw [World.size_alloc, World.size_alloc] at h2
  refine ⟨cell_alloc2 _ (cell_alloc2 _ h0), h2, (Below.heap_alloc _ _ _ (by rw [World.size_alloc, World.size_alloc]; omega)).trans h1, by rw [World.size_alloc, World.size_alloc, World.size_alloc], (((Below.refl _ w).alloc (Nat.le_refl _) _).alloc (by simp) _).alloc (by simp; omega) _⟩

set_option maxHeartbeats 4000000 in
set_option maxRecDepth 100000 in
theorem places_calls (key : ByteArray) (m kk : Int) (w : World) :
    Calls Try.prog 16 #[.string key, .int .i64 m, .int .i64 kk] w fun e w' => e = .returned (.func (.func 18) #[] #[.pointer (some ⟨w.heap.size, 0, none⟩), .pointer (some ⟨w.heap.size + 1 + 1, 0, none⟩), .pointer (some ⟨w.heap.size + 1, 0, none⟩)]) ∧ w'.cell? ⟨w.heap.size, 0, none⟩ = some (.string key) ∧ w'.cell? ⟨w.heap.size + 1 + 1, 0, none⟩ = some (.int .i64 kk) ∧ w'.heap[w.heap.size + 1]? = some (.cells #[.int .i64 m] 3 (0, 0)) ∧ w'.heap.size = w.heap.size + 3 ∧ Below w.heap.size w w' := by
  have hw := box3 w (.string key) (.int .i64 m) (.int .i64 kk) 9 3 3
  go_enter Try.func16, Try.ntmps16
  go_wp2
  go_ret
  exact ⟨rfl, hw⟩
theorem KpB_t {mb : Nat} {A B C : World} (h : KpB mb A B) (k : KpB mb B C) : KpB mb A C := Eq.trans k h
theorem KpB_b {mb : Nat} {w : World} (hm : mb < w.heap.size) (W : World) (l : Nat) (o o' : Obj) (hl : w.heap.size ≤ l) (h : W.heap[l]? = some o) (_ : o.isCells = false) (_ : o.isWalk = false) : KpB mb W (W.putObj l o') := World.putObj_heap_other (by omega)
theorem places_stops (n : Nat) (hn : 1 ≤ n) (ka kb mb : Nat) (key : ByteArray) (kk m : Nat) (hks : key.size ≤ 9223372036854775807) (hm : 0 < m) (hm2 : m ≤ 2000000000000000) (hk2 : kk ≤ 1000) (w : World)
    (ck : w.cell? ⟨ka, 0, none⟩ = some (.string key)) (ckk : w.cell? ⟨kb, 0, none⟩ = some (.int .i64 kk)) (cm : w.heap[mb]? = some (.cells #[.int .i64 m] 3 (0, 0))) :
    SeqStopsK Fence.wide n Try.prog 18 #[.pointer (some ⟨ka, 0, none⟩), .pointer (some ⟨kb, 0, none⟩), .pointer (some ⟨mb, 0, none⟩)] (fun x : Fin m => #[.int .i64 (x.val : Int)]) (KpB mb) (fun xs => xs = plcs key m hm kk) (fun pre => pre <+: plcs key m hm kk) kk w := by
  intro l J Jx W hW hJ hJx hY h0
  exact places1_in n hn l ka kb mb key kk m hks hm hm2 hk2 J Jx W hJ hY ((hW.cell (World.block_lt_of_cell? _ _ ck)).trans ck) ((hW.cell (World.block_lt_of_cell? _ _ ckk)).trans ckk) ((hW.block mb (Array.getElem?_eq_some_iff.1 cm).1).trans cm) h0
theorem and7 (q : Nat) (h : q ≤ 4000000000000000) : bits BinOp.and IntKind.i64 (q : Int) 7 = ((q % 8 : Nat) : Int) := by
  have e : bits BinOp.and IntKind.i64 (q : Int) 7 = IntKind.i64.wrap (((q : Int) % 2 ^ 64).toNat &&& ((7 : Int) % 2 ^ 64).toNat : Nat) := rfl
  have e1 : ((q : Int) % 2 ^ 64).toNat = q := by omega
  have e2 : ((7 : Int) % 2 ^ 64).toNat = 2 ^ 3 - 1 := by decide
  rw [e, e1, e2, Nat.and_two_pow_sub_one_eq_mod, i64_w]
  unfold wrap64
  omega
theorem shl7 (P : Program) (q : Nat) (h : q ≤ 4000000000000000) (W : World) : (Op.shift BinOp.shl IntKind.u8 1 IntKind.i64 (bits BinOp.and IntKind.i64 (q : Int) 7)).run P W = .ok (.int .u8 (2 ^ (q % 8))) W := by
  rw [and7 q h, shift_shl .u8 .i64 1 _ (by omega) (by show _ ≤ (8 : Int); omega)]
  have hl : q % 8 < 8 := Nat.mod_lt _ (by decide)
  generalize q % 8 = r at hl
  have : r = 0 ∨ r = 1 ∨ r = 2 ∨ r = 3 ∨ r = 4 ∨ r = 5 ∨ r = 6 ∨ r = 7 := by omega
  rcases this with rfl | rfl | rfl | rfl | rfl | rfl | rfl | rfl <;> rfl
theorem cell_one2 (w : World) (x : Value) (t : TypeId) : ∀ j u, [x][j]? = some u → (w.alloc (.cells #[x] t)).cell? ((⟨w.heap.size, 0, none⟩ : Addr).add j) = some u := by
  intro j u hj
  cases j with
  | zero =>
    have hadd : (⟨w.heap.size, 0, none⟩ : Addr).add 0 = ⟨w.heap.size, 0, none⟩ := by unfold Addr.add; split <;> simp_all
    rw [hadd, (cell_new2 w x t).1]
    simpa using hj
  | succ j => simp at hj
end Go.Proofs.Ytadfbclebdocnaa.Print
