import Derived.Test.YtbdkfmhkgeoeaaaPrint0
import Derived.LoopIn
import Derived.LoopNIn
import Derived.OwnWalkIn
import Derived.RangeFuncBound
import Derived.RangeFuncCalls
import Derived.RangeFuncLeaves
import Derived.RangeFuncNested
import Derived.Shelf.Abstract
import Derived.Shelf.RegionOpen
import Derived.TacticsInMore
import Derived.WalkKit
import Derived.Test.YtbdkfmhkgeoeaaaXBytesRow
import Derived.Test.YtbdkfmhkgeoeaaaXRound
/- Contracts proved by hand: see the theorems' own lines. -/
namespace Go.Proofs.Ytbdkfmhkgeoeaaa.Print
open Go.RowKit Go.Proofs.YtbdkfmhkgeoeaaaW.PrintWords Go.Proofs.YtbdkfmhkgeoeaaaW.PrintLast Go.Proofs.YtbdkfmhkgeoeaaaX
set_option linter.unusedVariables false
set_option linter.unusedSimpArgs false

/-- The hash of the first bytes. -/
def hashTo (s : ByteArray) : Nat → Int
  | 0 => 14695981039346656037
  | k + 1 => (bits .xor .u64 (hashTo s k) (bt s k)) * 1099511628211 % 18446744073709551616
def bloom_Hash.f (a0 : ByteArray) : Option Int := if a0.size ≤ 9223372036854775807 then some (hashTo a0 a0.size) else none

set_option maxHeartbeats 4000000 in
set_option maxRecDepth 100000 in
theorem bloom_Hash.calls (a0 : ByteArray) (r : Int) (w : World) (h : bloom_Hash.f a0 = some r) :
    Calls Try.prog 72 #[.string a0] w fun e w' => e = .returned (.int .u64 r) ∧ Below w.heap.size w w' := by
  have hsz : a0.size ≤ 9223372036854775807 := by
    unfold bloom_Hash.f at h
    by_cases hs : a0.size ≤ 9223372036854775807
    · exact hs
    · rw [if_neg hs] at h; cases h
  have H : hashTo a0 a0.size = r := by
    unfold bloom_Hash.f at h
    rw [if_pos hsz] at h
    exact Option.some.inj h
  clear h
  have kb := fun (W : World) => print_bytes (P := Try.prog) 9 40 5 Try.underlying9 Try.underlying40 Try.underlying5 a0 W
  have hcell : ∀ k : Nat, k < a0.size → (Lib.bytesWorld w 5 a0).cell? ⟨w.heap.size, k, none⟩ = some (.int .u8 (bt a0 k)) := by
    intro k hk
    rw [Lib.bytesWorld_cell w 5 a0 k hk]
    have h1 : ((k : Int)).toNat < a0.size := by omega
    have h2 := bt_at a0 (k : Int) h1
    rw [← h2]
    have h3 : k < a0.data.toList.length := by rw [data_length]; omega
    rw [List.getD_eq_getElem?_getD, List.getElem?_eq_getElem h3, Option.getD_some]
    rfl
  have HB := Aside0.mk (bytes_below (B := w.heap.size) (Below.refl w.heap.size w) (Nat.le_refl _) 5 a0)
  have HC := Aside0.mk hcell
  have HH := Aside0.mk H
  clear hcell H
  go_enter Try.func72, Try.ntmps72
  go_wp2
  go_loop [3, 9] (fun v i => ∃ k : Nat, k ≤ a0.size ∧ i = .int .i64 k ∧ v = .int .u64 (hashTo a0 k)) (fun _ i => a0.size - (intOf i).toNat)
  case atStart => exact ⟨0, Nat.zero_le _, rfl, rfl⟩
  case round =>
    obtain ⟨k, hk, rfl, rfl⟩ := hrel
    by_cases hlt : k < a0.size
    · have hc := HC.out k hlt
      have hr := bt_range a0 k
      have hw : bt a0 (k : Int) % 18446744073709551616 = bt a0 (k : Int) := by omega
      go_wp2
      exact ⟨⟨k + 1, by omega, by go_num, by simp only [hashTo]; rw [IntKind.wrap_u64]⟩, by simp [intOf]; omega⟩
    · obtain rfl : k = a0.size := by omega
      go_wp2
      go_ret
      exact ⟨by rw [← HH.out]; rfl, HB.out⟩
end Go.Proofs.Ytbdkfmhkgeoeaaa.Print

/- Contracts proved by hand: see the theorems' own lines. -/
namespace Go.Proofs.Ytbdkfmhkgeoeaaa.Print
open Go.RowKit Go.Shelf Go.Proofs.YtbdkfmhkgeoeaaaW.PrintWords Go.Proofs.YtbdkfmhkgeoeaaaW.PrintLast Go.Proofs.YtbdkfmhkgeoeaaaX
set_option linter.unusedVariables false
set_option linter.unusedSimpArgs false
attribute [local go_sem] Oper.semAt_some

/-- A hash, its halves changed. -/
def rotH (h : Int) : Int := bits .or .u64 (IntKind.u64.wrap (h * 4294967296)) (h / 4294967296)
/-- The step from one place to the next one. -/
def stepG (s : ByteArray) : Int := bits .or .u64 (rotH (hashTo s s.size)) 1
/-- The number of the i-th place. -/
def hAt (s : ByteArray) : Nat → Int
  | 0 => hashTo s s.size
  | i + 1 => (hAt s i + stepG s) % 18446744073709551616
/-- The i-th place among m bits. -/
theorem hashTo_range (s : ByteArray) (k : Nat) : 0 ≤ hashTo s k ∧ hashTo s k < 18446744073709551616 := by
  cases k with
  | zero => exact ⟨by show (0 : Int) ≤ 14695981039346656037; decide, by show (14695981039346656037 : Int) < 18446744073709551616; decide⟩
  | succ k => simp only [hashTo]; omega
theorem hAt_range (s : ByteArray) (i : Nat) : 0 ≤ hAt s i ∧ hAt s i < 18446744073709551616 := by
  cases i with
  | zero => exact hashTo_range s s.size
  | succ i => simp only [hAt]; omega
/-- The i-th place among m bits. -/
def plc (s : ByteArray) (m : Nat) (hm : 0 < m) (i : Nat) : Fin m := ⟨(hAt s i % (m : Int)).toNat, by have h1 := Int.emod_nonneg (hAt s i) (show (m : Int) ≠ 0 by omega); have h2 := Int.emod_lt_of_pos (hAt s i) (show (0 : Int) < m by omega); omega⟩
def plcs (s : ByteArray) (m : Nat) (hm : 0 < m) (kk : Nat) : List (Fin m) := (List.range kk).map (plc s m hm)
theorem plc_val (s : ByteArray) (m : Nat) (hm : 0 < m) (h2 : m ≤ 2000000000000000) (i : Nat) : ((plc s m hm i).val : Int) = wrap64 (hAt s i % (m : Int)) := by
  have h1 := Int.emod_nonneg (hAt s i) (show (m : Int) ≠ 0 by omega)
  have h2 := Int.emod_lt_of_pos (hAt s i) (show (0 : Int) < m by omega)
  show (((hAt s i % (m : Int)).toNat : Nat) : Int) = _
  generalize hAt s i % (m : Int) = x at h1 h2
  unfold wrap64
  omega

set_option maxHeartbeats 4000000 in
set_option maxRecDepth 100000 in
theorem rotate_calls (h : Int) (w : World) (hh : 0 ≤ h ∧ h < 18446744073709551616) :
    Calls Try.prog 73 #[.int .u64 h, .int .i64 32] w fun e w' => e = .returned (.int .u64 (rotH h)) ∧ Below w.heap.size w w' := by
  have HB := Aside0.mk (Below.refl w.heap.size w)
  have hq : bits BinOp.and IntKind.u64 32 63 = 32 := by decide
  have hs1 : ∀ W : World, (Op.shift BinOp.shl IntKind.u64 h IntKind.u64 32).run Try.prog W = .ok (.int .u64 (IntKind.u64.wrap (h * 4294967296))) W := fun W => by rw [shift_shl .u64 .u64 h 32 (by decide) (by decide)]; rfl
  have hs2 : ∀ W : World, (Op.shift BinOp.shr IntKind.u64 h IntKind.u64 32).run Try.prog W = .ok (.int .u64 (h / 4294967296)) W := fun W => by rw [shift_shr .u64 .u64 h 32 (by decide) (by decide)]; rfl
  go_enter Try.func73, Try.ntmps73
  go_wp2
  go_ret
  exact ⟨rfl, HB.out⟩

def KpB (mb : Nat) (W W' : World) : Prop := W'.heap[mb]? = W.heap[mb]?
theorem below_grownBy {W W' : World} (h : Below W.heap.size W W') : W.grownBy W' none := ⟨h.os, h.tape, h.output, h.size, fun k hk _ => h.block k hk⟩

set_option maxHeartbeats 4000000 in
set_option maxRecDepth 100000 in
theorem places1_in (n : Nat) (hn : 1 ≤ n) (l ka kb mb : Nat) (key : ByteArray) (kk m : Nat) (hks : key.size ≤ 9223372036854775807) (hm : 0 < m) (hm2 : m ≤ 2000000000000000) (hk2 : kk ≤ 1000) (J Jx : List (Fin m) → World → Prop) (W : World)
    (hJ : AbidesFrom W.heap.size J)
    (hY : ∀ pre x W, J pre W → pre.length < kk → YieldAt Fence.wide (n - 1) Try.prog l #[.int .i64 (x.val : Int)] W fun e W' => (e = .returned (.bool true) ∧ J (pre ++ [x]) W' ∧ KpB mb W W') ∨ (e = .returned (.bool false) ∧ Jx (pre ++ [x]) W'))
    (ck : W.cell? ⟨ka, 0, none⟩ = some (.string key)) (ckk : W.cell? ⟨kb, 0, none⟩ = some (.int .i64 kk)) (cm : W.heap[mb]? = some (.cells #[.int .i64 m] 3 (0, 0))) (h0 : J [] W) :
    CallsIn Fence.wide n Try.prog 71 #[.func (.yield l) #[] #[], .pointer (some ⟨ka, 0, none⟩), .pointer (some ⟨kb, 0, none⟩), .pointer (some ⟨mb, 0, none⟩)] W fun e W' => (∃ v, e = .returned v) ∧ ((∃ ys, ys = plcs key m hm kk ∧ J ys W') ∨ (∃ pre, pre <+: plcs key m hm kk ∧ Jx pre W')) := by
  have hkb := (Array.getElem?_eq_some_iff.1 cm).1
  refine callsIn_of_wp Try.func71 rfl trivial ?_ rfl
  simp only [Try.ntmps71, List.size_toArray, List.length_cons, List.length_nil, Nat.reduceAdd, Nat.reduceSub, Array.replicate_succ, Array.replicate_zero, List.push_toArray, List.append_toArray, List.nil_append, List.cons_append]
  gi_wp2_with (first | (refine ⟨trivial, ?_⟩; gi_at_call 72; refine (callsIn_wide.2 (bloom_Hash.calls key (hashTo key key.size) _ (by unfold bloom_Hash.f; rw [if_pos hks]))).mono ?_; rintro e w1 ⟨rfl, hb1⟩) | (refine ⟨trivial, ?_⟩; gi_at_call 73; refine (callsIn_wide.2 (rotate_calls (hashTo key key.size) _ (hashTo_range key key.size))).mono ?_; rintro e w2 ⟨rfl, hb2⟩; have hb := below_step hb1 hb2; have ckk2 := (hb.cell (World.block_lt_of_cell? _ _ ckk)).trans ckk; have cm2 := (hb.block mb hkb).trans cm; have hJ2 := hJ [] W w2 none h0 (below_grownBy hb) (fun r e => by cases e)))
  gi_loopw [5, 13] (fun v5 v13 wr => ∃ i : Nat, i ≤ kk ∧ v13 = .int .i64 i ∧ v5 = .int .u64 (hAt key i) ∧ wr.heap[mb]? = some (.cells #[.int .i64 m] 3 (0, 0)) ∧ J ((List.range i).map (plc key m hm)) wr) (fun v5 v13 wr => kk - (intOf v13).toNat)
  case atStart => exact ⟨0, Nat.zero_le _, rfl, rfl, cm2, hJ2⟩
  case round =>
    obtain ⟨i, hi, rfl, rfl, hm9, hJi⟩ := hrel
    have hr := hAt_range key i
    have cmr : wr.cell? ⟨mb, 0, none⟩ = some (.int .i64 m) := by rw [cell_of_row wr mb 0 _ _ _ hm9]; rfl
    by_cases hlt : i < kk
    · obtain ⟨fn, tmps, assign, body, hy, hR⟩ := hY ((List.range i).map (plc key m hm)) (plc key m hm i) wr hJi (by simp; exact hlt)
      have hst : (List.range i).map (plc key m hm) ++ [plc key m hm i] = (List.range (i + 1)).map (plc key m hm) := by rw [List.range_succ, List.map_append]; rfl
      rw [hst] at hR
      rw [plc_val key m hm hm2 i] at hy
      gi_wp2
      refine hR.mono ?_
      rintro e W3 (⟨rfl, hJ3, hk3⟩ | ⟨rfl, hJx3⟩)
      · have hm3 := (show W3.heap[mb]? = wr.heap[mb]? from hk3).trans hm9
        gi_wp2
        go_roundw
        case rel => exact ⟨i + 1, hlt, by go_num, by simp only [hAt]; rw [IntKind.wrap_u64]; rfl, hm3, hJ3⟩
        case measure => simp [intOf]; omega
      · gi_wp2
        refine bodyPost_ret (results_none rfl _ _ _) rfl ?_
        exact ⟨⟨_, rfl⟩, .inr ⟨_, ⟨((List.range kk).map (plc key m hm)).drop (i + 1), by unfold plcs; rw [show (List.range (i + 1)).map (plc key m hm) = ((List.range kk).map (plc key m hm)).take (i + 1) by rw [← List.map_take, List.take_range, Nat.min_eq_left (by omega)], List.take_append_drop]⟩, hJx3⟩⟩
    · have hik : i = kk := by omega
      subst hik
      gi_wp2
      go_end0
      exact ⟨⟨_, rfl⟩, .inl ⟨_, rfl, hJi⟩⟩
theorem cell_new2 (W : World) (v : Value) (t : TypeId) : (W.alloc (.cells #[v] t)).cell? ⟨W.heap.size, 0, none⟩ = some v ∧ (W.alloc (.cells #[v] t)).frozen? ⟨W.heap.size, 0, none⟩ = false := by
  have h := heap_alloc_new W (.cells #[v] t (0, 0))
  exact ⟨(blk_cell h 0).trans rfl, blk_frozen h 0⟩
theorem cell_alloc2 {W : World} {a : Addr} {v : Value} (o : Obj) (h : W.cell? a = some v) : (W.alloc o).cell? a = some v := cell_kept h (World.grownBy_alloc W o none) (fun r e => by cases e)
theorem box3 (w : World) (x y z : Value) (tx ty tz : TypeId) : (((w.alloc (.cells #[x] tx)).alloc (.cells #[y] ty)).alloc (.cells #[z] tz)).cell? ⟨w.heap.size, 0, none⟩ = some x ∧ (((w.alloc (.cells #[x] tx)).alloc (.cells #[y] ty)).alloc (.cells #[z] tz)).cell? ⟨w.heap.size + 1 + 1, 0, none⟩ = some z ∧ (((w.alloc (.cells #[x] tx)).alloc (.cells #[y] ty)).alloc (.cells #[z] tz)).heap[w.heap.size + 1]? = some (.cells #[y] ty (0, 0)) ∧ (((w.alloc (.cells #[x] tx)).alloc (.cells #[y] ty)).alloc (.cells #[z] tz)).heap.size = w.heap.size + 3 ∧ Below w.heap.size w (((w.alloc (.cells #[x] tx)).alloc (.cells #[y] ty)).alloc (.cells #[z] tz)) := by
  have h0 := (cell_new2 w x tx).1
  have h1 := heap_alloc_new (w.alloc (.cells #[x] tx)) (.cells #[y] ty (0, 0))
  have h2 := (cell_new2 ((w.alloc (.cells #[x] tx)).alloc (.cells #[y] ty)) z tz).1
  rw [World.size_alloc] at h1
  rw [World.size_alloc, World.size_alloc] at h2
  refine ⟨cell_alloc2 _ (cell_alloc2 _ h0), h2, (Below.heap_alloc _ _ _ (by rw [World.size_alloc, World.size_alloc]; omega)).trans h1, by rw [World.size_alloc, World.size_alloc, World.size_alloc], (((Below.refl _ w).alloc (Nat.le_refl _) _).alloc (by simp) _).alloc (by simp; omega) _⟩

set_option maxHeartbeats 4000000 in
set_option maxRecDepth 100000 in
theorem places_calls (key : ByteArray) (m kk : Int) (w : World) :
    Calls Try.prog 51 #[.string key, .int .i64 m, .int .i64 kk] w fun e w' => e = .returned (.func (.func 71) #[] #[.pointer (some ⟨w.heap.size, 0, none⟩), .pointer (some ⟨w.heap.size + 1 + 1, 0, none⟩), .pointer (some ⟨w.heap.size + 1, 0, none⟩)]) ∧ w'.cell? ⟨w.heap.size, 0, none⟩ = some (.string key) ∧ w'.cell? ⟨w.heap.size + 1 + 1, 0, none⟩ = some (.int .i64 kk) ∧ w'.heap[w.heap.size + 1]? = some (.cells #[.int .i64 m] 3 (0, 0)) ∧ w'.heap.size = w.heap.size + 3 ∧ Below w.heap.size w w' := by
  have hw := box3 w (.string key) (.int .i64 m) (.int .i64 kk) 9 3 3
  go_enter Try.func51, Try.ntmps51
  go_wp2
  go_ret
  exact ⟨rfl, hw⟩
theorem KpB_t {mb : Nat} {A B C : World} (h : KpB mb A B) (k : KpB mb B C) : KpB mb A C := Eq.trans k h
theorem KpB_b {mb : Nat} {w : World} (hm : mb < w.heap.size) (W : World) (l : Nat) (o o' : Obj) (hl : w.heap.size ≤ l) (h : W.heap[l]? = some o) (_ : o.isCells = false) (_ : o.isWalk = false) : KpB mb W (W.putObj l o') := World.putObj_heap_other (by omega)
theorem places_stops (n : Nat) (hn : 1 ≤ n) (ka kb mb : Nat) (key : ByteArray) (kk m : Nat) (hks : key.size ≤ 9223372036854775807) (hm : 0 < m) (hm2 : m ≤ 2000000000000000) (hk2 : kk ≤ 1000) (w : World)
    (ck : w.cell? ⟨ka, 0, none⟩ = some (.string key)) (ckk : w.cell? ⟨kb, 0, none⟩ = some (.int .i64 kk)) (cm : w.heap[mb]? = some (.cells #[.int .i64 m] 3 (0, 0))) :
    SeqStopsK Fence.wide n Try.prog 71 #[.pointer (some ⟨ka, 0, none⟩), .pointer (some ⟨kb, 0, none⟩), .pointer (some ⟨mb, 0, none⟩)] (fun x : Fin m => #[.int .i64 (x.val : Int)]) (KpB mb) (fun xs => xs = plcs key m hm kk) (fun pre => pre <+: plcs key m hm kk) kk w := by
  intro l J Jx W hW hJ hJx hY h0
  exact places1_in n hn l ka kb mb key kk m hks hm hm2 hk2 J Jx W hJ hY ((hW.cell (World.block_lt_of_cell? _ _ ck)).trans ck) ((hW.cell (World.block_lt_of_cell? _ _ ckk)).trans ckk) ((hW.block mb (Array.getElem?_eq_some_iff.1 cm).1).trans cm) h0
theorem and7 (q : Nat) (h : q ≤ 4000000000000000) : bits BinOp.and IntKind.i64 (q : Int) 7 = ((q % 8 : Nat) : Int) := by
  have e : bits BinOp.and IntKind.i64 (q : Int) 7 = IntKind.i64.wrap (((q : Int) % 2 ^ 64).toNat &&& ((7 : Int) % 2 ^ 64).toNat : Nat) := rfl
  have e1 : ((q : Int) % 2 ^ 64).toNat = q := by omega
  have e2 : ((7 : Int) % 2 ^ 64).toNat = 2 ^ 3 - 1 := by decide
  rw [e, e1, e2, Nat.and_two_pow_sub_one_eq_mod, i64_w]
  unfold wrap64
  omega
theorem shl7 (P : Program) (q : Nat) (h : q ≤ 4000000000000000) (W : World) : (Op.shift BinOp.shl IntKind.u8 1 IntKind.i64 (bits BinOp.and IntKind.i64 (q : Int) 7)).run P W = .ok (.int .u8 (2 ^ (q % 8))) W := by
  rw [and7 q h, shift_shl .u8 .i64 1 _ (by omega) (by show _ ≤ (8 : Int); omega)]
  have hl : q % 8 < 8 := Nat.mod_lt _ (by decide)
  generalize q % 8 = r at hl
  have : r = 0 ∨ r = 1 ∨ r = 2 ∨ r = 3 ∨ r = 4 ∨ r = 5 ∨ r = 6 ∨ r = 7 := by omega
  rcases this with rfl | rfl | rfl | rfl | rfl | rfl | rfl | rfl <;> rfl
theorem cell_one2 (w : World) (x : Value) (t : TypeId) : ∀ j u, [x][j]? = some u → (w.alloc (.cells #[x] t)).cell? ((⟨w.heap.size, 0, none⟩ : Addr).add j) = some u := by
  intro j u hj
  cases j with
  | zero =>
    have hadd : (⟨w.heap.size, 0, none⟩ : Addr).add 0 = ⟨w.heap.size, 0, none⟩ := by unfold Addr.add; split <;> simp_all
    rw [hadd, (cell_new2 w x t).1]
    simpa using hj
  | succ j => simp at hj
end Go.Proofs.Ytbdkfmhkgeoeaaa.Print

/- Contracts proved by hand: see the theorems' own lines. -/
namespace Go.Proofs.Ytbdkfmhkgeoeaaa.Print
open Go.RowKit Go.Shelf Go.Proofs.YtbdkfmhkgeoeaaaW.PrintWords Go.Proofs.YtbdkfmhkgeoeaaaW.PrintLast Go.Proofs.YtbdkfmhkgeoeaaaX
set_option linter.unusedVariables false
set_option linter.unusedSimpArgs false
attribute [local go_sem] Oper.semAt_some

end Go.Proofs.Ytbdkfmhkgeoeaaa.Print

/- Contracts proved by hand: see the theorems' own lines. -/
namespace Go.Proofs.Ytbdkfmhkgeoeaaa.Print
open Go.RowKit Go.Shelf Go.Proofs.YtbdkfmhkgeoeaaaW.PrintWords Go.Proofs.YtbdkfmhkgeoeaaaW.PrintLast Go.Proofs.YtbdkfmhkgeoeaaaW.PrintMore Go.Proofs.YtbdkfmhkgeoeaaaX
set_option linter.unusedVariables false
set_option linter.unusedSimpArgs false
attribute [local go_sem] Oper.semAt_some

/-- A bit is set. -/
def setBit (xs : List Int) (p : Nat) : List Int := xs.set (p / 8) (bits .or .u8 (xs.getD (p / 8) 0) (2 ^ (p % 8)))
def setFold (m : Nat) (xs : List Int) (ps : List (Fin m)) : List Int := ps.foldl (fun ys p => setBit ys p.val) xs
def setKey (m : Nat) (hm : 0 < m) (kk : Nat) (xs : List Int) (key : ByteArray) : List Int := setFold m xs (plcs key m hm kk)
theorem setFold_length (m : Nat) (ps : List (Fin m)) : ∀ xs : List Int, (setFold m xs ps).length = xs.length := by
  induction ps with
  | nil => exact fun _ => rfl
  | cons p ps ih => intro xs; exact (ih (setBit xs p.val)).trans (by unfold setBit; rw [List.length_set])
theorem setFold_snoc (m : Nat) (xs : List Int) (ps : List (Fin m)) (p : Fin m) : setFold m xs (ps ++ [p]) = setBit (setFold m xs ps) p.val := by unfold setFold; rw [List.foldl_append]; rfl
def nBytes (n e : Nat) : Nat := (max (n * e) 64 + 7) / 8
theorem nBytes_pos (n e : Nat) : 0 < 8 * nBytes n e := by unfold nBytes; omega
def nHash (e : Nat) : Nat := max 1 (e * 69 / 100)
def makeR (l0 : List ByteArray) (each : Int) : ByteArray × Option Int :=
  if each < 1 ∨ 20 < each then (⟨#[]⟩, some 1)
  else if 2000 < l0.length then (⟨#[]⟩, some 5)
  else (strOfNums (l0.foldl (setKey (8 * nBytes l0.length each.toNat) (nBytes_pos _ _) (nHash each.toNat)) (List.replicate (nBytes l0.length each.toNat) 0) ++ [(nHash each.toNat : Int)]), none)
def bloom_Make.f (l0 : List ByteArray) (each : Int) : Option (ByteArray × Option Int) := if l0.all (fun s => decide (s.size ≤ 9223372036854775807)) = true then some (makeR l0 each) else none
def mkD (D : Nat) : Deferred := { target := .collected D, args := #[] }
/-- What holds between two keys. -/
structure MkInv (w : World) (l0 : List ByteArray) (m : Nat) (hm : 0 < m) (K N i : Nat) (xs : List Int) (Ds : List Nat) (W : World) : Prop where
  le : i ≤ l0.length
  row : W.ownsRow w.heap.size 5 1 (.slice (some ⟨w.heap.size, 0, none⟩) N (N + 1)) N (xs.map (Value.int .u8))
  box : W.heap[w.heap.size + 1]? = some (.cells #[.slice (some ⟨w.heap.size, 0, none⟩) N (N + 1)] 40 (0, 0))
  val : xs = (l0.take i).foldl (setKey m hm K) (List.replicate N 0)
  mks : ∀ D ∈ Ds, w.heap.size + 2 ≤ D ∧ W.heap[D]? = some (.deferred (some []))
  nd : Ds.Nodup
  bel : Below w.heap.size w W
theorem leaves_marks {F : Fence} {n : Nat} {P : Program} {fn : Func} {tmps : Array Value} {R : Ending → World → Prop} (B : Nat) : ∀ (Ds : List Nat) (W : World), (∀ D ∈ Ds, B ≤ D ∧ W.heap[D]? = some (.deferred (some []))) → Ds.Nodup → (∀ W', Below B W W' → LeavesInM F n P fn tmps R [] .returning W') → LeavesInM F n P fn tmps R (Ds.map mkD) .returning W := by
  intro Ds
  induction Ds with
  | nil => intro W _ _ h; exact h W (Below.refl _ _)
  | cons D Ds ih =>
    intro W hD hn h
    obtain ⟨hb, hK⟩ := hD D (List.mem_cons_self ..)
    have hlt := (Array.getElem?_eq_some_iff.1 hK).1
    have hbw : Below B W (W.putObj D (.deferred none)) := (Below.refl B W).grown (grownBy_putObj' W D _) (by omega) (fun k e => by cases e; exact hb)
    refine ⟨by simp, .inl ⟨D, _, rfl, run_takeDeferred hK, ?_⟩⟩
    have hn2 := List.nodup_cons.1 hn
    refine ih _ (fun D' hD' => ⟨(hD D' (List.mem_cons_of_mem _ hD')).1, ?_⟩) hn2.2 (fun W' hW' => h W' (hbw.trans hW'))
    rw [World.putObj_heap_other (fun e => hn2.1 (by rw [← e]; exact hD'))]
    exact (hD D' (List.mem_cons_of_mem _ hD')).2
theorem owns_brow {W : World} {base e g n cap : Nat} {xs : List Int} (hl : xs.length = n) (h : W.ownsRow base e 1 (.slice (some ⟨g, 0, none⟩) n cap) n (xs.map (Value.int .u8))) : BRow W base e (.slice (some ⟨g, 0, none⟩) xs.length cap) xs := by
  rcases h.2 with ⟨h', _⟩ | ⟨g', cap', cur, h', hb, hg, hnc, hcm, hcs, ht⟩
  · simp at h'
  · simp only [Value.slice.injEq, Option.some.injEq, Addr.mk.injEq, and_true, true_and] at h'
    obtain ⟨rfl, rfl⟩ := h'
    exact ⟨g, cap, cur, (0, 0), rfl, hb, hg, .inl rfl, by rw [hl]; exact hnc, hcm, by rw [hcs, Nat.mul_one], by rw [hl, ← ht, Nat.mul_one]⟩
theorem make_eq {l0 : List ByteArray} {E L N m K i : Nat} {xs : List Int} {hm : 0 < m} (hL : L = l0.length) (hN : N = nBytes L E) (hm8 : m = 8 * N) (hK : K = nHash E) (hi : i = L) (hv : xs = (l0.take i).foldl (setKey m hm K) (List.replicate N 0)) : l0.foldl (setKey (8 * nBytes l0.length E) (nBytes_pos _ _) (nHash E)) (List.replicate (nBytes l0.length E) 0) = xs := by
  subst hi; subst hm8; subst hN; subst hL; subst hK
  rw [hv, List.take_length]

set_option maxHeartbeats 4000000 in
set_option maxRecDepth 100000 in
theorem bloom_Make.calls (A0 : Option Addr) (c0 : Nat) (l0 : List ByteArray) (each : Int) (r1 : ByteArray) (r2 : Option Int) (w : World) (hr0 : Kd.C Kd.string w A0 l0.length l0) (hc0 : l0.length ≤ c0) (h : bloom_Make.f l0 each = some (r1, r2)) :
    Calls Try.prog 27 #[.slice A0 l0.length c0, .int .i64 each] w fun e w' => e = .returned (.tuple #[.string r1, errW r2]) ∧ Below w.heap.size w w' := by
  have HR0 := Aside0.mk hr0
  have HC0 := Aside0.mk hc0
  clear hr0 hc0
  unfold bloom_Make.f at h
  by_cases hb : l0.all (fun s => decide (s.size ≤ 9223372036854775807)) = true
  · rw [if_pos hb] at h
    have H := Option.some.inj h
    clear h
    have hl := l0.length
    refine (callsIn_wide (n := 3)).1 ?_
    refine callsIn_of_wp_marks Try.func27 rfl trivial ?_ rfl
    simp only [Try.ntmps27, List.size_toArray, List.length_cons, List.length_nil, Nat.reduceAdd, Nat.reduceSub, Array.replicate_succ, Array.replicate_zero, List.push_toArray, List.append_toArray, List.nil_append, List.cons_append]
    unfold makeR at H
    by_cases c1 : each < 1 ∨ 20 < each
    · rw [if_pos c1] at H
      obtain ⟨rfl, rfl⟩ := Prod.mk.inj H
      by_cases c3 : each < 1
      · have c1b : decide (each < 1) = true := decide_eq_true c3
        clear c1 c3
        gi_wp2
        exact ⟨_, results_tmp2 rfl _ _ _, rfl, Below.refl _ _⟩
      · have c1b : decide (each < 1) = false := decide_eq_false c3
        have c2b : decide (20 < each) = true := decide_eq_true (by omega)
        clear c1 c3
        gi_wp2
        exact ⟨_, results_tmp2 rfl _ _ _, rfl, Below.refl _ _⟩
    · rw [if_neg c1] at H
      by_cases c2 : 2000 < l0.length
      · rw [if_pos c2] at H
        obtain ⟨rfl, rfl⟩ := Prod.mk.inj H
        have c1b : decide (each < 1) = false := decide_eq_false (by omega)
        have c2b : decide (20 < each) = false := decide_eq_false (by omega)
        have c3b : decide (2000 < (l0.length : Int)) = true := decide_eq_true (by omega)
        clear c1 c2
        gi_wp2
        exact ⟨_, results_tmp2 rfl _ _ _, rfl, Below.refl _ _⟩
      · rw [if_neg c2] at H
        obtain ⟨E, hE⟩ : ∃ E : Nat, each = (E : Int) := ⟨each.toNat, by omega⟩
        subst hE
        simp only [Int.toNat_natCast] at H
        have hE1 : 1 ≤ E ∧ E ≤ 20 := by omega
        obtain ⟨L, hL⟩ : ∃ L, L = l0.length := ⟨_, rfl⟩
        rw [← hL]
        have HL := Aside0.mk hL
        have hL2 : L ≤ 2000 := by omega
        have HH := Aside0.mk H
        clear H hL c1 c2 hl
        have c1b : decide ((E : Int) < 1) = false := decide_eq_false (by omega)
        have c2b : decide (20 < (E : Int)) = false := decide_eq_false (by omega)
        have c3b : decide (2000 < (L : Int)) = false := decide_eq_false (by omega)
        obtain ⟨P, hP⟩ : ∃ P, P = L * E := ⟨_, rfl⟩
        have hP2 : P ≤ 40000 := by rw [hP]; exact Nat.le_trans (Nat.mul_le_mul hL2 hE1.2) (by decide)
        have hLE : wrap64 ((L : Int) * (E : Int)) = (P : Int) := by
          have : (L : Int) * (E : Int) = (P : Int) := by rw [hP]; exact (Int.natCast_mul L E).symm
          rw [this]; unfold wrap64; omega
        have HP := Aside0.mk hP
        clear hP
        obtain ⟨Q, hQ⟩ : ∃ Q, Q = max P 64 := ⟨_, rfl⟩
        have hQ2 : 64 ≤ Q ∧ Q ≤ 40000 := by omega
        have hmx1 : ∀ (ts : Array TypeId) (t : TypeId) (W : World), (Builtin.max_ ts t #[.int .i64 (P : Int), .int .i64 64]).run Try.prog W = .ok (.int .i64 (Q : Int)) W := fun ts t W => by
          rw [run_max_int2]; congr 2; split <;> omega
        obtain ⟨K, hK⟩ : ∃ K, K = nHash E := ⟨_, rfl⟩
        have hK2 : 1 ≤ K ∧ K ≤ 20 := by rw [hK]; unfold nHash; omega
        have hmx2 : ∀ (ts : Array TypeId) (t : TypeId) (W : World), (Builtin.max_ ts t #[.int .i64 1, .int .i64 ((E : Int) * 69 / 100)]).run Try.prog W = .ok (.int .i64 (K : Int)) W := fun ts t W => by
          rw [run_max_int2, hK]; unfold nHash; congr 2; split <;> omega
        obtain ⟨N, hN⟩ : ∃ N, N = (Q + 7) / 8 := ⟨_, rfl⟩
        have hN2 : 8 ≤ N ∧ N ≤ 6000 := by omega
        have hN9 : ((Q : Int) + 7) / 8 = (N : Int) := by omega
        have hNB : Aside0 (N = nBytes L E) := ⟨by rw [hN, hQ, HP.out]; rfl⟩
        obtain ⟨CC, hCC⟩ : ∃ CC, CC = madeCells #[Value.int .u8 0] (N + 1) := ⟨_, rfl⟩
        have hmk : ∀ W : World, (Instr.makeSlice 40 (.int .i64 (N : Int)) (.int .i64 ((N : Int) + 1))).run Try.prog W = .ok (.slice (some ⟨W.heap.size, 0, none⟩) N (N + 1)) (W.alloc (.cells CC 5)) := fun W => by
          obtain ⟨i0, hi, hzz⟩ := Option.map_eq_some_iff.1 (show (Try.prog.info? 5).map (fun i => (i.zero, i.size, i.bytes)) = some (some (.int .u8 0), 1, 1) by kernel_rfl)
          simp only [Prod.mk.injEq] at hzz
          obtain ⟨hz0, hz1, hz2⟩ := hzz
          have hr := run_make (P := Try.prog) W 40 5 i0 (.int .u8 0) Try.underlying40 hi hz0 .i64 .i64 (N : Int) ((N : Int) + 1) (by omega) (by omega) (by rw [hz2]; omega) (by omega)
          rw [hr, hz1, hCC, show ((N : Int) + 1).toNat = N + 1 by omega, Int.toNat_natCast, Nat.mul_one]
          rfl
        have HQ := Aside0.mk hQ; have HK := Aside0.mk hK; have HN := Aside0.mk hN; have HCC := Aside0.mk hCC
        clear hQ hK hN hCC
        obtain ⟨m, hm8⟩ : ∃ m : Nat, m = 8 * N := ⟨_, rfl⟩
        have hm0 : 0 < m := by omega
        have hm2 : m ≤ 2000000000000000 := by omega
        have HM8 : Aside0 ((N : Int) * 8 = (m : Int)) := ⟨by omega⟩
        have HMN := Aside0.mk hm8
        clear hm8
        have HI0 : MkInv w l0 m hm0 K N 0 (List.replicate N 0) [] ((w.alloc (.cells CC 5)).alloc (.cells #[.slice (some ⟨w.heap.size, 0, none⟩) N (N + 1)] 40)) := by
          have hcs : CC.size = N + 1 := by rw [HCC.out]; simp [size_madeCells]
          have hct : CC.toList.take N = (List.replicate N (0 : Int)).map (Value.int .u8) := by
            rw [HCC.out, toList_madeCells_one, List.take_replicate, Nat.min_eq_left (by omega), List.map_replicate]
          refine ⟨Nat.zero_le _, ?_, ?_, rfl, fun D hD => by simp at hD, List.nodup_nil, ((Below.refl _ w).alloc (Nat.le_refl _) _).alloc (by simp) _⟩
          · refine World.ownsRow.alloc ⟨by simp, .inr ⟨w.heap.size, N + 1, CC, rfl, Nat.le_refl _, heap_alloc_new w _, by omega, by simp [maxLen]; omega, by rw [hcs, Nat.mul_one], by rw [Nat.mul_one]; exact hct⟩⟩ _
          · have h := heap_alloc_new (w.alloc (.cells CC 5)) (.cells #[.slice (some ⟨w.heap.size, 0, none⟩) N (N + 1)] 40 (0, 0))
            rw [World.size_alloc] at h
            exact h
        gi_wp2
        clear hmx1 hmx2 hmk hLE
        --LOOP
        refine wpIn_loop (fun a' W => ∃ (i : Nat) (xs : List Int) (Ds : List Nat) (u10 u11 u43 u44 u45 u46 u47 u48 u49 u50 u51 u52 u53 u54 u55 u56 u57 u58 u59 u60 u61 u62 : Value), a' = { tmps := #[.slice A0 L c0, .int .i64 (E : Int), undef, undef, .string { data := #[] }, .nilIface, .int .i64 (N : Int), .int .i64 (K : Int), .pointer (some ⟨w.heap.size + 1, 0, none⟩), undef, u10, u11, .bool false, .int .i64 (E : Int), .bool false, .bool false, .int .i64 (E : Int), .bool false, .bool false, undef, .bool false, .slice A0 L c0, .int .i64 (L : Int), .bool false, undef, .slice A0 L c0, .int .i64 (L : Int), .int .i64 (E : Int), .int .i64 (wrap64 ((L : Int) * (E : Int))), .int .i64 (Q : Int), .int .i64 ((Q : Int) + 7), .int .i64 (N : Int), .int .i64 (E : Int), .int .i64 ((E : Int) * 69), .int .i64 ((E : Int) * 69 / 100), .int .i64 (K : Int), .int .i64 (N : Int), .int .i64 (N : Int), .int .i64 ((N : Int) + 1), .slice (some ⟨w.heap.size, 0, none⟩) N (N + 1), .slice A0 L c0, .int .i64 (L : Int), .int .i64 (i : Int), u43, u44, u45, u46, u47, u48, u49, u50, u51, u52, u53, u54, u55, u56, u57, u58, u59, u60, u61, u62, undef, undef, undef, undef, undef, undef], defers := Ds.map mkD } ∧ MkInv w l0 m hm0 K N i xs Ds W) (fun a' _ => L - (intOf (a'.tmps.getD 42 undef)).toNat) ?start ?round
        case start => exact ⟨0, List.replicate N 0, [], undef, undef, undef, undef, undef, undef, undef, undef, undef, undef, undef, undef, undef, undef, undef, undef, undef, undef, undef, undef, undef, undef, rfl, HI0⟩
        case round =>
          rintro a' W ⟨i, xs, Ds, u10, u11, u43, u44, u45, u46, u47, u48, u49, u50, u51, u52, u53, u54, u55, u56, u57, u58, u59, u60, u61, u62, rfl, inv⟩
          have hiL : i ≤ L := by rw [HL.out]; exact inv.le
          by_cases hlt : i < L
          · have hi : (i : Int) < (l0.length : Int) := by have := HL.out; omega
            obtain ⟨ad, ead, hx0⟩ := Kd.at_string HR0.out (i : Int) (by omega) hi
            cases ead
            replace hx0 := (inv.bel.cell (World.block_lt_of_cell? w _ hx0)).trans hx0
            simp only [Int.toNat_natCast] at hx0
            have hiN : i < l0.length := by omega
            have hkey : rdOf ByteArray.empty l0 (i : Int) = l0[i]'hiN := by
              unfold rdOf
              rw [Int.toNat_natCast, List.getD_eq_getElem?_getD, List.getElem?_eq_getElem hiN]
              rfl
            have hsize : (rdOf ByteArray.empty l0 (i : Int)).size ≤ 9223372036854775807 := by
              rw [hkey]
              have := List.all_eq_true.1 hb _ (List.getElem_mem hiN)
              exact of_decide_eq_true this
            have HKEY := Aside0.mk hkey
            clear hkey
            generalize rdOf ByteArray.empty l0 (i : Int) = key at hx0 hsize HKEY
            have p0 : (0 ≤ (i : Int)) = True := eq_true (by omega)
            have q0 : ((i : Int) < (L : Int)) = True := eq_true (by omega)
            gi_wp2_with (first | (refine ⟨trivial, ?_⟩; gi_at_call 51; rw [HM8.out]; refine (callsIn_wide.2 (places_calls key (m : Int) (K : Int) W)).mono ?_; rintro e w1 ⟨rfl, hp1, hp2, hp3, hp4, hp5⟩))
            have hB1 := below_step inv.bel hp5
            have hsW : w.heap.size + 2 ≤ W.heap.size := by have := (Array.getElem?_eq_some_iff.1 inv.box).1; omega
            have hrow1 := inv.row.kept (below_grownBy hp5) (.inr (by simp [Value.ownBlock]))
            have hbox1 := (hp5.block _ (by omega)).trans inv.box
            have hmk1 : ∀ D ∈ Ds, D < w1.heap.size ∧ w1.heap[D]? = some (.deferred (some [])) := fun D hD => by
              have h9 := (inv.mks D hD).2
              have h8 := (Array.getElem?_eq_some_iff.1 h9).1
              exact ⟨by omega, (hp5.block D h8).trans h9⟩
            refine wpIn_rangeFunc_ownF (α := Fin m) rfl (by omega) (gf := 71) (lb := #[.pointer (some ⟨W.heap.size, 0, none⟩), .pointer (some ⟨W.heap.size + 1 + 1, 0, none⟩), .pointer (some ⟨W.heap.size + 1, 0, none⟩)]) rfl trivial (enters_of Try.func71 (by kernel_rfl) rfl)
              (places_stops (3 - 1) (by omega) W.heap.size (W.heap.size + 1 + 1) (W.heap.size + 1) key K m hsize hm0 hm2 (by omega) w1 hp1 hp2 hp3) KpB_t (KpB_b (by rw [hp4]; omega)) (Below.refl _ _) (fun _ => rfl)
              (fun pre W' => (W'.ownsRow w.heap.size 5 1 (.slice (some ⟨w.heap.size, 0, none⟩) N (N + 1)) N ((setFold m xs pre).map (Value.int .u8)) ∧ W'.heap[w.heap.size + 1]? = some (.cells #[.slice (some ⟨w.heap.size, 0, none⟩) N (N + 1)] 40 (0, 0)) ∧ (∀ D ∈ Ds, W'.heap[D]? = some (.deferred (some [])))) ∧ Below w.heap.size w W')
              (fun _ _ _ => False)
              (OwnFrom.and (fun s A B row hs hg hr => ⟨hs.1.kept hg (.inr (fun e => by
                  have h9 := (hr w.heap.size (by rw [← e]; rfl)).1
                  omega)), (hg.block _ (Array.getElem?_eq_some_iff.1 hs.2.1).1 (fun e => by
                  have h9 := (hr (w.heap.size + 1) e.symm).1
                  omega)).trans hs.2.1, fun D hD => (hg.block _ (Array.getElem?_eq_some_iff.1 (hs.2.2 D hD)).1 (fun e => by
                  have h9 := (hr D e.symm).1
                  have h8 := (hmk1 D hD).1
                  omega)).trans (hs.2.2 D hD)⟩) (ownFrom_below (Nat.le_refl _) (by omega)))
              (fun _ _ _ _ _ hs _ _ => hs)
              ⟨⟨hrow1, hbox1, fun D hD => (hmk1 D hD).2⟩, hB1⟩
              (fun x => { tmps := #[.slice (some ad) L c0, .int .i64 (E : Int), undef, undef, .string { data := #[] }, .nilIface, .int .i64 (N : Int), .int .i64 (K : Int), .pointer (some ⟨w.heap.size + 1, 0, none⟩), undef, .string key, .int .i64 (x.val : Int), .bool false, .int .i64 (E : Int), .bool false, .bool false, .int .i64 (E : Int), .bool false, .bool false, undef, .bool false, .slice (some ad) L c0, .int .i64 (L : Int), .bool false, undef, .slice (some ad) L c0, .int .i64 (L : Int), .int .i64 (E : Int), .int .i64 (wrap64 ((L : Int) * (E : Int))), .int .i64 (Q : Int), .int .i64 ((Q : Int) + 7), .int .i64 (N : Int), .int .i64 (E : Int), .int .i64 ((E : Int) * 69), .int .i64 ((E : Int) * 69 / 100), .int .i64 (K : Int), .int .i64 (N : Int), .int .i64 (N : Int), .int .i64 ((N : Int) + 1), .slice (some ⟨w.heap.size, 0, none⟩) N (N + 1), .slice (some ad) L c0, .int .i64 (L : Int), .int .i64 (i : Int), .bool true, .pointer (some (ad.add i)), .string key, .string key, .int .i64 (N : Int), .int .i64 (m : Int), .int .i64 (K : Int), .func (.func 71) #[] #[.pointer (some ⟨W.heap.size, 0, none⟩), .pointer (some ⟨W.heap.size + 1 + 1, 0, none⟩), .pointer (some ⟨W.heap.size + 1, 0, none⟩)], .int .i64 (x.val : Int), u52, u53, u54, u55, u56, u57, u58, u59, u60, u61, u62, undef, undef, undef, undef, undef, undef], defers := [] }) ?assign ?body ?done ?stop
            case assign =>
              intro l x W9 K9 hK
              gi_wp2
              exact hK
            case body =>
              rintro l pre ⟨q, hq⟩ W9 ⟨⟨hrw, hbx, hmks⟩, hB⟩ _
              dsimp only
              obtain ⟨x, hx⟩ : ∃ x, (setFold m xs pre).getD (q / 8) 0 = x := ⟨_, rfl⟩
              have hxl : (setFold m xs pre).length = N := by have := hrw.1; rw [List.length_map, Nat.mul_one] at this; exact this
              have hq8 : q / 8 < N := by have := HMN.out; omega
              have hcx : W9.cell? ⟨w.heap.size, q / 8, none⟩ = some (.int .u8 x) := by
                rw [hrw.cellAt (q / 8) (by omega), List.getElem?_map, List.getElem?_eq_getElem (by omega)]
                rw [← hx, List.getD_eq_getElem?_getD, List.getElem?_eq_getElem (by omega)]
                rfl
              have hfx := hrw.frozenAt (q / 8)
              have hcb : W9.cell? ⟨w.heap.size + 1, 0, none⟩ = some (.slice (some ⟨w.heap.size, 0, none⟩) N (N + 1)) := by rw [cell_of_row W9 _ 0 _ _ _ hbx]; rfl
              have p0 : (0 ≤ (q : Int) / 8) = True := eq_true (by omega)
              have q0 : ((q : Int) / 8 < (N : Int)) = True := eq_true (by omega)
              have j0 : ((q : Int) / 8).toNat = q / 8 := by omega
              have hsh := shl7 Try.prog q (by omega)
              gi_wp2
              refine startR_ (m := 11) (S := fun w' => w'.cell? ⟨w.heap.size + 1, 0, none⟩ = some (.slice (some ⟨w.heap.size, 0, none⟩) N (N + 1)) ∧ w'.cell? ⟨w.heap.size, q / 8, none⟩ = some (.int .u8 x)) (ds := [10]) #[false, false, false, false, false, false, false, false, false, false, false] (by kernel_rfl) (by kernel_rfl) (fun ⟨_, _, h⟩ => h) rfl rfl ⟨hcb, hcx⟩ (fun hHeld => ?_)
              have n0_ := Aside0.mk (World.ownsRow.drew hrw); have n1_ := Aside0.mk (show W9.drew.heap[w.heap.size + 1]? = _ from hbx); have n2_ := Aside0.mk (show Below w.heap.size w W9.drew from Yd hB); have n3_ := Aside0.mk (show ∀ D ∈ Ds, W9.drew.heap[D]? = some (.deferred (some [])) from hmks); have n4_ := Aside0.mk (show W9.drew.frozen? ⟨w.heap.size, q / 8, none⟩ = false from hfx); have n5_ := Aside0.mk (show KeepsOthers W9 W9.drew from ⟨Nat.le_refl _, fun _ _ h _ => h⟩); have n6_ := Aside0.mk (show KpB (W.heap.size + 1) W9 W9.drew from rfl)
              clear hrw hbx hB hmks hcb hcx hfx
              generalize W9.drew = w20 at n0_ n1_ n2_ n3_ n4_ n5_ n6_ hHeld ⊢
              obtain ⟨hcb, hcx⟩ := hHeld
              have hHeld := And.intro hcb hcx
              have hfx := n4_.out
              refine take_ (i := 0) (N := some 52) (v := ?_) (a' := ?_) #[true, false, false, false, false, false, false, false, false, false, false] rfl rfl (by kernel_rfl) (fun _ _ _ h => h) (Or.inl ⟨by rfl, ?_⟩) hHeld ?_ ?_; rotate_left; (focus rintro w' ⟨s0, s1⟩; go_simp; with_reducible rfl); rotate_left; (focus simp only [Act.put, List.setIfInBounds_toArray, List.set_cons_zero, List.set_cons_succ, i64_w, i32_w]; rfl)
              refine pure_ (i := 1) (N := some 53) (v := ?_) (a' := ?_) #[true, true, false, false, false, false, false, false, false, false, false] rfl rfl (by kernel_rfl) (fun _ _ _ h => h) (Or.inl ⟨by rfl, ?_⟩) ?_ ?_; rotate_left; (focus intro w'; go_simp; with_reducible rfl); rotate_left; (focus simp only [Act.put, List.setIfInBounds_toArray, List.set_cons_zero, List.set_cons_succ, i64_w, i32_w]; rfl)
              refine pure_ (i := 2) (N := some 54) (v := ?_) (a' := ?_) #[true, true, true, false, false, false, false, false, false, false, false] rfl rfl (by kernel_rfl) (fun _ _ _ h => h) (Or.inl ⟨by rfl, ?_⟩) ?_ ?_; rotate_left; (focus intro w'; go_simp; with_reducible rfl); rotate_left; (focus simp only [Act.put, List.setIfInBounds_toArray, List.set_cons_zero, List.set_cons_succ, i64_w, i32_w]; rfl)
              refine pure_ (i := 3) (N := some 55) (v := ?_) (a' := ?_) #[true, true, true, true, false, false, false, false, false, false, false] rfl rfl (by kernel_rfl) (fun _ _ _ h => h) (Or.inl ⟨by rfl, ?_⟩) ?_ ?_; rotate_left; (focus intro w'; go_simp; with_reducible rfl); rotate_left; (focus simp only [Act.put, List.setIfInBounds_toArray, List.set_cons_zero, List.set_cons_succ, i64_w, i32_w]; rfl)
              refine take_ (i := 4) (N := some 56) (v := ?_) (a' := ?_) #[true, true, true, true, true, false, false, false, false, false, false] rfl rfl (by kernel_rfl) (fun _ _ _ h => h) (Or.inl ⟨by rfl, ?_⟩) hHeld ?_ ?_; rotate_left; (focus rintro w' ⟨s0, s1⟩; go_simp; with_reducible rfl); rotate_left; (focus simp only [Act.put, List.setIfInBounds_toArray, List.set_cons_zero, List.set_cons_succ, i64_w, i32_w]; rfl)
              refine pure_ (i := 5) (N := some 57) (v := ?_) (a' := ?_) #[true, true, true, true, true, true, false, false, false, false, false] rfl rfl (by kernel_rfl) (fun _ _ _ h => h) (Or.inl ⟨by rfl, ?_⟩) ?_ ?_; rotate_left; (focus intro w'; go_simp; with_reducible rfl); rotate_left; (focus simp only [Act.put, List.setIfInBounds_toArray, List.set_cons_zero, List.set_cons_succ, i64_w, i32_w]; rfl)
              refine pure_ (i := 6) (N := some 58) (v := ?_) (a' := ?_) #[true, true, true, true, true, true, true, false, false, false, false] rfl rfl (by kernel_rfl) (fun _ _ _ h => h) (Or.inl ⟨by rfl, ?_⟩) ?_ ?_; rotate_left; (focus intro w'; go_simp; with_reducible rfl); rotate_left; (focus simp only [Act.put, List.setIfInBounds_toArray, List.set_cons_zero, List.set_cons_succ, i64_w, i32_w]; rfl)
              refine pure_ (i := 7) (N := some 59) (v := ?_) (a' := ?_) #[true, true, true, true, true, true, true, true, false, false, false] rfl rfl (by kernel_rfl) (fun _ _ _ h => h) (Or.inl ⟨by rfl, ?_⟩) ?_ ?_; rotate_left; (focus intro w'; go_simp; with_reducible rfl); rotate_left; (focus simp only [Act.put, List.setIfInBounds_toArray, List.set_cons_zero, List.set_cons_succ, i64_w, i32_w]; rfl)
              refine pure_ (i := 8) (N := some 60) (v := ?_) (a' := ?_) #[true, true, true, true, true, true, true, true, true, false, false] rfl rfl (by kernel_rfl) (fun _ _ _ h => h) (Or.inl ⟨by rfl, ?_⟩) ?_ ?_; rotate_left; (focus intro w'; go_simp; with_reducible rfl); rotate_left; (focus simp only [Act.put, List.setIfInBounds_toArray, List.set_cons_zero, List.set_cons_succ, i64_w, i32_w]; rfl)
              refine pure_ (i := 9) (N := some 61) (v := ?_) (a' := ?_) #[true, true, true, true, true, true, true, true, true, true, false] rfl rfl (by kernel_rfl) (fun _ _ _ h => h) (Or.inl ⟨by rfl, ?_⟩) ?_ ?_; rotate_left; (focus intro w'; go_simp; with_reducible rfl); rotate_left; (focus simp only [Act.put, List.setIfInBounds_toArray, List.set_cons_zero, List.set_cons_succ, i64_w, i32_w]; rfl)
              refine last_ (i := 10) (N := none) #[true, true, true, true, true, true, true, true, true, true, true] rfl rfl (by kernel_rfl) (by decide) (fun K hK => ?_)
              refine skip_ (w1 := ?_) (by rfl) rfl ?_ ?_
              rotate_left
              · go_simp
                rfl
              refine hK.out _ _ ?_
              clear hK K
              refine done_ (by kernel_rfl) ?_
              have hsz9 : w.heap.size + 2 ≤ W.heap.size := hsW
              refine ⟨n5_.out.trans (KeepsOthers.setCell _ _ _), ?_, ⟨⟨?_, ?_, ?_⟩, n2_.out.setCell (p := ⟨w.heap.size, q / 8, none⟩) (Nat.le_refl _) _⟩⟩
              · exact (Below.heap_setCell w20 ⟨w.heap.size, q / 8, none⟩ _ (W.heap.size + 1) (by simp; omega)).trans n6_.out
              · have hs := (n0_.out.stored (q / 8) (.int .u8 (bits .or .u8 x (2 ^ (q % 8))))).1
                rw [setFold_snoc]
                unfold setBit
                rw [hx, List.map_set]
                exact hs
              · exact (Below.heap_setCell w20 ⟨w.heap.size, q / 8, none⟩ _ (w.heap.size + 1) (by simp)).trans n1_.out
              · intro D hD
                exact (Below.heap_setCell w20 ⟨w.heap.size, q / 8, none⟩ _ D (by have := (inv.mks D hD).1; simp; omega)).trans (n3_.out D hD)
            case done =>
              rintro D ys W9 hD rfl ⟨⟨hrw, hbx, hmks⟩, hB⟩ hK
              gi_wp2
              refine ⟨⟨i + 1, setFold m xs (plcs key m hm0 K), D :: Ds, _, _, _, _, _, _, _, _, _, _, _, _, _, _, _, _, _, _, _, _, _, _, rfl, ?_⟩, ?_⟩
              · refine ⟨hiN, hrw, hbx, ?_, ?_, List.nodup_cons.2 ⟨fun hin => by have h9 := (hmk1 D hin).1; omega, inv.nd⟩, hB⟩
                · rw [List.take_succ_eq_append_getElem hiN, List.foldl_append, ← inv.val, HKEY.out]
                  rfl
                · intro D' hD'
                  rcases List.mem_cons.1 hD' with rfl | hD'
                  · exact ⟨by omega, hK⟩
                  · exact ⟨(inv.mks D' hD').1, hmks D' hD'⟩
              · show L - ((i : Int) + 1).toNat < L - (i : Int).toNat
                omega
            case stop =>
              rintro D c pre W9 _ _ h _
              exact h.elim
          · have hiL' : i = L := by omega
            have hxl : xs.length = N := by have := inv.row.1; rw [List.length_map, Nat.mul_one] at this; exact this
            have hbx : W.cell? ⟨w.heap.size + 1, 0, none⟩ = some (.slice (some ⟨w.heap.size, 0, none⟩) N (N + 1)) := by rw [cell_of_row W _ 0 _ _ _ inv.box]; rfl
            have hbf : W.frozen? ⟨w.heap.size + 1, 0, none⟩ = false := frozen_of_row W _ 0 _ _ inv.box
            have hsW : w.heap.size + 2 ≤ W.heap.size := by have := (Array.getElem?_eq_some_iff.1 inv.box).1; omega
            have INV := Aside0.mk inv
            clear inv hlt
            have hlt : ¬ (i : Int) < (L : Int) := by omega
            obtain ⟨i0, hi, hzz⟩ := Option.map_eq_some_iff.1 (show (Try.prog.info? 5).map (fun i => (i.zero, i.size, i.bytes)) = some (some (.int .u8 0), 1, 1) by kernel_rfl)
            simp only [Prod.mk.injEq] at hzz
            obtain ⟨hz0, hz1, hz2⟩ := hzz
            gi_wp2_with (first | (gi_at_builtin; refine wpListIn_append_fits (W.alloc (.cells #[.int .u8 (K : Int)] 5)) rfl (.tmp 63) (.tmp 66) 40 rfl w.heap.size 5 i0 1 Try.underlying40 hi hz1 w.heap.size N (N + 1) (xs.map (Value.int .u8)) rfl (INV.out.row.alloc _) ⟨W.heap.size, 0, none⟩ 1 1 [.int .u8 (K : Int)] rfl rfl (cell_one2 W _ _) (by simp [Value.oneCell']) (by omega) ?_; intro w9 hown hgrow; have hcv := Kd.C_string (P := Try.prog) (A := some ⟨w.heap.size, 0, none⟩) (c := N + 1) Try.underlying40 Try.underlying5 Try.underlying9 (BRow.reads (owns_brow (n := N + 1) (xs := xs ++ [(K : Int)]) (by rw [List.length_append, hxl]; rfl) (by rw [List.map_append]; exact hown))); rw [show (xs ++ [(K : Int)]).length = N + 1 by rw [List.length_append, hxl]; rfl] at hcv; have HG := Aside0.mk hgrow; clear hown hgrow))
            have hfin := make_eq HL.out hNB.out HMN.out HK.out hiL' INV.out.val
            have HHo := HH.out
            rw [hfin, ← HK.out] at HHo
            simp only [Prod.mk.injEq] at HHo
            obtain ⟨rfl, rfl⟩ := HHo
            have hbw : Below w.heap.size w w9 := (INV.out.bel.alloc (by omega) _).grown HG.out (by rw [World.size_alloc]; omega) (fun k e => by cases e; exact Nat.le_refl _)
            refine leaves_marks w.heap.size Ds w9 (fun D hD => ?_) INV.out.nd (fun W' hW' => ⟨_, results_tmp2 rfl _ _ _, rfl, hbw.trans hW'⟩)
            have h9 := INV.out.mks D hD
            have h8 := (Array.getElem?_eq_some_iff.1 h9.2).1
            refine ⟨by omega, ?_⟩
            rw [HG.out.block D (by rw [World.size_alloc]; omega) (by simp; omega), heap_alloc_old W _ h8]
            exact h9.2
        --END
  · rw [if_neg hb] at h
    cases h
end Go.Proofs.Ytbdkfmhkgeoeaaa.Print
