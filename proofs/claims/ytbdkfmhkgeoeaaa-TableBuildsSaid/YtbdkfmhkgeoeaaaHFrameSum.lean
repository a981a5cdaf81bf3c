/- Contracts proved by hand: see the theorems' own lines. -/
import Derived.Test.YtbdkfmhkgeoeaaaPrint0
import Derived.Test.YtbdkfmhkgeoeaaaXArrayRow
namespace Go.Proofs.Ytbdkfmhkgeoeaaa.Print
open Go.RowKit Go.Proofs.YtbdkfmhkgeoeaaaW.PrintWords Go.Proofs.YtbdkfmhkgeoeaaaW.PrintLast Go.Proofs.YtbdkfmhkgeoeaaaX
set_option linter.unusedVariables false
set_option linter.unusedSimpArgs false

/-- One bit's step of a sum. -/
def tstep (v : Int) : Int := bits .xor .u32 (v / 2) (bits .and .u32 2197175160 ((-(bits .and .u32 v 1)) % 4294967296))
def tsteps : Nat → Int → Int
  | 0, v => v
  | n + 1, v => tsteps n (tstep v)
/-- What a byte makes of a sum. -/
def tab (i : Nat) : Int := tsteps 8 i
def tabA (n : Nat) : Array Value := ((List.range 256).map fun j => (Value.int .u32 (if j < n then tab j else 0))).toArray
theorem tabA_size (n : Nat) : (tabA n).size = 256 := by simp [tabA]
theorem tabA_at (n j : Nat) (h : j < 256) : (tabA n)[j]? = some (.int .u32 (if j < n then tab j else 0)) := by simp [tabA, h]
theorem tabA_set (n : Nat) (h : n < 256) : (tabA n).setIfInBounds n (.int .u32 (tab n)) = tabA (n + 1) := by
  apply Array.ext_getElem?
  intro j
  rw [Array.getElem?_setIfInBounds, tabA_size]
  by_cases hj : j < 256
  · rw [tabA_at _ _ hj, tabA_at _ _ hj]
    by_cases e : n = j
    · subst e; simp [h]
    · rw [if_neg e]
      by_cases q : j < n
      · rw [if_pos q, if_pos (by omega)]
      · rw [if_neg q, if_neg (by omega)]
  · rw [if_neg (by omega)]
    have h1 : (tabA n)[j]? = none := by rw [Array.getElem?_eq_none]; rw [tabA_size]; omega
    have h2 : (tabA (n + 1))[j]? = none := by rw [Array.getElem?_eq_none]; rw [tabA_size]; omega
    rw [h1, h2]
theorem tabA_one (n : Nat) : (tabA n).all (·.oneCell') = true := by
  rw [Array.all_eq_true_iff_forall_mem]
  intro v hv
  simp only [tabA, List.mem_toArray, List.mem_map] at hv
  obtain ⟨j, _, rfl⟩ := hv
  rfl
theorem tsteps_succ (n : Nat) (v : Int) : tsteps (n + 1) v = tstep (tsteps n v) := by
  induction n generalizing v with
  | zero => rfl
  | succ n ih => exact ih (tstep v)
theorem size106 : (Try.prog.info? 106).map (·.size) = some 256 := by kernel_rfl

set_option maxHeartbeats 4000000 in
set_option maxRecDepth 100000 in
theorem frame_table_calls (w : World) :
    Calls Try.prog 69 #[] w fun e w' => e = .returned (.agg (tabA 256)) ∧ Below w.heap.size w w' := by
  have hut := Try.underlying106
  have HB := Aside0.mk (Below.refl w.heap.size w)
  go_enter Try.func69, Try.ntmps69
  go_wp2_with ((with_reducible refine gate_dst (N := 0) rfl ?_); refine box_event ?hg (N := 0) ?hd (cs := tabA 0) (t := 106) ?hr ?_; (case hd => rfl); (case hg => rfl); (case hr => first | (go_simp; done) | (go_simp; kernel_rfl)); intro g hg w2 hbox hb; have n0_ := Aside0.mk (Yv HB hb); have BK := Aside0.mk hbox; have GE := Aside0.mk (Yg HB hg); clear HB; have HB := n0_; clear n0_ hb hbox hg)
  go_loopg [3] 256 (fun kq v3 w' => ∃ n : Nat, v3 = .int .i64 n ∧ n + kq = 256 ∧ Aside0 (w'.heap[g]? = some (.cells (tabA n) 106 (0, 0))) ∧ Aside0 (Below w.heap.size w w'))
  case atStart => exact ⟨0, rfl, rfl, BK, HB⟩
  case round =>
    clear BK HB
    obtain ⟨n, rfl, hn, BK, HB⟩ := hrel
    cases gk with
    | zero =>
      obtain rfl : n = 256 := by omega
      have c1 : decide (((256 : Nat) : Int) < 256) = false := rfl
      have hbk := BK.out
      go_wp2_with (first | ((with_reducible refine gate_dst (N := 22) rfl ?_); refine load_row_event rfl 106 (.tmp 0) rfl g (tabA 256) rfl 106 (0, 0) _ hbk hut rfl (by rw [tabA_size]; exact size106) ?_) | (refine wpList_store_row rfl 106 (.tmp 0) (.tmp 22) rfl g (tabA 256) rfl rfl 106 (tabA 256) hbk (by rw [tabA_size]; exact size106) rfl (tabA_one 256) ?_; rw [setRow_self _ g (tabA 256) 106 (0, 0) hbk]))
      refine bodyPost_ret (results_cell_row rfl _ _ g 106 (tabA 256) (0, 0) _ rfl hbk hut rfl (by rw [tabA_size]; exact size106)) rfl ?_
      exact ⟨rfl, HB.out⟩
    | succ k1 =>
      have c1 : decide ((n : Int) < 256) = true := decide_eq_true (by omega)
      have HN := Aside0.mk hn
      clear hn
      go_wp2
      go_loopg [2, 8] 8 (fun kq v2 v8 w' => ∃ m : Nat, v8 = .int .i64 m ∧ m + kq = 8 ∧ v2 = .int .u32 (tsteps m n) ∧ Aside0 (w'.heap[g]? = some (.cells (tabA n) 106 (0, 0))) ∧ Aside0 (Below w.heap.size w w'))
      case atStart =>
        refine ⟨0, rfl, rfl, ?_, BK, HB⟩
        have := HN.out
        show Value.int .u32 _ = Value.int .u32 (n : Int)
        congr 1
        omega
      case round =>
        clear BK HB c1
        obtain ⟨m, rfl, hm, rfl, BK, HB⟩ := hrel
        cases gk with
        | zero =>
          obtain rfl : m = 8 := by omega
          have c2 : decide (((8 : Nat) : Int) < 8) = false := rfl
          have hn := HN.out
          have hc : wr.cell? ⟨g, n, none⟩ = some (.int .u32 (if n < n then tab n else 0)) := (Zc BK.out n).trans (tabA_at n n (by omega))
          have hf := Zf BK.out n
          have k0 : (0 ≤ (n : Int)) = True := eq_true (by omega)
          have k1_ : ((n : Int) < 256) = True := eq_true (by omega)
          have k2_ : (n < 256) = True := eq_true (by omega)
          go_wp2
          go_roundg k1
          case measure => omega
          case rel =>
            refine ⟨n + 1, by push_cast; rfl, by omega, ⟨?_⟩, ⟨Ys HB.out GE.out⟩⟩
            exact Zp BK.out n _ (tabA_set n (by omega))
        | succ k2 =>
          have c2 : decide ((m : Int) < 8) = true := decide_eq_true (by omega)
          have HM := Aside0.mk hm
          clear hm
          go_wp2
          go_roundg k2
          case measure => omega
          case rel =>
            have := HM.out
            refine ⟨m + 1, by congr 1; unfold wrap64; omega, by omega, ?_, BK, HB⟩
            rw [tsteps_succ]
            rfl

/-- The sum of the first bytes, ahead of its last turn. -/
def sumTo (s : ByteArray) : Nat → Int
  | 0 => 4294967295
  | k + 1 => bits .xor .u32 (sumTo s k / 256) (tab (bits .xor .u8 (sumTo s k % 256) (bt s k)).toNat)
def frame_Sum.f (a0 : ByteArray) : Option Int := if a0.size ≤ 9223372036854775807 then some (bits .xor .u32 4294967295 (sumTo a0 a0.size)) else none
theorem xor8_range (x y : Int) : 0 ≤ bits .xor .u8 x y ∧ bits .xor .u8 x y < 256 := by
  have h : bits .xor .u8 x y = IntKind.u8.wrap ((x % 2 ^ 8).toNat ^^^ (y % 2 ^ 8).toNat : Nat) := rfl
  rw [h, IntKind.wrap_u8]
  omega

set_option maxHeartbeats 4000000 in
set_option maxRecDepth 100000 in
theorem frame_Sum.calls (a0 : ByteArray) (r : Int) (w : World) (h : frame_Sum.f a0 = some r) :
    Calls Try.prog 45 #[.string a0] w fun e w' => e = .returned (.int .u32 r) ∧ Below w.heap.size w w' := by
  have hsz : a0.size ≤ 9223372036854775807 := by
    unfold frame_Sum.f at h
    by_cases hs : a0.size ≤ 9223372036854775807
    · exact hs
    · rw [if_neg hs] at h; cases h
  have H : bits .xor .u32 4294967295 (sumTo a0 a0.size) = r := by
    unfold frame_Sum.f at h
    rw [if_pos hsz] at h
    exact Option.some.inj h
  clear h
  have hut := Try.underlying106
  have kb := fun (W : World) => print_bytes (P := Try.prog) 9 40 5 Try.underlying9 Try.underlying40 Try.underlying5 a0 W
  have HB := Aside0.mk (Below.refl w.heap.size w)
  have HH := Aside0.mk H
  clear H
  have hcell : ∀ (W : World) (k : Nat), k < a0.size → (Lib.bytesWorld W 5 a0).cell? ⟨W.heap.size, k, none⟩ = some (.int .u8 (bt a0 k)) := by
    intro W k hk
    rw [Lib.bytesWorld_cell W 5 a0 k hk]
    have h1 : ((k : Int)).toNat < a0.size := by omega
    have h2 := bt_at a0 (k : Int) h1
    rw [← h2]
    have h3 : k < a0.data.toList.length := by rw [data_length]; omega
    rw [List.getD_eq_getElem?_getD, List.getElem?_eq_getElem h3, Option.getD_some]
    rfl
  have HC := Aside0.mk hcell
  clear hcell
  go_enter Try.func45, Try.ntmps45
  go_wp2_with (first | (go_at_call 69; (with_reducible refine (frame_table_calls _).mono ?_); rintro e w1 ⟨rfl, hb⟩; have n0_ := Aside0.mk (Yv HB hb); clear HB; have HB := n0_; clear n0_ hb)
                     | ((with_reducible refine gate_dst (N := 3) rfl ?_); refine box_event ?hg (N := 3) ?hd (cs := tabA 0) (t := 106) ?hr ?_; (case hd => rfl); (case hg => rfl); (case hr => first | (go_simp; done) | (go_simp; kernel_rfl)); intro g hg w2 hbox hb; have n0_ := Aside0.mk (Yv HB hb); have BK := Aside0.mk hbox; have GE := Aside0.mk (Yg HB hg); clear HB; have HB := n0_; clear n0_ hb hbox hg)
                     | (refine wpList_store_row rfl 106 (.tmp 3) (.tmp 7) rfl g (tabA 256) rfl rfl 106 (tabA 0) BK.out (by rw [tabA_size]; exact size106) (by rw [tabA_size, tabA_size]) (tabA_one 256) ?_; have n0_ := Aside0.mk (setRow_heap _ g _ (tabA 256) _ _ BK.out); have n1_ := Aside0.mk (below_setRow HB.out GE.out (tabA 256)); clear BK HB; generalize World.setRow _ g (tabA 256) = W1 at n0_ n1_ ⊢; have BK := n0_; have HB := n1_; clear n0_ n1_))
  have hcell := HC.out W1
  have BK2 := Aside0.mk (Zb BK.out (bytes_below (Below.refl W1.heap.size W1) (Nat.le_refl _) 5 a0))
  have HB2 := Aside0.mk (bytes_below HB.out HB.out.size 5 a0)
  have HC1 := Aside0.mk hcell
  clear hcell HC BK HB
  go_loop [4, 11] (fun v i => ∃ k : Nat, k ≤ a0.size ∧ i = .int .i64 k ∧ v = .int .u32 (sumTo a0 k)) (fun _ i => a0.size - (intOf i).toNat)
  case atStart => exact ⟨0, Nat.zero_le _, rfl, rfl⟩
  case round =>
    obtain ⟨k, hk, rfl, rfl⟩ := hrel
    by_cases hlt : k < a0.size
    · have hc := HC1.out k hlt
      obtain ⟨x, hx⟩ : ∃ x, bits .xor .u8 (sumTo a0 k % 256) (bt a0 k) = x := ⟨_, rfl⟩
      have hr := xor8_range (sumTo a0 k % 256) (bt a0 k)
      rw [hx] at hr
      obtain ⟨n, rfl⟩ := Int.eq_ofNat_of_zero_le hr.1
      have hd := (Zc BK2.out n).trans (tabA_at 256 n (by omega))
      rw [if_pos (by omega)] at hd
      have k0 : (0 ≤ (n : Int)) = True := eq_true (by omega)
      have k1_ : ((n : Int) < 256) = True := eq_true (by omega)
      have k2_ : (n < 256) = True := eq_true (by omega)
      have HX := Aside0.mk hx
      go_wp2
      refine ⟨⟨k + 1, by omega, by go_num, ?_⟩, by simp [intOf]; omega⟩
      simp only [sumTo]
      rw [HX.out, Int.toNat_natCast]
    · obtain rfl : k = a0.size := by omega
      go_wp2
      go_ret
      exact ⟨by rw [← HH.out]; rfl, HB2.out⟩
end Go.Proofs.Ytbdkfmhkgeoeaaa.Print
