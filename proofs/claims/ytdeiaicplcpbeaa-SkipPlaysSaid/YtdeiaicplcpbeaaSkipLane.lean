import Derived.Test.YtdeiaicplcpbeaaSkipGets
namespace Go.Proofs.Ytdeiaicplcpbeaa.Print
open Go.RowKit Go.Proofs.YtdeiaicplcpbeaaX Go.Proofs.YtdeiaicplcpbeaaW.PrintWords Go.Proofs.YtdeiaicplcpbeaaW.PrintLast
set_option linter.unusedVariables false
set_option linter.unusedSimpArgs false

/-! ## A row of texts of the call's own -/
def SRow (W : World) (base : Nat) (v : Value) (xs : List ByteArray) : Prop := W.ownsRow base 9 1 v xs.length (xs.map Value.string)
theorem reps_str (W : World) : ∀ xs : List ByteArray, Reps (Kd.K Kd.string W) 1 xs (xs.map Value.string) := by
  intro xs
  induction xs with
  | nil => exact Reps.none _ _
  | cons x xs ih => exact Kd.reps_append (ps := [x]) (cs := [.string x]) (Reps.snoc (Reps.none _ _) rfl rfl) ih
theorem SRow.reads {W : World} {base : Nat} {v : Value} {xs : List ByteArray} (h : SRow W base v xs) : ∃ A c, v = .slice A xs.length c ∧ xs.length ≤ c ∧ Kd.C Kd.string W A xs.length xs :=
  OwnRow.reads (R := Kd.K Kd.string W) (e := 9) (size := 1) (w := W) (base := base) ⟨xs.map Value.string, h, reps_str W xs⟩
theorem SRow.below {W W' : World} {base : Nat} {v : Value} {xs : List ByteArray} (h : SRow W base v xs) (hb : Below W.heap.size W W') : SRow W' base v xs := by
  refine own_move h (fun k hk => hb.block k ?_)
  rcases h.2 with ⟨rfl, _⟩ | ⟨g', cap, cur, rfl, _, hgb, _⟩
  · simp [Value.ownBlock] at hk
  · obtain rfl : g' = k := by simpa [Value.ownBlock] using hk
    exact (Array.getElem?_eq_some_iff.1 hgb).1
theorem SRow.base_le {W : World} {base g : Nat} {v : Value} {xs : List ByteArray} (h : SRow W base v xs) (hg : v.ownBlock = some g) : base ≤ g := by
  rcases h.2 with ⟨rfl, _⟩ | ⟨g', cap, cur, rfl, hb, _⟩
  · simp [Value.ownBlock] at hg
  · obtain rfl : g' = g := by simpa [Value.ownBlock] using hg
    exact hb
theorem infoS_ : (Try.prog.info? 9).map (fun i => (i.zero, i.size, i.bytes)) = some (some (.string (⟨#[]⟩ : ByteArray)), 1, 16) := by kernel_rfl
theorem cells_newS (W : World) (v : Value) : ∀ j u, ([v] : List Value)[j]? = some u → (W.alloc (.cells #[v] 9)).cell? ((⟨W.heap.size, 0, none⟩ : Addr).add j) = some u := by
  intro j u hu
  match j, hu with
  | 0, hu => rw [addr_add, cell_of_row _ _ _ _ _ _ (heap_alloc_new W _)]; exact hu
  | j + 1, hu => simp at hu
/-- What Lane tells. -/
def laneK (j : Nat) (L : List Nd) : List ByteArray := (L.filter (fun x => decide (j < x.h))).map (·.key)
def laneF (h : Int) (L : List Nd) : List ByteArray := if h ≥ 12 then [] else laneK (max h 0).toNat L
set_option maxHeartbeats 4000000 in
set_option maxRecDepth 100000 in
theorem lane_calls (lb : Nat) (L : List Nd) (h : Int) (hlen : L.length ≤ 1000000) (w : World) (hS : SK w lb L) :
    Calls Try.prog 17 #[.pointer (some ⟨lb, 0, none⟩), .int .i64 h] w fun e w' => ∃ v, e = .returned v ∧ SRow w' w.heap.size v (laneF h L) ∧ Below w.heap.size w w' := by
  unfold laneF
  go_enter Try.func17, Try.ntmps17
  by_cases c12 : h ≥ 12
  · rw [if_pos c12]
    have c12b : decide (h ≥ 12) = true := decide_eq_true c12
    go_wp2
    go_ret
    exact ⟨_, rfl, World.ownsRow_nil _ _ _ _, Below.refl _ _⟩
  · rw [if_neg c12]
    have c12b : decide (h ≥ 12) = false := decide_eq_false c12
    obtain ⟨j, hj⟩ : ∃ j : Nat, max h 0 = (j : Int) := ⟨(max h 0).toNat, by omega⟩
    have hj12 : j < 12 := by omega
    rw [hj, Int.toNat_natCast]
    obtain ⟨i0, hi, iz0, iz1, iz2⟩ := info_parts infoS_
    obtain ⟨nx, hH, hL, hG⟩ := hS
    have hc := (hH.lane List.mem_cons_self j hj12).1
    rw [hL.head] at hc
    by_cases h0 : h < 0
    · obtain rfl : j = 0 := by omega
      simp only [Nat.add_zero] at hc
      clear c12
      go_wp2
      go_loopg [5, 6] (L.length + 1) (fun gg v5 v6 W => ∃ (p q : List Nd), L = p ++ q ∧ q.length < gg ∧ v6 = ptrV (firstAb 0 q) ∧ SRow W w.heap.size v5 (laneK 0 p) ∧ Below w.heap.size w W)
      case atStart => exact ⟨[], L, rfl, Nat.lt_succ_self _, by rfl, World.ownsRow_nil _ _ _ _, Below.refl _ _⟩
      case round =>
        obtain ⟨p, q, hpq0, hqg, rfl, hR, hB⟩ := hrel
        have hpq := Aside0.mk hpq0
        clear hpq0
        cases hfa : firstAb 0 q with
        | none =>
          have hfa' := Aside0.mk hfa
          rw [ptr_none]
          clear hfa hc
          have hfin0 : laneK 0 L = laneK 0 p := by
            rw [hpq.out]
            unfold laneK
            rw [List.filter_append, List.map_append]
            have : q.filter (fun x => decide (0 < x.h)) = [] := List.filter_eq_nil_iff.2 (fun x hx => by have := first_none.1 hfa'.out x hx; simpa using this)
            rw [this]; simp
          have hfin := Aside0.mk hfin0
          clear hfin0
          go_wp2
          go_ret
          exact ⟨_, rfl, by rw [hfin.out]; exact hR, hB⟩
        | some y =>
          obtain ⟨q1, x, q2, e, hxb, hxj, hq1⟩ := first_some hfa
          subst hxb
          rw [ptr_some]
          clear hfa hc
          have hxL : x ∈ L := by rw [hpq.out, e]; simp
          have hH2 : SH wr lb L.length L nx := hH.move (fun b hb => hB.block b (hH.lt hb))
          obtain ⟨hk, _⟩ := hH2.parts hxL
          have hnx := hL.node (p ++ q1) x q2 (by rw [hpq.out, e]; simp) 0
          rw [if_pos hxj] at hnx
          have hpl : (laneK 0 p).length ≤ 1000000 := by
            unfold laneK
            rw [List.length_map]
            have h1 := List.length_filter_le (fun x : Nd => decide (0 < x.h)) p
            have h2 := congrArg List.length hpq.out
            rw [List.length_append] at h2
            omega
          have hnew : laneK 0 (p ++ q1 ++ [x]) = laneK 0 p ++ [x.key] := by
            unfold laneK
            rw [List.filter_append, List.filter_append, List.map_append, List.map_append]
            have : q1.filter (fun x => decide (0 < x.h)) = [] := List.filter_eq_nil_iff.2 (fun z hz => by have := hq1 z hz; simpa using this)
            rw [this, List.filter_cons, if_pos (by simpa using hxj)]
            simp
          have hqe0 : L = (p ++ q1 ++ [x]) ++ q2 := by rw [hpq.out, e]; simp
          have hqe := Aside0.mk hqe0
          have hql : q2.length < q.length := by rw [e]; simp only [List.length_append, List.length_cons]; omega
          clear hpq e hqe0
          go_upto_region 7 with (at_builtin; refine wpList_append_own _ rfl _ _ 38 rfl w.heap.size 9 i0 _ 1 16 Try.underlying38 hi iz0 iz1 iz2 rfl (by decide) u5 (laneK 0 p).length ((laneK 0 p).map Value.string) rfl (SRow.below hR (below_alloc (Below.refl _ _) _)) ⟨wr.heap.size, 0, none⟩ 1 1 [.string x.key] rfl rfl (cells_newS _ _) (by simp [Value.oneCell']) (by unfold maxLen; omega) (by omega) (by rw [World.size_alloc]; exact Nat.le_trans hB.size (Nat.le_succ _)) ?_; intro v9 w9 ho9 hg9 _)
          have hB9 : Below w.heap.size wr w9 := ((Below.refl w.heap.size wr).alloc hB.size _).grown hg9 (by rw [World.size_alloc]; exact Nat.le_trans hB.size (Nat.le_succ _)) (fun k hk => SRow.base_le hR hk)
          have hR9 : SRow w9 w.heap.size v9 (laneK 0 (p ++ q1 ++ [x])) := by
            unfold SRow
            rw [hnew, List.length_append, List.map_append]
            exact ho9
          have hBn := hB.trans hB9
          have hc9 := ((hH.move (fun b hb => hBn.block b (hH.lt hb))).lane (List.mem_cons_of_mem _ (List.mem_map.2 ⟨x, hxL, rfl⟩)) 0 hj12).1
          rw [hnx] at hc9
          clear hk ho9 hg9 hH2
          go_wp2
          go_roundg (gk - 1)
          case measure => omega
          case rel => exact ⟨p ++ q1 ++ [x], q2, hqe.out, by omega, by rfl, hR9, hBn⟩
    · obtain rfl : h = (j : Int) := by omega
      clear c12
      go_wp2
      go_loopg [5, 6] (L.length + 1) (fun gg v5 v6 W => ∃ (p q : List Nd), L = p ++ q ∧ q.length < gg ∧ v6 = ptrV (firstAb j q) ∧ SRow W w.heap.size v5 (laneK j p) ∧ Below w.heap.size w W)
      case atStart => exact ⟨[], L, rfl, Nat.lt_succ_self _, by rfl, World.ownsRow_nil _ _ _ _, Below.refl _ _⟩
      case round =>
        obtain ⟨p, q, hpq0, hqg, rfl, hR, hB⟩ := hrel
        have hpq := Aside0.mk hpq0
        clear hpq0
        cases hfa : firstAb j q with
        | none =>
          have hfa' := Aside0.mk hfa
          rw [ptr_none]
          clear hfa hc
          have hfin0 : laneK j L = laneK j p := by
            rw [hpq.out]
            unfold laneK
            rw [List.filter_append, List.map_append]
            have : q.filter (fun x => decide (j < x.h)) = [] := List.filter_eq_nil_iff.2 (fun x hx => by have := first_none.1 hfa'.out x hx; simpa using this)
            rw [this]; simp
          have hfin := Aside0.mk hfin0
          clear hfin0
          go_wp2
          go_ret
          exact ⟨_, rfl, by rw [hfin.out]; exact hR, hB⟩
        | some y =>
          obtain ⟨q1, x, q2, e, hxb, hxj, hq1⟩ := first_some hfa
          subst hxb
          rw [ptr_some]
          clear hfa hc
          have hxL : x ∈ L := by rw [hpq.out, e]; simp
          have hH2 : SH wr lb L.length L nx := hH.move (fun b hb => hB.block b (hH.lt hb))
          obtain ⟨hk, _⟩ := hH2.parts hxL
          have hnx := hL.node (p ++ q1) x q2 (by rw [hpq.out, e]; simp) j
          rw [if_pos hxj] at hnx
          have hpl : (laneK j p).length ≤ 1000000 := by
            unfold laneK
            rw [List.length_map]
            have h1 := List.length_filter_le (fun x : Nd => decide (j < x.h)) p
            have h2 := congrArg List.length hpq.out
            rw [List.length_append] at h2
            omega
          have hnew : laneK j (p ++ q1 ++ [x]) = laneK j p ++ [x.key] := by
            unfold laneK
            rw [List.filter_append, List.filter_append, List.map_append, List.map_append]
            have : q1.filter (fun x => decide (j < x.h)) = [] := List.filter_eq_nil_iff.2 (fun z hz => by have := hq1 z hz; simpa using this)
            rw [this, List.filter_cons, if_pos (by simpa using hxj)]
            simp
          have hqe0 : L = (p ++ q1 ++ [x]) ++ q2 := by rw [hpq.out, e]; simp
          have hqe := Aside0.mk hqe0
          have hql : q2.length < q.length := by rw [e]; simp only [List.length_append, List.length_cons]; omega
          clear hpq e hqe0
          go_upto_region 7 with (at_builtin; refine wpList_append_own _ rfl _ _ 38 rfl w.heap.size 9 i0 _ 1 16 Try.underlying38 hi iz0 iz1 iz2 rfl (by decide) u5 (laneK j p).length ((laneK j p).map Value.string) rfl (SRow.below hR (below_alloc (Below.refl _ _) _)) ⟨wr.heap.size, 0, none⟩ 1 1 [.string x.key] rfl rfl (cells_newS _ _) (by simp [Value.oneCell']) (by unfold maxLen; omega) (by omega) (by rw [World.size_alloc]; exact Nat.le_trans hB.size (Nat.le_succ _)) ?_; intro v9 w9 ho9 hg9 _)
          have hB9 : Below w.heap.size wr w9 := ((Below.refl w.heap.size wr).alloc hB.size _).grown hg9 (by rw [World.size_alloc]; exact Nat.le_trans hB.size (Nat.le_succ _)) (fun k hk => SRow.base_le hR hk)
          have hR9 : SRow w9 w.heap.size v9 (laneK j (p ++ q1 ++ [x])) := by
            unfold SRow
            rw [hnew, List.length_append, List.map_append]
            exact ho9
          have hBn := hB.trans hB9
          have hc9 := ((hH.move (fun b hb => hBn.block b (hH.lt hb))).lane (List.mem_cons_of_mem _ (List.mem_map.2 ⟨x, hxL, rfl⟩)) j hj12).1
          rw [hnx] at hc9
          clear hk ho9 hg9 hH2
          go_wp2
          go_roundg (gk - 1)
          case measure => omega
          case rel => exact ⟨p ++ q1 ++ [x], q2, hqe.out, by omega, by rfl, hR9, hBn⟩
end Go.Proofs.Ytdeiaicplcpbeaa.Print
