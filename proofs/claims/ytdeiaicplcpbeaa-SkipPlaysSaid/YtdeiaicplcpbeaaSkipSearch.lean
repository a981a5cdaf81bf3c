import Derived.Test.YtdeiaicplcpbeaaSkipList
namespace Go.Proofs.Ytdeiaicplcpbeaa.Print
open Go.RowKit Go.Proofs.YtdeiaicplcpbeaaX Go.Proofs.YtdeiaicplcpbeaaW.PrintWords Go.Proofs.YtdeiaicplcpbeaaW.PrintLast
set_option linter.unusedVariables false
set_option linter.unusedSimpArgs false

theorem least_nat (p : Nat → Prop) : (∃ n, p n) → ∃ n, p n ∧ ∀ m, p m → n ≤ m := by
  rintro ⟨n, hn⟩
  induction n using Nat.strongRecOn with
  | _ n ih =>
    by_cases h : ∃ m, m < n ∧ p m
    · obtain ⟨m, hm, hp⟩ := h
      exact ih m hm hp
    · exact ⟨n, hn, fun m hm => Nat.le_of_not_lt (fun hlt => h ⟨m, hlt, hm⟩)⟩
open Classical in
noncomputable def leastOf (J : Nat → Act → World → Prop) (a : Act) (w : World) : Nat := if h : ∃ n, J n a w then Classical.choose (least_nat _ h) else 0
/-- A scope in which the run jumps back to a label: what holds at every jump, by a number that falls. -/
theorem wp_scope_g {P : Program} {a : Act} {w : World} {Q : Exit → Act → World → Prop} {c rest : Code} (l : Nat) (J : Nat → Act → World → Prop) (hf : findLabel c l = some rest)
    (first : c.wp P (Exit.jump l (fun a w => ∃ n, J n a w) Q) a w)
    (pass : ∀ n a w, J n a w → rest.wp P (Exit.jump l (fun a' w' => ∃ m, m < n ∧ J m a' w') Q) a w) : (Code.scope c).wp P Q a w := by
  refine wp_scope_jumps l (fun a w => ∃ n, J n a w) (leastOf J) hf first (fun a w h => ?_)
  have e : leastOf J a w = Classical.choose (least_nat _ h) := by unfold leastOf; rw [dif_pos h]
  obtain ⟨h1, h2⟩ := Classical.choose_spec (least_nat _ h)
  rw [← e] at h1 h2
  refine wp_mono (pass _ a w h1) (fun e a' w' hq => ?_)
  cases e <;> first | exact hq | skip
  obtain ⟨hl, m, hm, hJ⟩ := hq
  refine ⟨hl, ⟨m, hJ⟩, Nat.lt_of_le_of_lt ?_ hm⟩
  have h' : ∃ n, J n a' w' := ⟨m, hJ⟩
  have e' : leastOf J a' w' = Classical.choose (least_nat _ h') := by unfold leastOf; rw [dif_pos h']
  rw [e']
  exact (Classical.choose_spec (least_nat _ h')).2 m hJ
theorem wp_scope_pre {P : Program} {a : Act} {w : World} {Q : Exit → Act → World → Prop} {pre c : Code} {l : Nat} (J : Nat → Act → World → Prop) (hf : findLabel pre l = none)
    (first : pre.wp P (Exit.then (fun a w => ∃ n, J n a w) (fun _ _ _ => False)) a w)
    (pass : ∀ n a w, J n a w → c.wp P (Exit.jump l (fun a' w' => ∃ m, m < n ∧ J m a' w') Q) a w) : (Code.scope (pre.seq ((Code.label l).seq c))).wp P Q a w := by
  refine wp_scope_g (rest := Code.skip.seq c) l J (by simp [findLabel, hf]) (wp_seq (wp_mono first (fun e a w h => ?_))) (fun n a w h => wp_seq (wp_skip (pass n a w h)))
  cases e <;> first | exact h.elim | skip
  obtain ⟨n, hn⟩ := h
  refine wp_seq (wp_label (wp_mono (pass n a w hn) (fun e a' w' h => ?_)))
  cases e <;> first | exact h | skip
  exact ⟨h.1, h.2.imp (fun m hm => hm.2)⟩
theorem addr_add (b o j : Nat) : (⟨b, o, none⟩ : Addr).add j = ⟨b, o + j, none⟩ := by unfold Addr.add; split <;> simp_all
theorem wpW {P : Program} {c : Code} {Q : Exit → Act → World → Prop} {a : Act} {w : World} (R : World → Prop) (hw : R w) (h : ∀ W, R W → Code.wp P c Q a W) : Code.wp P c Q a w := h w hw
theorem ptr_one (o : Option Nat) : (ptrV o).oneCell' = true := by cases o <;> rfl
theorem lanes_one (f : Nat → Option Nat) : (lanes f).toArray.all (·.oneCell') = true := by
  unfold lanes
  simp [ptr_one]
/-- What the search tells: of each lane, the last node whose key is less. -/
def lastsF (lb : Nat) (L : List Nd) (key : ByteArray) : Nat → Option Nat := fun j => some (lastAb j lb (lessK key L))
set_option maxHeartbeats 4000000 in
set_option maxRecDepth 100000 in
theorem search_calls (lb : Nat) (L : List Nd) (key : ByteArray) (w : World) (hS : SK w lb L) :
    Calls Try.prog 21 #[.pointer (some ⟨lb, 0, none⟩), .string key] w fun e w' => e = .returned (.agg (lanes (lastsF lb L key)).toArray) ∧ Below w.heap.size w w' := by
  obtain ⟨nx, hH, hL, hG⟩ := hS
  go_enter Try.func21, Try.ntmps21
  go_wp2
  obtain ⟨g, hg⟩ : ∃ g, w.heap.size = g := ⟨_, rfl⟩
  refine wpW (fun X => PRow X g (fun _ => none) ∧ Below g w X) ⟨by rw [← hg]; exact heap_alloc_new w _, by rw [← hg]; exact (Below.refl _ w).alloc (Nat.le_refl _) _⟩ ?_
  rintro X ⟨hP0, hB0⟩
  rw [hg]
  refine wp_scope_pre (fun n a W => ∃ (b j : Nat) (q : List Nd) (f : Nat → Option Nat) (u7 u8 u9 u10 u11 u12 u13 u14 u15 u16 u17 u18 u19 u20 u21 u22 u23 u24 u25 u26 u27 u28 u29 u30 u31 u32 u33 u34 u35 : Value), a = { tmps := #[.pointer (some ⟨lb, 0, none⟩), .string key, undef, undef, .pointer (some ⟨g, 0, none⟩), .pointer (some ⟨b, 0, none⟩), .int .i64 (j : Int), u7, u8, u9, u10, u11, u12, u13, u14, u15, u16, u17, u18, u19, u20, u21, u22, u23, u24, u25, u26, u27, u28, u29, u30, u31, u32, u33, u34, u35], defers := [] } ∧ n = j * (L.length + 1) + q.length ∧ j < 12 ∧ At lb L key b j q ∧ PRow W g f ∧ (∀ i, j < i → i < 12 → f i = lastsF lb L key i) ∧ Below g w W) (by rfl) ?_ ?_
  · go_wp2
    refine ⟨_, lb, 11, L, fun _ => none, _, _, _, _, _, _, _, _, _, _, _, _, _, _, _, _, _, _, _, _, _, _, _, _, _, _, _, _, _, rfl, rfl, by decide, At.start lb L key 11, hP0, fun i h1 h2 => by omega, hB0⟩
  · rintro n a W ⟨b, j, q, f, u7, u8, u9, u10, u11, u12, u13, u14, u15, u16, u17, u18, u19, u20, u21, u22, u23, u24, u25, u26, u27, u28, u29, u30, u31, u32, u33, u34, u35, rfl, hn, hj, hAt, hP, hf, hB⟩
    have hn := Aside0.mk hn
    have hH2 : SH W lb L.length L nx := hH.move (fun b hb => hB.block b (by rw [← hg]; exact hH.lt hb))
    obtain ⟨lc, _⟩ := hH2.lane hAt.mem j hj
    rw [hAt.nx hL] at lc
    cases hfa : firstAb j q with
    | none =>
      rw [hfa, ptr_none] at lc
      have hla := hAt.none hfa
      obtain ⟨pc, pf⟩ := hP.cell j hj
      have hf2 : ∀ i, j ≤ i → i < 12 → upd f j (some b) i = lastsF lb L key i := fun i h1 h2 => by
        unfold upd
        by_cases c : i = j
        · subst c
          rw [if_pos rfl, ← hla]
          rfl
        · rw [if_neg c]
          exact hf i (by omega) h2
      have hPs := hP.set j hj (some b)
      have hBs : Below g w (W.setCell ⟨g, j, none⟩ (ptrV (some b))) := hB.setCell (p := ⟨g, j, none⟩) (Nat.le_refl _) _
      rw [ptr_some] at hPs hBs
      cases j with
      | zero =>
        have hPz : PRow (W.setCell ⟨g, 0, none⟩ (.pointer (some ⟨b, 0, none⟩))) g (lastsF lb L key) := by
          unfold PRow at hPs ⊢
          rw [lanes_congr (fun i hi => (hf2 i (Nat.zero_le _) hi).symm)]
          exact hPs
        clear hP hPs hf hf2
        have hza := hPz
        unfold PRow at hza
        have lc0 : W.cell? ⟨b, 3, none⟩ = _ := lc
        go_wp2_with (first | ((with_reducible refine gate_dst (N := 35) rfl ?_); refine load_row_event rfl 47 (.tmp 4) rfl g (lanes (lastsF lb L key)).toArray rfl 47 (0, 0) _ hza Try.underlying47 rfl (by kernel_rfl) ?_) | (refine wpList_store_row rfl 47 (.tmp 4) (.tmp 35) rfl g (lanes (lastsF lb L key)).toArray rfl rfl 47 (lanes (lastsF lb L key)).toArray hza (by kernel_rfl) rfl (lanes_one _) ?_; rw [setRow_self _ g _ 47 (0, 0) hza]))
        rw [jump_ret]
        refine bodyPost_ret (results_cell_row rfl _ _ g 47 (lanes (lastsF lb L key)).toArray (0, 0) _ rfl hza Try.underlying47 rfl (by kernel_rfl)) rfl ?_
        exact ⟨rfl, by rw [hg]; exact hBs⟩
      | succ k =>
        go_wp2
        refine wp_goto ?_
        try simp only [Exit.then]
        refine jump_goto ?_
        refine ⟨_, Nat.lt_of_lt_of_eq ?_ hn.out.symm, b, k, q, upd f (k + 1) (some b), _, _, _, _, _, _, _, _, _, _, _, _, _, _, _, _, _, _, _, _, _, _, _, _, _, _, _, _, _, rfl, rfl, by omega, hAt.down (by omega), hPs, fun i h1 h2 => hf2 i (by omega) h2, hBs⟩
        rw [Nat.add_mul, Nat.one_mul]
        omega
    | some y =>
      rw [hfa, ptr_some] at lc
      obtain ⟨x, hx, hxb, h1, h2⟩ := hAt.some hG.sorted hfa
      obtain ⟨kc, _⟩ := hH2.parts hx
      rw [hxb] at kc
      cases hk : Op.bytesLess x.key.toList key.toList with
      | true =>
        obtain ⟨q2, hq2, hAt2⟩ := h1 hk
        go_wp2
        refine wp_goto ?_
        try simp only [Exit.then]
        refine jump_goto ?_
        refine ⟨_, Nat.lt_of_lt_of_eq ?_ hn.out.symm, y, j, q2, f, _, _, _, _, _, _, _, _, _, _, _, _, _, _, _, _, _, _, _, _, _, _, _, _, _, _, _, _, _, rfl, rfl, hj, hAt2, hP, hf, hB⟩
        omega
      | false =>
        have hla := h2 hk
        obtain ⟨pc, pf⟩ := hP.cell j hj
        have hf2 : ∀ i, j ≤ i → i < 12 → upd f j (some b) i = lastsF lb L key i := fun i h1 h2 => by
          unfold upd
          by_cases c : i = j
          · subst c
            rw [if_pos rfl, ← hla]
            rfl
          · rw [if_neg c]
            exact hf i (by omega) h2
        have hPs := hP.set j hj (some b)
        have hBs : Below g w (W.setCell ⟨g, j, none⟩ (ptrV (some b))) := hB.setCell (p := ⟨g, j, none⟩) (Nat.le_refl _) _
        rw [ptr_some] at hPs hBs
        cases j with
        | zero =>
          have hPz : PRow (W.setCell ⟨g, 0, none⟩ (.pointer (some ⟨b, 0, none⟩))) g (lastsF lb L key) := by
            unfold PRow at hPs ⊢
            rw [lanes_congr (fun i hi => (hf2 i (Nat.zero_le _) hi).symm)]
            exact hPs
          clear hP hPs hf hf2
          have hza := hPz
          unfold PRow at hza
          have lc0 : W.cell? ⟨b, 3, none⟩ = _ := lc
          go_wp2_with (first | ((with_reducible refine gate_dst (N := 35) rfl ?_); refine load_row_event rfl 47 (.tmp 4) rfl g (lanes (lastsF lb L key)).toArray rfl 47 (0, 0) _ hza Try.underlying47 rfl (by kernel_rfl) ?_) | (refine wpList_store_row rfl 47 (.tmp 4) (.tmp 35) rfl g (lanes (lastsF lb L key)).toArray rfl rfl 47 (lanes (lastsF lb L key)).toArray hza (by kernel_rfl) rfl (lanes_one _) ?_; rw [setRow_self _ g _ 47 (0, 0) hza]))
          rw [jump_ret]
          refine bodyPost_ret (results_cell_row rfl _ _ g 47 (lanes (lastsF lb L key)).toArray (0, 0) _ rfl hza Try.underlying47 rfl (by kernel_rfl)) rfl ?_
          exact ⟨rfl, by rw [hg]; exact hBs⟩
        | succ k =>
          go_wp2
          refine wp_goto ?_
          try simp only [Exit.then]
          refine jump_goto ?_
          refine ⟨_, Nat.lt_of_lt_of_eq ?_ hn.out.symm, b, k, q, upd f (k + 1) (some b), _, _, _, _, _, _, _, _, _, _, _, _, _, _, _, _, _, _, _, _, _, _, _, _, _, _, _, _, _, rfl, rfl, by omega, hAt.down (by omega), hPs, fun i h1 h2 => hf2 i (by omega) h2, hBs⟩
          rw [Nat.add_mul, Nat.one_mul]
          omega
end Go.Proofs.Ytdeiaicplcpbeaa.Print
