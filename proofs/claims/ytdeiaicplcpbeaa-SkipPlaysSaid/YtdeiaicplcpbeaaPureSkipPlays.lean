/- A list does, put by put, just what the chapter says, of any keys and heights (at most 150 puts): for all arguments that the row lets in. -/
import Derived.Test.YtdeiaicplcpbeaaSkipRefP
import Derived.Test.YtdeiaicplcpbeaaSkipSame
namespace Go.Proofs.Ytdeiaicplcpbeaa.Pure
open Go.RowKit Go.Proofs.Ytdeiaicplcpbeaa.Print Go.Proofs.YtdeiaicplcpbeaaX Go.Proofs.YtdeiaicplcpbeaaW.PrintWords Go.Proofs.YtdeiaicplcpbeaaW.PrintLast Go.Proofs.YtdeiaicplcpbeaaW.PrintMore
set_option linter.unusedVariables false
set_option linter.unusedSimpArgs false

abbrev Pt := S31
theorem LS_more {n0 n1 lb : Nat} {l : List One} {W : World} (h : LS n1 W lb l) (hn : n0 ≤ n1) : LS n0 W lb l := by
  obtain ⟨L, h1, h2, h3⟩ := h
  exact ⟨L, h1, fun b hb => Nat.le_trans hn (h2 b hb), h3⟩
theorem srow_blk {W : World} {base : Nat} {A : Option Addr} {n c : Nat} {xs : List ByteArray} (h : SRow W base (.slice A n c) xs) : n = 0 ∨ ∃ g cur, A = some ⟨g, 0, none⟩ ∧ base ≤ g ∧ W.heap[g]? = some (.cells cur 9 (0, 0)) ∧ n ≤ cur.size := by
  rcases h.2 with ⟨h1, h2⟩ | ⟨g, cap, cur, h1, h2, h3, h4, _, h5, _⟩
  · injection h1 with _ h3 _
    exact .inl h3
  · injection h1 with e1 e2 e3
    exact .inr ⟨g, cur, e1, h2, h3, by rw [h5, e2, Nat.mul_one]; omega⟩
set_option maxHeartbeats 4000000 in
set_option maxRecDepth 100000 in
theorem skipPlaysWalk (A0 : Option Addr) (c0 : Nat) (l0 : List Pt) (a1 : ByteArray) (a2 : Int) (w : World) (hr0 : Kd.C k31 w A0 l0.length l0) (hc0 : l0.length ≤ c0)
    (v0 : l0.length ≤ maxLen ∧ l0.length * 40 ≤ 140737488351232 ∧ ∀ x ∈ l0, V31 x) (v1 : a1.size ≤ 140737488351232) (v2 : (Lit.int .i64 a2).wf = true) :
    Calls Try.prog 3 #[.slice A0 l0.length c0, .string a1, .int .i64 a2] w fun e w' => e = .returned (.bool true) ∧ Below w.heap.size w w' := by
  have hex := examples_calls w
  have hlen : l0.length ≤ 1000000000000000 := by have := v0.2.1; omega
  go_enter Try.func3, Try.ntmps3
  go_upto_block 0 with (first
    | (go_at_call 7; refine hex.mono ?_; clear hex; rintro e w1 ⟨he, hB1⟩; subst he; have hn1 := new_as w1)
    | (go_at_call 8; refine hn1.mono ?_; clear hn1; rintro e w2 ⟨lb, he, hS2, hB2⟩; subst he))
  have hS2w := LS_more (hS2.below ((Below.refl _ w2).alloc (Nat.le_refl _) (.cells #[.slice none 0 0] 29))) hB1.size
  have hBw2 : Below w.heap.size w (w2.alloc (.cells #[.slice none 0 0] 29)) := below_step (below_step hB1 hB2) ((Below.refl _ w2).alloc (Nat.le_refl _) _)
  obtain ⟨rb, hrb⟩ : ∃ rb, w2.heap.size = rb := ⟨_, rfl⟩
  have hR2w : RL w.heap.size (w2.alloc (.cells #[.slice none 0 0] 29)) rb [] := ⟨.slice none 0 0, by rw [← hrb]; exact heap_alloc_new w2 _, by rw [← hrb]; exact (below_step hB1 hB2).size, World.ownsRow_nil _ _ _ _⟩
  rw [hrb]
  refine wpW (fun X => LS w.heap.size X lb [] ∧ RL w.heap.size X rb [] ∧ Below w.heap.size w X) ⟨hS2w, hR2w, hBw2⟩ ?_
  clear hS2w hR2w hBw2 hS2 hB1 hB2
  rintro w3 ⟨hS3, hR3, hB3⟩
  go_cut [10] (fun v10 wc => Below w.heap.size w wc)
  case first =>
    go_wp2
    go_loopg [10] 150 (fun gg v10 wr => ∃ (i : Nat), i ≤ l0.length ∧ i ≤ 150 ∧ 150 - i ≤ gg ∧ v10 = .int .i64 i ∧ LS w.heap.size wr lb (playO (l0.take i)) ∧ RL w.heap.size wr rb (playO (l0.take i)) ∧ Below w.heap.size w wr)
    case atStart => exact ⟨0, Nat.zero_le _, by decide, Nat.le_refl _, rfl, hS3, hR3, hB3⟩
    case round =>
      clear hS3 hR3 hB3
      obtain ⟨i, hil, hi1, hig, rfl, hS, hR, hB⟩ := hrel
      by_cases hlt : i < l0.length
      · have hltz : (i : Int) < (l0.length : Int) := by omega
        by_cases hlt8 : i < 150
        · have h8 : decide ((i : Int) < 150) = true := decide_eq_true (by omega)
          obtain ⟨ad, hA, hx0, hx1, hx2⟩ := at_T31 (Kd.C_below hr0 hB) (i : Int) (by omega) hltz
          subst hA
          rw [Int.toNat_natCast] at hx0 hx1 hx2
          have hrd : rd_T31 l0 (i : Int) = l0[i] := by unfold rd_T31; rw [Int.toNat_natCast, List.getD_eq_getElem?_getD, List.getElem?_eq_getElem hlt]; rfl
          have hpl : (playO (l0.take i)).length ≤ i := Nat.le_trans (playO_len _) (by rw [List.length_take]; omega)
          have hG := play_good (l0.take i)
          have hnx0 := playO_take l0 i hlt
          have hnx := Aside0.mk hnx0
          rw [hrd] at hx0 hx1 hx2
          clear hrd hnx0
          generalize l0[i] = p at hx0 hx1 hx2 hnx
          generalize playO (l0.take i) = l at hS hR hpl hG hnx
          have hu := Try.underlying31
          go_upto_region 10 with (fail)
          obtain ⟨pb, hpb⟩ : ∃ pb, wr.heap.size = pb := ⟨_, rfl⟩
          have hDa : Below wr.heap.size wr (wr.alloc (.cells #[.string p.f0, .string p.f1, .int .i64 p.f2] 31)) := (Below.refl _ wr).alloc (Nat.le_refl _) _
          have hPa := heap_alloc_new wr (.cells #[.string p.f0, .string p.f1, .int .i64 p.f2] 31)
          rw [hpb] at hPa ⊢
          refine wpW (fun X => LS w.heap.size X lb l ∧ RL w.heap.size X rb l ∧ Below w.heap.size w X ∧ X.heap[pb]? = some (.cells #[.string p.f0, .string p.f1, .int .i64 p.f2] 31 (0, 0))) ⟨hS.below hDa, hR.below hDa, below_step hB hDa, hPa⟩ ?_
          clear hS hR hB hDa hPa hpb hx0 hx1 hx2
          rintro X1 ⟨hS, hR, hB, hP⟩
          have hD : Below X1.heap.size X1 X1.drew := below_drew1 (Below.refl _ _)
          have hS := hS.below hD
          have hR := hR.below hD
          have hB := below_step hB hD
          have hP : X1.drew.heap[pb]? = some (.cells #[.string p.f0, .string p.f1, .int .i64 p.f2] 31 (0, 0)) := hP
          have hC : ∀ X : World, X.heap[pb]? = some (.cells #[.string p.f0, .string p.f1, .int .i64 p.f2] 31 (0, 0)) → X.cell? ⟨pb, 0, none⟩ = some (.string p.f0) ∧ X.cell? ⟨pb, 1, none⟩ = some (.string p.f1) ∧ X.cell? ⟨pb, 2, none⟩ = some (.int .i64 p.f2) := fun X hX => ⟨cell_of_row _ _ _ _ _ _ hX, cell_of_row _ _ _ _ _ _ hX, cell_of_row _ _ _ _ _ _ hX⟩
          refine start_ (S := fun w' => w'.cell? ⟨pb, 0, none⟩ = some (.string p.f0) ∧ w'.cell? ⟨pb, 1, none⟩ = some (.string p.f1) ∧ w'.cell? ⟨pb, 2, none⟩ = some (.int .i64 p.f2)) (ds := [15]) #[false, false, false, false, false, false, false, false, false, false, false, false, false, false, false, false, false] (by kernel_rfl) rfl rfl (hC _ hP) ?_
          intro hHeld
          generalize X1.drew = Wd at hS hR hB hP hHeld ⊢
          refine pure_ (i := 0) (N := some 48) (v := ?_) (a' := ?_) #[true, false, false, false, false, false, false, false, false, false, false, false, false, false, false, false, false] rfl rfl (by kernel_rfl) (fun _ _ _ h => h) (Or.inl ⟨by rfl, ?_⟩) ?_ ?_
          rotate_left
          · intro w'
            go_simp
            with_reducible rfl
          rotate_left
          · simp only [Act.put, List.setIfInBounds_toArray, List.set_cons_zero, List.set_cons_succ, i64_w, i32_w]
            rfl
          refine pure_ (i := 1) (N := some 49) (v := ?_) (a' := ?_) #[true, true, false, false, false, false, false, false, false, false, false, false, false, false, false, false, false] rfl rfl (by kernel_rfl) (fun _ _ _ h => h) (Or.inl ⟨by rfl, ?_⟩) ?_ ?_
          rotate_left
          · intro w'
            go_simp
            with_reducible rfl
          rotate_left
          · simp only [Act.put, List.setIfInBounds_toArray, List.set_cons_zero, List.set_cons_succ, i64_w, i32_w]
            rfl
          refine take_ (i := 2) (N := some 50) (v := ?_) (a' := ?_) #[true, true, true, false, false, false, false, false, false, false, false, false, false, false, false, false, false] rfl rfl (by kernel_rfl) (fun _ _ _ h => h) (Or.inl ⟨by rfl, ?_⟩) hHeld ?_ ?_
          rotate_left
          · rintro w' ⟨s0, s1, s2⟩
            go_simp
            with_reducible rfl
          rotate_left
          · simp only [Act.put, List.setIfInBounds_toArray, List.set_cons_zero, List.set_cons_succ, i64_w, i32_w]
            rfl
          refine pure_ (i := 3) (N := some 51) (v := ?_) (a' := ?_) #[true, true, true, true, false, false, false, false, false, false, false, false, false, false, false, false, false] rfl rfl (by kernel_rfl) (fun _ _ _ h => h) (Or.inl ⟨by rfl, ?_⟩) ?_ ?_
          rotate_left
          · intro w'
            go_simp
            with_reducible rfl
          rotate_left
          · simp only [Act.put, List.setIfInBounds_toArray, List.set_cons_zero, List.set_cons_succ, i64_w, i32_w]
            rfl
          refine take_ (i := 4) (N := some 52) (v := ?_) (a' := ?_) #[true, true, true, true, true, false, false, false, false, false, false, false, false, false, false, false, false] rfl rfl (by kernel_rfl) (fun _ _ _ h => h) (Or.inl ⟨by rfl, ?_⟩) hHeld ?_ ?_
          rotate_left
          · rintro w' ⟨s0, s1, s2⟩
            go_simp
            with_reducible rfl
          rotate_left
          · simp only [Act.put, List.setIfInBounds_toArray, List.set_cons_zero, List.set_cons_succ, i64_w, i32_w]
            rfl
          refine pure_ (i := 5) (N := some 53) (v := ?_) (a' := ?_) #[true, true, true, true, true, true, false, false, false, false, false, false, false, false, false, false, false] rfl rfl (by kernel_rfl) (fun _ _ _ h => h) (Or.inl ⟨by rfl, ?_⟩) ?_ ?_
          rotate_left
          · intro w'
            go_simp
            with_reducible rfl
          rotate_left
          · simp only [Act.put, List.setIfInBounds_toArray, List.set_cons_zero, List.set_cons_succ, i64_w, i32_w]
            rfl
          refine take_ (i := 6) (N := some 54) (v := ?_) (a' := ?_) #[true, true, true, true, true, true, true, false, false, false, false, false, false, false, false, false, false] rfl rfl (by kernel_rfl) (fun _ _ _ h => h) (Or.inl ⟨by rfl, ?_⟩) hHeld ?_ ?_
          rotate_left
          · rintro w' ⟨s0, s1, s2⟩
            go_simp
            with_reducible rfl
          rotate_left
          · simp only [Act.put, List.setIfInBounds_toArray, List.set_cons_zero, List.set_cons_succ, i64_w, i32_w]
            rfl
          refine pure_ (i := 8) (N := some 56) (v := ?_) (a' := ?_) #[true, true, true, true, true, true, true, false, true, false, false, false, false, false, false, false, false] rfl rfl (by kernel_rfl) (fun _ _ _ h => h) (Or.inl ⟨by rfl, ?_⟩) ?_ ?_
          rotate_left
          · intro w'
            go_simp
            with_reducible rfl
          rotate_left
          · simp only [Act.put, List.setIfInBounds_toArray, List.set_cons_zero, List.set_cons_succ, i64_w, i32_w]
            rfl
          refine pure_ (i := 9) (N := some 57) (v := ?_) (a' := ?_) #[true, true, true, true, true, true, true, false, true, true, false, false, false, false, false, false, false] rfl rfl (by kernel_rfl) (fun _ _ _ h => h) (Or.inl ⟨by rfl, ?_⟩) ?_ ?_
          rotate_left
          · intro w'
            go_simp
            with_reducible rfl
          rotate_left
          · simp only [Act.put, List.setIfInBounds_toArray, List.set_cons_zero, List.set_cons_succ, i64_w, i32_w]
            rfl
          refine take_ (i := 10) (N := some 58) (v := ?_) (a' := ?_) #[true, true, true, true, true, true, true, false, true, true, true, false, false, false, false, false, false] rfl rfl (by kernel_rfl) (fun _ _ _ h => h) (Or.inl ⟨by rfl, ?_⟩) hHeld ?_ ?_
          rotate_left
          · rintro w' ⟨s0, s1, s2⟩
            go_simp
            with_reducible rfl
          rotate_left
          · simp only [Act.put, List.setIfInBounds_toArray, List.set_cons_zero, List.set_cons_succ, i64_w, i32_w]
            rfl
          refine pure_ (i := 11) (N := some 59) (v := ?_) (a' := ?_) #[true, true, true, true, true, true, true, false, true, true, true, true, false, false, false, false, false] rfl rfl (by kernel_rfl) (fun _ _ _ h => h) (Or.inl ⟨by rfl, ?_⟩) ?_ ?_
          rotate_left
          · intro w'
            go_simp
            with_reducible rfl
          rotate_left
          · simp only [Act.put, List.setIfInBounds_toArray, List.set_cons_zero, List.set_cons_succ, i64_w, i32_w]
            rfl
          refine take_ (i := 12) (N := some 60) (v := ?_) (a' := ?_) #[true, true, true, true, true, true, true, false, true, true, true, true, true, false, false, false, false] rfl rfl (by kernel_rfl) (fun _ _ _ h => h) (Or.inl ⟨by rfl, ?_⟩) hHeld ?_ ?_
          rotate_left
          · rintro w' ⟨s0, s1, s2⟩
            go_simp
            with_reducible rfl
          rotate_left
          · simp only [Act.put, List.setIfInBounds_toArray, List.set_cons_zero, List.set_cons_succ, i64_w, i32_w]
            rfl
          refine pure_ (i := 13) (N := some 61) (v := ?_) (a' := ?_) #[true, true, true, true, true, true, true, false, true, true, true, true, true, true, false, false, false] rfl rfl (by kernel_rfl) (fun _ _ _ h => h) (Or.inl ⟨by rfl, ?_⟩) ?_ ?_
          rotate_left
          · intro w'
            go_simp
            with_reducible rfl
          rotate_left
          · simp only [Act.put, List.setIfInBounds_toArray, List.set_cons_zero, List.set_cons_succ, i64_w, i32_w]
            rfl
          refine take_ (i := 14) (N := some 62) (v := ?_) (a' := ?_) #[true, true, true, true, true, true, true, false, true, true, true, true, true, true, true, false, false] rfl rfl (by kernel_rfl) (fun _ _ _ h => h) (Or.inl ⟨by rfl, ?_⟩) hHeld ?_ ?_
          rotate_left
          · rintro w' ⟨s0, s1, s2⟩
            go_simp
            with_reducible rfl
          rotate_left
          · simp only [Act.put, List.setIfInBounds_toArray, List.set_cons_zero, List.set_cons_succ, i64_w, i32_w]
            rfl
          refine one_ (i := 7) (N := some 55) #[true, true, true, true, true, true, true, true, true, true, true, true, true, true, true, false, false] rfl rfl (by kernel_rfl) (by decide) (fun K hK => ?_)
          refine goes_ Try.func9 (by kernel_rfl) rfl #[.pointer (some ⟨lb, 0, none⟩), .string p.f0, .string p.f1, .int .i64 p.f2] (by rfl) rfl rfl (by (try simp only [List.map_toArray, List.map_cons, List.map_nil]); first | done | rfl) ?_
          refine (put_asF w.heap.size lb l p.f0 p.f1 p.f2 Wd hS (by omega)).mono ?_
          rintro e w4 ⟨he, hS4, hF4, hB4⟩
          subst he
          have hP4 := (hF4 _ _ _ _ hP (by decide)).trans hP
          refine ⟨_, rfl, ?_⟩
          refine hK.out _ _ (hC _ hP4) (fun hHeld => ?_)
          clear hK K
          refine norm_ (a' := ?_) ?_ ?_
          rotate_left
          · show Act.put _ (some 55) _ = _
            simp only [Act.put, List.setIfInBounds_toArray, List.set_cons_zero, List.set_cons_succ, i64_w, i32_w]
            rfl
          refine last_ (i := 15) (N := some 63) #[true, true, true, true, true, true, true, true, true, true, true, true, true, true, true, true, false] rfl rfl (by kernel_rfl) (by decide) (fun K hK => ?_)
          refine goes_ Try.func10 (by kernel_rfl) rfl #[.pointer (some ⟨rb, 0, none⟩), .string p.f0, .string p.f1, .int .i64 p.f2] (by rfl) rfl rfl (by (try simp only [List.map_toArray, List.map_cons, List.map_nil]); first | done | rfl) ?_
          refine (rput_calls p.f0 p.f1 p.f2 (hR.frame hF4) hG (by omega)).mono ?_
          rintro e w5 ⟨he, hR5, hF5, hB5⟩
          subst he
          refine ⟨_, rfl, ?_⟩
          refine hK.out _ _ ?_
          clear hK K
          refine norm_ (a' := ?_) ?_ ?_
          rotate_left
          · show Act.put _ (some 63) _ = _
            simp only [Act.put, List.setIfInBounds_toArray, List.set_cons_zero, List.set_cons_succ, i64_w, i32_w]
            rfl
          refine pure_ (i := 16) (N := some 64) (v := ?_) (a' := ?_) #[true, true, true, true, true, true, true, true, true, true, true, true, true, true, true, true, true] rfl rfl (by kernel_rfl) (fun _ _ _ h => h) (Or.inl ⟨by rfl, ?_⟩) ?_ ?_
          rotate_left
          · intro w'
            go_simp
            with_reducible rfl
          rotate_left
          · simp only [Act.put, List.setIfInBounds_toArray, List.set_cons_zero, List.set_cons_succ, i64_w, i32_w]
            rfl
          refine done_ (by kernel_rfl) ?_
          have hS5 := hS4.frame hF5
          have hP5 := (hF5 _ _ _ _ hP4 (by decide)).trans hP4
          have hB5w := (hB.trans hB4).trans hB5
          have hG5 : GoodO (putO p.f0 p.f1 p.f2 l) := putO_good hG
          have hpl5 : (putO p.f0 p.f1 p.f2 l).length ≤ i + 1 := Nat.le_trans (putO_len _ _ _ _) (by omega)
          clear hS hR hB hP hS4 hP4 hF4 hB4 hF5 hB5 hHeld hG hpl hC
          rw [← hnx.out] at hS5 hR5 hG5 hpl5
          have hbb : ((findO p.f0 l).isNone != (findO p.f0 l).isNone) = false := by simp
          have hbb2 : ((findO p.f0 l).isNone == (findO p.f0 l).isNone) = true := by simp
          obtain ⟨l1, hl1⟩ : ∃ l1, l1 = playO (l0.take (i + 1)) := ⟨_, rfl⟩
          have hl1' := Aside0.mk hl1
          rw [← hl1] at hS5 hR5 hG5 hpl5
          clear hl1
          go_upto_block 2 with (fail)
          have hf0 : w5.cell? ⟨pb, 0, none⟩ = some (.string p.f0) := cell_of_row _ _ _ _ _ _ hP5
          go_cut [12] (fun v12 wd => Below w5.heap.size w5 wd)
          case first =>
            go_wp2
            go_loopg [12] 2 (fun gg v12 wr => ∃ (n : Nat), n ≤ 2 ∧ 2 - n ≤ gg ∧ v12 = .int .i64 n ∧ Below w5.heap.size w5 wr)
            case atStart => exact ⟨0, Nat.zero_le _, Nat.le_refl _, rfl, Below.refl _ _⟩
            case round =>
              obtain ⟨n, hn2, hng, rfl, hBn⟩ := hrel
              by_cases hnt : n < 2
              · have hntz : (n : Int) < 2 := by omega
                go_upto_if 71 with (fail)
                go_cut [13] (fun v13 wd => ∃ kk : ByteArray, v13 = .string kk ∧ wd = wr)
                case first =>
                  have hf0n := (hBn.cell (World.block_lt_of_cell? _ _ hf0)).trans hf0
                  by_cases h1 : n = 1
                  · have hb : ((n : Int) == 1) = true := beq_iff_eq.2 (by omega)
                    have hb2 : (n == 1) = true := beq_iff_eq.2 (by omega)
                    clear h1
                    go_wp2
                    go_meet
                    case rel => exact ⟨_, rfl, rfl⟩
                  · have hb : ((n : Int) == 1) = false := beq_eq_false_iff_ne.2 (by omega)
                    have hb2 : (n == 1) = false := beq_eq_false_iff_ne.2 (by omega)
                    clear h1
                    go_wp2
                    go_meet
                    case rel => exact ⟨_, rfl, rfl⟩
                case rest =>
                obtain ⟨kk, rfl, hwd⟩ := hcut
                subst hwd
                have hSn := hS5.below hBn
                have hRn := hR5.below hBn
                have hg1 := get_as (key := kk) hSn
                have hg2 := fun (X : World) (hX : RL w.heap.size X rb l1) => rget_calls (key := kk) hX (by omega)
                have hk1 := fun (X : World) (hX : LS w.heap.size X lb l1) => seek_as (key := kk) hX
                have hk2 := fun (X : World) (hX : RL w.heap.size X rb l1) => rseek_calls (key := kk) hX (by omega)
                have hh1 := fun (X : World) (hX : LS w.heap.size X lb l1) => height_as (key := kk) hX
                have hh2 := fun (X : World) (hX : RL w.heap.size X rb l1) => rheight_calls (key := kk) hX (by omega)
                generalize getO kk l1 = g at hg1 hg2
                generalize seekO kk l1 = s at hk1 hk2
                generalize heightO kk l1 = q at hh1 hh2
                obtain ⟨g1, g2⟩ := g
                obtain ⟨s1, s2, s3⟩ := s
                dsimp only at hg1 hg2 hk1 hk2
                have b1 : (g1.toList == g1.toList) = true := by simp
                have b2 : (g2 == g2) = true := by simp
                have b3 : (s1.toList == s1.toList) = true := by simp
                have b4 : (s2.toList == s2.toList) = true := by simp
                have b5 : (s3 == s3) = true := by simp
                go_wp2_with (first
                  | (go_at_call 11; refine hg1.mono ?_; clear hg1; rintro e w6 ⟨he, hB6⟩; subst he; have hS6 := hSn.below hB6; have hR6 := hRn.below hB6; have hg3 := hg2 _ hR6; clear hg2)
                  | (go_at_call 12; refine hg3.mono ?_; clear hg3; rintro e w7 ⟨he, hB7⟩; subst he; have hS7 := hS6.below hB7; have hR7 := hR6.below hB7; have hk3 := hk1 _ hS7; clear hk1)
                  | (go_at_call 13; refine hk3.mono ?_; clear hk3; rintro e w8 ⟨he, hB8⟩; subst he; have hS8 := hS7.below hB8; have hR8 := hR7.below hB8; have hk4 := hk2 _ hR8; clear hk2)
                  | (go_at_call 14; refine hk4.mono ?_; clear hk4; rintro e w9 ⟨he, hB9⟩; subst he; have hS9 := hS8.below hB9; have hR9 := hR8.below hB9; have hh3 := hh1 _ hS9; clear hh1)
                  | (go_at_call 15; refine hh3.mono ?_; clear hh3; rintro e w10 ⟨he, hB10⟩; subst he; have hR10 := hR9.below hB10; have hh4 := hh2 _ hR10; clear hh2)
                  | (go_at_call 16; refine hh4.mono ?_; clear hh4; rintro e w11 ⟨he, hB11⟩; subst he))
                go_roundg (2 - (n + 1))
                case measure => omega
                case rel => exact ⟨n + 1, by omega, Nat.le_refl _, by go_num, below_step (below_step (below_step (below_step (below_step (below_step hBn hB6) hB7) hB8) hB9) hB10) hB11⟩
              · have hntz : ¬ (n : Int) < 2 := by omega
                go_wp2
                go_meet
                case rel => exact hBn
          case rest =>
            have hBn := hcut
            clear hcut hf0 hP5
            obtain ⟨w6, hw6⟩ : ∃ w6, w6 = wc := ⟨_, rfl⟩
            rw [← hw6] at hBn ⊢
            clear hw6
            have hS6 := hS5.below hBn
            have hR6 := hR5.below hBn
            have hB6w := below_step hB5w hBn
            have hl1 := fun (X : World) (hX : LS w.heap.size X lb l1) (h : Int) => lane_as (h := h) hX (by omega)
            have hl2 := fun (X : World) (hX : RL w.heap.size X rb l1) (h : Int) => rlane_calls (h := h) hX (by omega)
            simp only [laneR_O hG5] at hl2
            have hll : ∀ h : Int, (laneO h l1).length ≤ 1000000 := fun h => by
              rw [← laneR_O hG5]
              unfold laneR
              rw [List.length_map]
              exact Nat.le_trans (List.length_filter_le _ _) (by omega)
            have hq1 := hl1 _ hS6 a2
            clear hS5 hR5 hB5w hBn
            go_upto_region 27 with (first
              | (go_at_call 17; refine hq1.mono ?_; clear hq1; rintro e w7 ⟨v7, he, hV7, hB7⟩; subst he; have hS7 := hS6.below hB7; have hR7 := hR6.below hB7; obtain ⟨A7, c7, he, hc7, hC7⟩ := hV7.reads; subst he; have hq2 := hl2 _ hR7 a2)
              | (go_at_call 19; refine hq2.mono ?_; clear hq2; rintro e w8 ⟨v8, he, hV8, hB8⟩; subst he; have hS8 := hS7.below hB8; have hR8 := hR7.below hB8; obtain ⟨A8, c8, he, hc8, hC8⟩ := hV8.reads; subst he; have hC7' := Kd.C_below hC7 hB8; have hq3 := palinodelaw09_texts.calls _ A7 c7 _ A8 c8 _ true w8 hC7' hc7 hC8 hc8 (texts_same _ (hll _)); clear hC7 hV8)
              | (go_at_call 18; refine hq3.mono ?_; clear hq3; rintro e w9 ⟨he, hD9⟩; subst he; have hB9 := hD9.below; have hS9 := hS8.below hB9; have hR9 := hR8.below hB9; have hq4 := hl1 _ hS9)
              | (go_at_call 17; refine (hq4 _).mono ?_; clear hq4; rintro e w10 ⟨v10, he, hV10, hB10⟩; subst he; have hS10 := hS9.below hB10; have hR10 := hR9.below hB10; obtain ⟨A10, c10, he, hc10, hC10⟩ := hV10.reads; subst he; have hq5 := hl2 _ hR10)
              | (go_at_call 19; refine (hq5 _).mono ?_; clear hq5; rintro e w11 ⟨v11, he, hV11, hB11⟩; subst he; have hS11 := hS10.below hB11; have hR11 := hR10.below hB11; obtain ⟨A11, c11, he, hc11, hC11⟩ := hV11.reads; subst he; have hC10' := Kd.C_below hC10 hB11; have hq6 := palinodelaw09_texts.calls _ A10 c10 _ A11 c11 _ true w11 hC10' hc10 hC11 hc11 (texts_same _ (hll _)); clear hC10 hV11 hV10)
              | (go_at_call 18; refine hq6.mono ?_; clear hq6; rintro e w12 ⟨he, hD12⟩; subst he; have hB12 := hD12.below; have hS12 := hS11.below hB12; have hR12 := hR11.below hB12))
            have hD : Below w12.heap.size w12 w12.drew := below_drew1 (Below.refl _ _)
            have hB12' := below_step (below_step (below_step (below_step hB8 hB9) hB10) hB11) hB12
            have hB13 : Below w7.heap.size w7 w12.drew := below_step hB12' hD
            obtain ⟨Ar, cr, hrd, _, _, _⟩ := (hR12.below hD).read
            have hS13 := hS12.below hD
            have hln := len_as hS13
            have hrdX : ∀ X, Below w12.drew.heap.size w12.drew X → X.cell? ⟨rb, 0, none⟩ = some (.slice Ar l1.length cr) := fun X hX => (hX.cell (World.block_lt_of_cell? _ _ hrd)).trans hrd
            refine start_ (S := fun w' => w'.cell? ⟨rb, 0, none⟩ = some (.slice Ar l1.length cr)) (ds := []) #[false, false, false, false, false, false, false, false, false, false, false, false, false, false, false, false] (by kernel_rfl) rfl rfl hrd ?_
            intro hHeld
            have hn6 := hll a2
            clear hS12 hR12 hB12' hB8 hB9 hB10 hB11 hB12 hD hS8 hR8 hS9 hR9 hS10 hR10 hS11 hR11 hC7' hC8 hC10' hC11 hc8 hc10 hc11 hl1 hl2 hll hS7 hR7
            generalize w12.drew = Wd at hB13 hHeld hS13 hln hrd hrdX ⊢
            refine pure_ (i := 0) (N := some 149) (v := ?_) (a' := ?_) #[true, false, false, false, false, false, false, false, false, false, false, false, false, false, false, false] rfl rfl (by kernel_rfl) (fun _ _ _ h => h) (Or.inl ⟨by rfl, ?_⟩) ?_ ?_
            rotate_left
            · intro w'
              go_simp
              with_reducible rfl
            rotate_left
            · simp only [Act.put, List.setIfInBounds_toArray, List.set_cons_zero, List.set_cons_succ, i64_w, i32_w]
              rfl
            refine pure_ (i := 1) (N := some 150) (v := ?_) (a' := ?_) #[true, true, false, false, false, false, false, false, false, false, false, false, false, false, false, false] rfl rfl (by kernel_rfl) (fun _ _ _ h => h) (Or.inl ⟨by rfl, ?_⟩) ?_ ?_
            rotate_left
            · intro w'
              go_simp
              with_reducible rfl
            rotate_left
            · simp only [Act.put, List.setIfInBounds_toArray, List.set_cons_zero, List.set_cons_succ, i64_w, i32_w]
              rfl
            refine pure_ (i := 2) (N := some 151) (v := ?_) (a' := ?_) #[true, true, true, false, false, false, false, false, false, false, false, false, false, false, false, false] rfl rfl (by kernel_rfl) (fun _ _ _ h => h) (Or.inl ⟨by rfl, ?_⟩) ?_ ?_
            rotate_left
            · intro w'
              go_simp
              with_reducible rfl
            rotate_left
            · simp only [Act.put, List.setIfInBounds_toArray, List.set_cons_zero, List.set_cons_succ, i64_w, i32_w]
              rfl
            refine pure_ (i := 3) (N := some 152) (v := ?_) (a' := ?_) #[true, true, true, true, false, false, false, false, false, false, false, false, false, false, false, false] rfl rfl (by kernel_rfl) (fun _ _ _ h => h) (Or.inl ⟨by rfl, ?_⟩) ?_ ?_
            rotate_left
            · intro w'
              go_simp
              with_reducible rfl
            rotate_left
            · simp only [Act.put, List.setIfInBounds_toArray, List.set_cons_zero, List.set_cons_succ, i64_w, i32_w]
              rfl
            refine pure_ (i := 4) (N := some 153) (v := ?_) (a' := ?_) #[true, true, true, true, true, false, false, false, false, false, false, false, false, false, false, false] rfl rfl (by kernel_rfl) (fun _ _ _ h => h) (Or.inl ⟨by rfl, ?_⟩) ?_ ?_
            rotate_left
            · intro w'
              go_simp
              with_reducible rfl
            rotate_left
            · simp only [Act.put, List.setIfInBounds_toArray, List.set_cons_zero, List.set_cons_succ, i64_w, i32_w]
              rfl
            refine pure_ (i := 5) (N := some 154) (v := ?_) (a' := ?_) #[true, true, true, true, true, true, false, false, false, false, false, false, false, false, false, false] rfl rfl (by kernel_rfl) (fun _ _ _ h => h) (Or.inl ⟨by rfl, ?_⟩) ?_ ?_
            rotate_left
            · intro w'
              go_simp
              with_reducible rfl
            rotate_left
            · simp only [Act.put, List.setIfInBounds_toArray, List.set_cons_zero, List.set_cons_succ, i64_w, i32_w]
              rfl
            refine pure_ (i := 6) (N := some 155) (v := ?_) (a' := ?_) #[true, true, true, true, true, true, true, false, false, false, false, false, false, false, false, false] rfl rfl (by kernel_rfl) (fun _ _ _ h => h) (Or.inl ⟨by rfl, ?_⟩) ?_ ?_
            rotate_left
            · intro w'
              go_simp
              with_reducible rfl
            rotate_left
            · simp only [Act.put, List.setIfInBounds_toArray, List.set_cons_zero, List.set_cons_succ, i64_w, i32_w]
              rfl
            refine pure_ (i := 7) (N := some 156) (v := ?_) (a' := ?_) #[true, true, true, true, true, true, true, true, false, false, false, false, false, false, false, false] rfl rfl (by kernel_rfl) (fun _ _ _ h => h) (Or.inl ⟨by rfl, ?_⟩) ?_ ?_
            rotate_left
            · intro w'
              go_simp
              with_reducible rfl
            rotate_left
            · simp only [Act.put, List.setIfInBounds_toArray, List.set_cons_zero, List.set_cons_succ, i64_w, i32_w]
              rfl
            refine pure_ (i := 9) (N := some 158) (v := ?_) (a' := ?_) #[true, true, true, true, true, true, true, true, false, true, false, false, false, false, false, false] rfl rfl (by kernel_rfl) (fun _ _ _ h => h) (Or.inl ⟨by rfl, ?_⟩) ?_ ?_
            rotate_left
            · intro w'
              go_simp
              with_reducible rfl
            rotate_left
            · simp only [Act.put, List.setIfInBounds_toArray, List.set_cons_zero, List.set_cons_succ, i64_w, i32_w]
              rfl
            refine pure_ (i := 10) (N := some 159) (v := ?_) (a' := ?_) #[true, true, true, true, true, true, true, true, false, true, true, false, false, false, false, false] rfl rfl (by kernel_rfl) (fun _ _ _ h => h) (Or.inl ⟨by rfl, ?_⟩) ?_ ?_
            rotate_left
            · intro w'
              go_simp
              with_reducible rfl
            rotate_left
            · simp only [Act.put, List.setIfInBounds_toArray, List.set_cons_zero, List.set_cons_succ, i64_w, i32_w]
              rfl
            refine pure_ (i := 11) (N := some 160) (v := ?_) (a' := ?_) #[true, true, true, true, true, true, true, true, false, true, true, true, false, false, false, false] rfl rfl (by kernel_rfl) (fun _ _ _ h => h) (Or.inl ⟨by rfl, ?_⟩) ?_ ?_
            rotate_left
            · intro w'
              go_simp
              with_reducible rfl
            rotate_left
            · simp only [Act.put, List.setIfInBounds_toArray, List.set_cons_zero, List.set_cons_succ, i64_w, i32_w]
              rfl
            refine take_ (i := 12) (N := some 161) (v := ?_) (a' := ?_) #[true, true, true, true, true, true, true, true, false, true, true, true, true, false, false, false] rfl rfl (by kernel_rfl) (fun _ _ _ h => h) (Or.inl ⟨by rfl, ?_⟩) hHeld ?_ ?_
            rotate_left
            · rintro w' s0
              go_simp
              with_reducible rfl
            rotate_left
            · simp only [Act.put, List.setIfInBounds_toArray, List.set_cons_zero, List.set_cons_succ, i64_w, i32_w]
              rfl
            refine pure_ (i := 13) (N := some 162) (v := ?_) (a' := ?_) #[true, true, true, true, true, true, true, true, false, true, true, true, true, true, false, false] rfl rfl (by kernel_rfl) (fun _ _ _ h => h) (Or.inl ⟨by rfl, ?_⟩) ?_ ?_
            rotate_left
            · intro w'
              go_simp
              with_reducible rfl
            rotate_left
            · simp only [Act.put, List.setIfInBounds_toArray, List.set_cons_zero, List.set_cons_succ, i64_w, i32_w]
              rfl
            refine one_ (i := 8) (N := some 157) #[true, true, true, true, true, true, true, true, true, true, true, true, true, true, false, false] rfl rfl (by kernel_rfl) (by decide) (fun K hK => ?_)
            refine goes_ Try.func20 (by kernel_rfl) rfl #[.pointer (some ⟨lb, 0, none⟩)] (by rfl) rfl rfl (by (try simp only [List.map_toArray, List.map_cons, List.map_nil]); first | done | rfl) ?_
            refine hln.mono ?_
            rintro e w14 ⟨he, hB14⟩
            subst he
            refine ⟨_, rfl, ?_⟩
            refine hK.out _ _ (hrdX _ hB14) (fun hHeld => ?_)
            clear hK K
            refine norm_ (a' := ?_) ?_ ?_
            rotate_left
            · show Act.put _ (some 157) _ = _
              simp only [Act.put, List.setIfInBounds_toArray, List.set_cons_zero, List.set_cons_succ, i64_w, i32_w]
              rfl
            refine pure_ (i := 14) (N := some 163) (v := ?_) (a' := ?_) #[true, true, true, true, true, true, true, true, true, true, true, true, true, true, true, false] rfl rfl (by kernel_rfl) (fun _ _ _ h => h) (Or.inl ⟨by rfl, ?_⟩) ?_ ?_
            rotate_left
            · intro w'
              go_simp
              with_reducible rfl
            rotate_left
            · simp only [Act.put, List.setIfInBounds_toArray, List.set_cons_zero, List.set_cons_succ, i64_w, i32_w]
              rfl
            refine pure_ (i := 15) (N := some 164) (v := ?_) (a' := ?_) #[true, true, true, true, true, true, true, true, true, true, true, true, true, true, true, true] rfl rfl (by kernel_rfl) (fun _ _ _ h => h) (Or.inl ⟨by rfl, ?_⟩) ?_ ?_
            rotate_left
            · intro w'
              go_simp
              with_reducible rfl
            rotate_left
            · simp only [Act.put, List.setIfInBounds_toArray, List.set_cons_zero, List.set_cons_succ, i64_w, i32_w]
              rfl
            refine done_ (by kernel_rfl) ?_
            have hB14' := below_step hB13 hB14
            go_upto_block 4 with (fail)
            have hB14w : Below w6.heap.size w6 w14 := below_step hB7 hB14'
            have hblk := srow_blk hV7
            generalize (laneO a2 l1).length = n at hblk hc7 hn6 ⊢
            have hblk14 : n = 0 ∨ ∃ g cur, A7 = some ⟨g, 0, none⟩ ∧ w6.heap.size ≤ g ∧ w14.heap[g]? = some (.cells cur 9 (0, 0)) ∧ n ≤ cur.size := by
              rcases hblk with h | ⟨g, cur, h1, h2, h3, h4⟩
              · exact .inl h
              · exact .inr ⟨g, cur, h1, h2, (hB14'.block g (Array.getElem?_eq_some_iff.1 h3).1).trans h3, h4⟩
            clear hblk hV7 hB14' hB13 hB14 hB7 hrd hrdX hHeld
            go_wp2
            rcases hblk14 with hn0 | ⟨g, cur, rfl, hg, hcur, hnc⟩
            · subst hn0
              go_loopg [27] 1 (fun gg v27 wr => v27 = .int .i64 0 ∧ wr = w14)
              case atStart => exact ⟨rfl, rfl⟩
              case round =>
                obtain ⟨rfl, hwr⟩ := hrel
                subst hwr
                have hSe := hS6.below hB14w
                have hRe := hR6.below hB14w
                rw [hl1'.out] at hSe hRe
                have hBew := below_step hB6w hB14w
                go_wp2
                go_roundg (150 - (i + 1))
                case measure => omega
                case rel => exact ⟨i + 1, by omega, by omega, Nat.le_refl _, by go_num, hSe, hRe, hBew⟩
            · go_loopg [27] n (fun gg v27 wr => ∃ (j : Nat) (cur : Array Value), j ≤ n ∧ n - j ≤ gg ∧ v27 = .int .i64 j ∧ wr.heap[g]? = some (.cells cur 9 (0, 0)) ∧ n ≤ cur.size ∧ Below w6.heap.size w6 wr)
              case atStart => exact ⟨0, cur, Nat.zero_le _, Nat.le_refl _, rfl, hcur, hnc, hB14w⟩
              case round =>
                clear hcur hnc hB14w
                obtain ⟨j, cur, hjn, hjg, rfl, hcur, hnc, hBj⟩ := hrel
                by_cases hjt : j < n
                · have hjtz : (j : Int) < (n : Int) := by omega
                  have hcj : wr.cell? ⟨g, j, none⟩ = some (cur[j]'(by omega)) := by
                    rw [cell_of_row _ _ _ _ _ _ hcur]
                    exact Array.getElem?_eq_getElem _
                  have hfj : wr.frozen? ⟨g, j, none⟩ = false := blk_frozen hcur _
                  generalize cur[j]'(by omega) = cj at hcj
                  have hcur2 := blk_set hcur j (.string ⟨#[63]⟩)
                  have hBj2 : Below w6.heap.size w6 (wr.setCell ⟨g, j, none⟩ (.string ⟨#[63]⟩)) := hBj.setCell (p := ⟨g, j, none⟩) hg _
                  go_wp2
                  go_roundg (n - (j + 1))
                  case measure => omega
                  case rel => exact ⟨j + 1, _, by omega, Nat.le_refl _, by go_num, hcur2, by rw [Array.size_setIfInBounds]; exact hnc, hBj2⟩
                · have hjtz : ¬ (j : Int) < (n : Int) := by omega
                  have hSe := hS6.below hBj
                  have hRe := hR6.below hBj
                  rw [hl1'.out] at hSe hRe
                  have hBew := below_step hB6w hBj
                  go_wp2
                  go_roundg (150 - (i + 1))
                  case measure => omega
                  case rel => exact ⟨i + 1, by omega, by omega, Nat.le_refl _, by go_num, hSe, hRe, hBew⟩
        · have h8 : decide ((i : Int) < 150) = false := decide_eq_false (by omega)
          go_wp2
          go_meet
          case rel => exact hB
      · have hltz : ¬ (i : Int) < (l0.length : Int) := by omega
        go_wp2
        go_meet
        case rel => exact hB
  case rest =>
    go_wp2
    go_ret
    exact ⟨rfl, hcut⟩
end Go.Proofs.Ytdeiaicplcpbeaa.Pure
