/- Seek from nothing on, and from behind each key on, goes through all keys in their order (at most 100 puts): for all arguments that the row lets in. -/
import Derived.Test.YtdeiaicplcpbeaaSkipFacts
namespace Go.Proofs.Ytdeiaicplcpbeaa.Pure
open Go.RowKit Go.Proofs.Ytdeiaicplcpbeaa.Print Go.Proofs.YtdeiaicplcpbeaaX Go.Proofs.YtdeiaicplcpbeaaW.PrintWords Go.Proofs.YtdeiaicplcpbeaaW.PrintLast Go.Proofs.YtdeiaicplcpbeaaW.PrintMore
set_option linter.unusedVariables false
set_option linter.unusedSimpArgs false

abbrev Pt := S31
set_option maxHeartbeats 4000000 in
set_option maxRecDepth 100000 in
theorem skipSeeksWalk (A0 : Option Addr) (c0 : Nat) (l0 : List Pt) (w : World) (hr0 : Kd.C k31 w A0 l0.length l0) (hc0 : l0.length ≤ c0)
    (v0 : l0.length ≤ maxLen ∧ l0.length * 40 ≤ 140737488351232 ∧ ∀ x ∈ l0, V31 x) :
    Calls Try.prog 6 #[.slice A0 l0.length c0] w fun e w' => e = .returned (.bool true) ∧ Below w.heap.size w w' := by
  have hex := examples_calls w
  have hlen : l0.length ≤ 1000000000000000 := by have := v0.2.1; omega
  have hK : ∀ x ∈ l0, x.f0.size ≤ 140737488351232 := fun x hx => (v0.2.2 x hx).1
  go_enter Try.func6, Try.ntmps6
  go_upto_block 0 with (first
    | (go_at_call 7; refine hex.mono ?_; clear hex; rintro e w1 ⟨he, hB1⟩; subst he)
    | (go_at_call 8; refine (new_as w1).mono ?_; rintro e w2 ⟨lb, he, hS2, hB2⟩; subst he))
  have hBw2 := below_step hB1 hB2
  have hS2w : LS w.heap.size w2 lb [] := by obtain ⟨L, h1, h2, h3⟩ := hS2; exact ⟨L, h1, fun b hb => Nat.le_trans hB1.size (h2 b hb), h3⟩
  go_cut [5] (fun v5 wc => ∃ (n : Nat), n ≤ l0.length ∧ n ≤ 100 ∧ LS w.heap.size wc lb (playO (l0.take n)) ∧ Below w.heap.size w wc)
  case first =>
    go_wp2
    go_loopg [5] 100 (fun gg v5 wr => ∃ (i : Nat), i ≤ l0.length ∧ i ≤ 100 ∧ 100 - i ≤ gg ∧ v5 = .int .i64 i ∧ LS w.heap.size wr lb (playO (l0.take i)) ∧ Below w.heap.size w wr)
    case atStart => exact ⟨0, Nat.zero_le _, by decide, Nat.le_refl _, rfl, hS2w, hBw2⟩
    case round =>
      clear hS2 hS2w hB1 hB2 hBw2
      obtain ⟨i, hil, hi1, hig, rfl, hS, hB⟩ := hrel
      by_cases hlt : i < l0.length
      · have hltz : (i : Int) < (l0.length : Int) := by omega
        by_cases hlt8 : i < 100
        · have h8 : decide ((i : Int) < 100) = true := decide_eq_true (by omega)
          obtain ⟨ad, hA, hx0, hx1, hx2⟩ := at_T31 (Kd.C_below hr0 hB) (i : Int) (by omega) hltz
          subst hA
          rw [Int.toNat_natCast] at hx0 hx1 hx2
          have hrd : rd_T31 l0 (i : Int) = l0[i] := by unfold rd_T31; rw [Int.toNat_natCast, List.getD_eq_getElem?_getD, List.getElem?_eq_getElem hlt]; rfl
          have hpl : (playO (l0.take i)).length ≤ 1000000 := Nat.le_trans (playO_len _) (by rw [List.length_take]; omega)
          have hnx := playO_take l0 i hlt
          rw [hrd] at hx0 hx1 hx2
          generalize l0[i] = p at hx0 hx1 hx2 hnx
          go_upto_region 8 with (fail)
          have hD : Below wr.heap.size wr wr.drew := below_drew1 (Below.refl _ _)
          have hSd := hS.below hD
          have hBd := below_step hB hD
          refine start_ (S := fun w' => w'.cell? (ad.add (i * 3)) = some (.string p.f0) ∧ w'.cell? ⟨(ad.add (i * 3)).block, (ad.add (i * 3)).off + 1, none⟩ = some (.string p.f1) ∧ w'.cell? ⟨(ad.add (i * 3)).block, (ad.add (i * 3)).off + 2, none⟩ = some (.int .i64 p.f2)) (ds := [16]) #[false, false, false, false, false, false, false, false, false, false, false, false, false, false, false, false, false] (by kernel_rfl) rfl rfl ⟨hx0, hx1, hx2⟩ ?_
          intro hHeld
          generalize wr.drew = Wd at hSd hBd hHeld ⊢
          refine pure_ (i := 0) (N := some 31) (v := ?_) (a' := ?_) #[true, false, false, false, false, false, false, false, false, false, false, false, false, false, false, false, false] rfl rfl (by kernel_rfl) (fun _ _ _ h => h) (Or.inl ⟨by rfl, ?_⟩) ?_ ?_
          rotate_left
          · intro w'
            go_simp
            with_reducible rfl
          rotate_left
          · simp only [Act.put, List.setIfInBounds_toArray, List.set_cons_zero, List.set_cons_succ, i64_w, i32_w]
            rfl
          refine pure_ (i := 1) (N := some 32) (v := ?_) (a' := ?_) #[true, true, false, false, false, false, false, false, false, false, false, false, false, false, false, false, false] rfl rfl (by kernel_rfl) (fun _ _ _ h => h) (Or.inl ⟨by rfl, ?_⟩) ?_ ?_
          rotate_left
          · intro w'
            go_simp
            with_reducible rfl
          rotate_left
          · simp only [Act.put, List.setIfInBounds_toArray, List.set_cons_zero, List.set_cons_succ, i64_w, i32_w]
            rfl
          refine pure_ (i := 2) (N := some 33) (v := ?_) (a' := ?_) #[true, true, true, false, false, false, false, false, false, false, false, false, false, false, false, false, false] rfl rfl (by kernel_rfl) (fun _ _ _ h => h) (Or.inl ⟨by rfl, ?_⟩) ?_ ?_
          rotate_left
          · intro w'
            go_simp
            with_reducible rfl
          rotate_left
          · simp only [Act.put, List.setIfInBounds_toArray, List.set_cons_zero, List.set_cons_succ, i64_w, i32_w]
            rfl
          refine pure_ (i := 3) (N := some 34) (v := ?_) (a' := ?_) #[true, true, true, true, false, false, false, false, false, false, false, false, false, false, false, false, false] rfl rfl (by kernel_rfl) (fun _ _ _ h => h) (Or.inl ⟨by rfl, ?_⟩) ?_ ?_
          rotate_left
          · intro w'
            go_simp
            with_reducible rfl
          rotate_left
          · simp only [Act.put, List.setIfInBounds_toArray, List.set_cons_zero, List.set_cons_succ, i64_w, i32_w]
            rfl
          refine pure_ (i := 4) (N := some 35) (v := ?_) (a' := ?_) #[true, true, true, true, true, false, false, false, false, false, false, false, false, false, false, false, false] rfl rfl (by kernel_rfl) (fun _ _ _ h => h) (Or.inl ⟨by rfl, ?_⟩) ?_ ?_
          rotate_left
          · intro w'
            go_simp
            with_reducible rfl
          rotate_left
          · simp only [Act.put, List.setIfInBounds_toArray, List.set_cons_zero, List.set_cons_succ, i64_w, i32_w]
            rfl
          refine take_ (i := 5) (N := some 36) (v := ?_) (a' := ?_) #[true, true, true, true, true, true, false, false, false, false, false, false, false, false, false, false, false] rfl rfl (by kernel_rfl) (fun _ _ _ h => h) (Or.inl ⟨by rfl, ?_⟩) hHeld ?_ ?_
          rotate_left
          · rintro w' ⟨s0, s1, s2⟩
            go_simp
            with_reducible rfl
          rotate_left
          · simp only [Act.put, List.setIfInBounds_toArray, List.set_cons_zero, List.set_cons_succ, i64_w, i32_w]
            rfl
          refine pure_ (i := 6) (N := some 37) (v := ?_) (a' := ?_) #[true, true, true, true, true, true, true, false, false, false, false, false, false, false, false, false, false] rfl rfl (by kernel_rfl) (fun _ _ _ h => h) (Or.inl ⟨by rfl, ?_⟩) ?_ ?_
          rotate_left
          · intro w'
            go_simp
            with_reducible rfl
          rotate_left
          · simp only [Act.put, List.setIfInBounds_toArray, List.set_cons_zero, List.set_cons_succ, i64_w, i32_w]
            rfl
          refine pure_ (i := 7) (N := some 38) (v := ?_) (a' := ?_) #[true, true, true, true, true, true, true, true, false, false, false, false, false, false, false, false, false] rfl rfl (by kernel_rfl) (fun _ _ _ h => h) (Or.inl ⟨by rfl, ?_⟩) ?_ ?_
          rotate_left
          · intro w'
            go_simp
            with_reducible rfl
          rotate_left
          · simp only [Act.put, List.setIfInBounds_toArray, List.set_cons_zero, List.set_cons_succ, i64_w, i32_w]
            rfl
          refine pure_ (i := 8) (N := some 39) (v := ?_) (a' := ?_) #[true, true, true, true, true, true, true, true, true, false, false, false, false, false, false, false, false] rfl rfl (by kernel_rfl) (fun _ _ _ h => h) (Or.inl ⟨by rfl, ?_⟩) ?_ ?_
          rotate_left
          · intro w'
            go_simp
            with_reducible rfl
          rotate_left
          · simp only [Act.put, List.setIfInBounds_toArray, List.set_cons_zero, List.set_cons_succ, i64_w, i32_w]
            rfl
          refine pure_ (i := 9) (N := some 40) (v := ?_) (a' := ?_) #[true, true, true, true, true, true, true, true, true, true, false, false, false, false, false, false, false] rfl rfl (by kernel_rfl) (fun _ _ _ h => h) (Or.inl ⟨by rfl, ?_⟩) ?_ ?_
          rotate_left
          · intro w'
            go_simp
            with_reducible rfl
          rotate_left
          · simp only [Act.put, List.setIfInBounds_toArray, List.set_cons_zero, List.set_cons_succ, i64_w, i32_w]
            rfl
          refine take_ (i := 10) (N := some 41) (v := ?_) (a' := ?_) #[true, true, true, true, true, true, true, true, true, true, true, false, false, false, false, false, false] rfl rfl (by kernel_rfl) (fun _ _ _ h => h) (Or.inl ⟨by rfl, ?_⟩) hHeld ?_ ?_
          rotate_left
          · rintro w' ⟨s0, s1, s2⟩
            go_simp
            with_reducible rfl
          rotate_left
          · simp only [Act.put, List.setIfInBounds_toArray, List.set_cons_zero, List.set_cons_succ, i64_w, i32_w]
            rfl
          refine pure_ (i := 11) (N := some 42) (v := ?_) (a' := ?_) #[true, true, true, true, true, true, true, true, true, true, true, true, false, false, false, false, false] rfl rfl (by kernel_rfl) (fun _ _ _ h => h) (Or.inl ⟨by rfl, ?_⟩) ?_ ?_
          rotate_left
          · intro w'
            go_simp
            with_reducible rfl
          rotate_left
          · simp only [Act.put, List.setIfInBounds_toArray, List.set_cons_zero, List.set_cons_succ, i64_w, i32_w]
            rfl
          refine pure_ (i := 12) (N := some 43) (v := ?_) (a' := ?_) #[true, true, true, true, true, true, true, true, true, true, true, true, true, false, false, false, false] rfl rfl (by kernel_rfl) (fun _ _ _ h => h) (Or.inl ⟨by rfl, ?_⟩) ?_ ?_
          rotate_left
          · intro w'
            go_simp
            with_reducible rfl
          rotate_left
          · simp only [Act.put, List.setIfInBounds_toArray, List.set_cons_zero, List.set_cons_succ, i64_w, i32_w]
            rfl
          refine pure_ (i := 13) (N := some 44) (v := ?_) (a' := ?_) #[true, true, true, true, true, true, true, true, true, true, true, true, true, true, false, false, false] rfl rfl (by kernel_rfl) (fun _ _ _ h => h) (Or.inl ⟨by rfl, ?_⟩) ?_ ?_
          rotate_left
          · intro w'
            go_simp
            with_reducible rfl
          rotate_left
          · simp only [Act.put, List.setIfInBounds_toArray, List.set_cons_zero, List.set_cons_succ, i64_w, i32_w]
            rfl
          refine pure_ (i := 14) (N := some 45) (v := ?_) (a' := ?_) #[true, true, true, true, true, true, true, true, true, true, true, true, true, true, true, false, false] rfl rfl (by kernel_rfl) (fun _ _ _ h => h) (Or.inl ⟨by rfl, ?_⟩) ?_ ?_
          rotate_left
          · intro w'
            go_simp
            with_reducible rfl
          rotate_left
          · simp only [Act.put, List.setIfInBounds_toArray, List.set_cons_zero, List.set_cons_succ, i64_w, i32_w]
            rfl
          refine take_ (i := 15) (N := some 46) (v := ?_) (a' := ?_) #[true, true, true, true, true, true, true, true, true, true, true, true, true, true, true, true, false] rfl rfl (by kernel_rfl) (fun _ _ _ h => h) (Or.inl ⟨by rfl, ?_⟩) hHeld ?_ ?_
          rotate_left
          · rintro w' ⟨s0, s1, s2⟩
            go_simp
            with_reducible rfl
          rotate_left
          · simp only [Act.put, List.setIfInBounds_toArray, List.set_cons_zero, List.set_cons_succ, i64_w, i32_w]
            rfl
          refine last_ (i := 16) (N := some 47) #[true, true, true, true, true, true, true, true, true, true, true, true, true, true, true, true, true] rfl rfl (by kernel_rfl) (by decide) (fun K hK => ?_)
          refine goes_ Try.func9 (by kernel_rfl) rfl #[.pointer (some ⟨lb, 0, none⟩), .string p.f0, .string p.f1, .int .i64 p.f2] (by rfl) rfl rfl (by (try simp only [List.map_toArray, List.map_cons, List.map_nil]); first | done | rfl) ?_
          refine (put_as w.heap.size lb _ p.f0 p.f1 p.f2 Wd hSd hpl).mono ?_
          rintro e w9 ⟨he, hS9, hB9⟩
          subst he
          refine ⟨_, rfl, ?_⟩
          refine hK.out _ _ ?_
          clear hK K
          refine norm_ (a' := ?_) ?_ ?_
          rotate_left
          · show Act.put _ (some 47) _ = _
            simp only [Act.put, List.setIfInBounds_toArray, List.set_cons_zero, List.set_cons_succ, i64_w, i32_w]
            rfl
          refine done_ (by kernel_rfl) ?_
          rw [← hnx] at hS9
          go_wp2
          go_roundg (100 - (i + 1))
          case measure => omega
          case rel => exact ⟨i + 1, by omega, by omega, Nat.le_refl _, by go_num, hS9, hBd.trans hB9⟩
        · have h8 : decide ((i : Int) < 100) = false := decide_eq_false (by omega)
          go_wp2
          go_meet
          case rel => exact ⟨i, hil, hi1, hS, hB⟩
      · have hltz : ¬ (i : Int) < (l0.length : Int) := by omega
        go_wp2
        go_meet
        case rel => exact ⟨i, hil, hi1, hS, hB⟩
  case rest =>
    obtain ⟨n, hn1, hn2, hS, hB⟩ := hcut
    have hkz : ∀ x ∈ playO (l0.take n), x.1.size ≤ 140737488351232 := fun x hx => by
      obtain ⟨p, hp, hpe⟩ := playO_keys _ x hx
      rw [← hpe]
      exact hK p (List.mem_of_mem_take hp)
    have hpl : (playO (l0.take n)).length ≤ 100 := Nat.le_trans (playO_len _) (by rw [List.length_take]; omega)
    generalize playO (l0.take n) = l at hS hkz hpl
    have hG := hS.good
    clear hS2 hS2w hB1 hB2 hBw2 hr0 hc0 v0 hK hlen hn1 hn2
    have hla := lane_as (h := 0) hS (by omega)
    rw [lane0 hG] at hla
    go_upto_block 2 with (go_at_call 17; refine hla.mono ?_; rintro e w3 ⟨v6, he, hR3, hB3⟩; subst he)
    obtain ⟨A, c, rfl, hc, hC⟩ := hR3.reads
    rw [List.length_map] at hc hC ⊢
    have hS3 := hS.below hB3
    have hB3w := below_step hB hB3
    clear hR3 hla hS hB hB3
    go_cut [7] (fun v7 wd => v7 = .string (atO l l.length) ∧ Below w3.heap.size w3 wd)
    case first =>
      go_wp2
      go_loopg [7, 8] l.length (fun gg v7 v8 wr => ∃ (i : Nat), i ≤ l.length ∧ l.length - i ≤ gg ∧ v7 = .string (atO l i) ∧ v8 = .int .i64 i ∧ Below w3.heap.size w3 wr)
      case atStart => exact ⟨0, Nat.zero_le _, Nat.le_refl _, rfl, rfl, Below.refl _ _⟩
      case round =>
        obtain ⟨i, hil, hig, rfl, rfl, hB⟩ := hrel
        by_cases hlt : i < l.length
        · have hltz : (i : Int) < (l.length : Int) := by omega
          have hSr := hS3.below hB
          have hsk := seek_as (key := atO l i) hSr
          rw [seekO_at hG i hlt] at hsk
          have hgt := fun (W : World) (hW : LS w.heap.size W lb l) => get_as (w := W) (key := l[i].1) hW
          simp only [getO_at hG i hlt] at hgt
          obtain ⟨ad, hA, hx⟩ := Kd.at_string hC (i : Int) (by omega) hltz
          subst hA
          rw [Int.toNat_natCast] at hx
          have hrd : rdOf ByteArray.empty (l.map (·.1)) (i : Int) = l[i].1 := by
            unfold rdOf; rw [Int.toNat_natCast, List.getD_eq_getElem?_getD, List.getElem?_map, List.getElem?_eq_getElem hlt]; rfl
          rw [hrd] at hx
          have hxs := hkz l[i] (List.getElem_mem hlt)
          have hat := atO_succ hlt
          dsimp only at hsk hgt
          generalize l[i] = x at hsk hgt hx hxs hat
          have hne : (x.1.toList != x.1.toList) = false := by simp
          have hne2 : (x.2.1.toList != x.2.1.toList) = false := by simp
          go_upto_region 15 with (go_at_call 13; refine hsk.mono ?_; rintro e w4 ⟨he, hB4⟩; subst he)
          go_upto_region 16 with (go_at_call 11; refine (hgt _ (hSr.below hB4)).mono ?_; rintro e w5 ⟨he, hB5⟩; subst he)
          have hBr := below_step (below_step hB hB4) hB5
          have hx5 := (hBr.cell (World.block_lt_of_cell? _ _ hx)).trans hx
          go_wp2
          go_roundg (l.length - (i + 1))
          case measure => omega
          case rel => exact ⟨i + 1, by omega, Nat.le_refl _, by rw [hat], by go_num, hBr⟩
        · have hltz : ¬ (i : Int) < (l.length : Int) := by omega
          obtain rfl : i = l.length := by omega
          go_wp2
          go_meet
          case rel => exact ⟨rfl, hB⟩
    case rest =>
      obtain ⟨rfl, hB⟩ := hcut
      have hSr := hS3.below hB
      have hsk := seek_as (key := atO l l.length) hSr
      have hse := seekO_end hG
      generalize seekO (atO l l.length) l = z at hsk hse
      obtain ⟨z1, z2, z3⟩ := z
      dsimp only at hse hsk
      subst hse
      go_wp2_with (first
        | (go_at_call 13; refine hsk.mono ?_; clear hsk; rintro e w4 ⟨he, hB4⟩; subst he)
        | (go_at_call 20; refine (len_as (hSr.below hB4)).mono ?_; rintro e w5 ⟨he, hB5⟩; subst he))
      go_ret
      exact ⟨rfl, below_step (below_step (below_step hB3w hB) hB4) hB5⟩
end Go.Proofs.Ytdeiaicplcpbeaa.Pure
