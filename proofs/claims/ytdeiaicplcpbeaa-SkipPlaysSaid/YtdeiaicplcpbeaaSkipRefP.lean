import Derived.Test.YtdeiaicplcpbeaaSkipRefG
namespace Go.Proofs.Ytdeiaicplcpbeaa.Print
open Go.RowKit Go.Proofs.YtdeiaicplcpbeaaX Go.Proofs.YtdeiaicplcpbeaaW.PrintWords Go.Proofs.YtdeiaicplcpbeaaW.PrintLast Go.Proofs.YtdeiaicplcpbeaaW.PrintMore
set_option linter.unusedVariables false
set_option linter.unusedSimpArgs false

theorem infoO_ : (Try.prog.info? 55).map (fun i => (i.zero, i.size, i.bytes)) = some (some (.agg #[.string (⟨#[]⟩ : ByteArray), .string (⟨#[]⟩ : ByteArray), .int .i64 0]), 3, 40) := by kernel_rfl
theorem set_at {key val : ByteArray} {l : List One} {z : One} (hG : GoodO l) (hf : findO key l = some z) : l.map (setO key val) = l.set (lessO key l).length (z.1, val, z.2.2) := by
  obtain ⟨hlt, hz⟩ := find_some0 hf
  have hk : z.1.toList = key.toList := by
    rw [find_at0 hlt] at hf
    split at hf
    · obtain rfl := Option.some.inj hf; assumption
    · cases hf
  apply List.ext_getElem?
  intro i
  rw [List.getElem?_map, List.getElem?_set]
  by_cases hi : i < l.length
  · rw [List.getElem?_eq_getElem hi, Option.map_some]
    by_cases c : (lessO key l).length = i
    · subst c
      rw [if_pos rfl, if_pos hlt, hz]
      unfold setO; rw [if_pos hk]
    · rw [if_neg c]
      unfold setO
      rw [if_neg]
      intro e
      have hs := List.pairwise_iff_getElem.1 hG.sorted
      have hzk : l[i].1.toList = l[(lessO key l).length].1.toList := by rw [hz, e, hk]
      rcases Nat.lt_or_gt_of_ne c with c1 | c1
      · exact bless_ne (hs _ _ hlt hi c1) hzk.symm
      · exact bless_ne (hs _ _ hi hlt c1) hzk
  · rw [List.getElem?_eq_none (by omega)]
    by_cases c : (lessO key l).length = i
    · exact absurd hlt (by omega)
    · rw [if_neg c, Option.map_none]
theorem less_take (key : ByteArray) (l : List One) : lessO key l = l.take (lessO key l).length := by
  conv => rhs; rw [← sp_O key l]
  have : (lessO key (lessO key l ++ moreO key l)) = lessO key l := by rw [sp_O]
  rw [this, List.take_left]
theorem more_drop (key : ByteArray) (l : List One) : moreO key l = l.drop (lessO key l).length := by
  conv => rhs; rw [← sp_O key l]
  have : (lessO key (lessO key l ++ moreO key l)) = lessO key l := by rw [sp_O]
  rw [this, List.drop_left]
theorem hgt_m {h : Int} {m1 m : Nat} (h1 : (if h < 1 then 1 else h) = (m1 : Int)) (h2 : (if (12 : Int) < (m1 : Int) then 12 else (m1 : Int)) = (m : Int)) : hgt h = m := by
  unfold hgt
  split at h1 <;> split at h2 <;> omega
set_option maxHeartbeats 4000000 in
set_option maxRecDepth 100000 in
theorem rput_calls {n0 rb : Nat} {l : List One} (key val : ByteArray) (h : Int) {w : World} (hR : RL n0 w rb l) (hG : GoodO l) (hl : l.length ≤ 1000000) :
    Calls Try.prog 10 #[.pointer (some ⟨rb, 0, none⟩), .string key, .string val, .int .i64 h] w fun e w' => e = .returned (.bool (findO key l).isNone) ∧ RL n0 w' rb (putO key val h l) ∧ FrT TR w w' ∧ Below n0 w w' := by
  have ha := at_calls (key := key) hR hl
  unfold putO
  cases hf : findO key l with
  | some z =>
    rw [hf] at ha
    dsimp only [Option.isSome, Option.isNone] at ha ⊢
    obtain ⟨hlt, hz⟩ := find_some0 hf
    rw [set_at hG hf]
    generalize (lessO key l).length = k at ha hlt hz ⊢
    have hltz : (k : Int) < (l.length : Int) := by omega
    go_enter Try.func10, Try.ntmps10
    go_upto_region 3 with (go_at_call 22; refine ha.mono ?_; rintro e w1 ⟨he, hB1⟩; subst he)
    have hR1 := hR.below hB1
    obtain ⟨v, hbx, hnr, hO⟩ := id hR1
    have hg := hO.2
    obtain ⟨g, cap, cur, hv, hng, hgb, hnc⟩ : ∃ (g cap : Nat) (cur : Array Value), v = .slice (some ⟨g, 0, none⟩) l.length cap ∧ n0 ≤ g ∧ w1.heap[g]? = some (.cells cur 55 (0, 0)) ∧ l.length ≤ cap := by
      rcases hg with ⟨_, hn⟩ | ⟨g, cap, cur, h1, h2, h3, h4, _⟩
      · exact absurd hn (by omega)
      · exact ⟨g, cap, cur, h1, h2, h3, h4⟩
    subst hv
    clear hg
    have hR0 := hO.R (fun _ => True) (fun _ _ => trivial)
    have hgr : g ≠ rb := fun e => by
      rw [e, hbx] at hgb
      have := Option.some.inj hgb
      injection this with _ h2 _
      exact absurd h2 (by decide)
    obtain ⟨ad, c, h0, h1, h2, h3⟩ := hR1.elem k hlt
    rw [cell_of_row _ _ _ _ _ _ hbx] at h0
    have h0' : (Value.slice (some ⟨g, 0, none⟩) l.length cap) = .slice (some ad) l.length c := Option.some.inj h0
    injection h0' with h0'
    injection h0' with h0'
    subst h0'
    rw [hz] at h1 h2 h3
    have hbc : w1.cell? ⟨rb, 0, none⟩ = some (.slice (some ⟨g, 0, none⟩) l.length cap) := cell_of_row _ _ _ _ _ _ hbx
    have hcells : ∀ j u, ([.string z.1, .string z.2.1, .int .i64 (z.2.2 : Int)] : List Value)[j]? = some u → w1.cell? ⟨g, (k : Int).toNat * 3 + j, none⟩ = some u := fun j u hu => by
      rw [Int.toNat_natCast]
      match j, hu with
      | 0, hu => cases hu; have := h1; rw [addr_add] at this; simpa using this
      | 1, hu => cases hu; have := h2; rw [addr_add] at this; simpa using this
      | 2, hu => cases hu; have := h3; rw [addr_add] at this; simpa using this
      | j + 3, hu => simp at hu
    have hBn : Below n0 w w1 := hB1.mono (by have := hR.lt; omega)
    clear h0 h1 h2 h3
    have hcx : w1.cell? ⟨g, k * 3 + 1, none⟩ = some (.string z.2.1) := by have := hcells 1 _ rfl; rwa [Int.toNat_natCast] at this
    have hfz : w1.frozen? ⟨g, k * 3 + 1, none⟩ = false := blk_frozen hgb _
    obtain ⟨hrow, hgw⟩ := Kd.R_seg (d := K1) hR0 (k : Int) (by omega) hltz (seg := [.string val]) (j := 1) (okp := fun _ => False) (x' := toS (z.1, val, z.2.2)) rfl hcells (show 1 + 1 ≤ 3 by decide) (k55_mkM _ _ _ _) (fun _ h => h.elim)
    rw [Int.toNat_natCast] at hrow hgw
    have hrow' : K1.R 55 (w1.setCell ⟨g, k * 3 + 1, none⟩ (.string val)) n0 (fun _ => True) (.slice (some ⟨g, 0, none⟩) l.length cap) ((l.set k (z.1, val, z.2.2)).map toS) := by rw [List.map_set]; exact hrow
    have hgw' : w1.grownBy (w1.setCell ⟨g, k * 3 + 1, none⟩ (.string val)) (some g) := hgw
    have hfin := ORow.of (l := l.set k (z.1, val, z.2.2)) (by rw [List.map_set] at hrow' ⊢; exact hrow')
    have hbx' : (w1.setCell ⟨g, k * 3 + 1, none⟩ (.string val)).heap[rb]? = _ := (Below.heap_setCell w1 ⟨g, k * 3 + 1, none⟩ _ _ (fun e => hgr e.symm)).trans hbx
    have hB2 : Below n0 w (w1.setCell ⟨g, k * 3 + 1, none⟩ (.string val)) := hBn.setCell (p := ⟨g, k * 3 + 1, none⟩) hng _
    have hF : FrT TR w (w1.setCell ⟨g, k * 3 + 1, none⟩ (.string val)) := (FrT.below hB1).trans (fun i c t f hi ht => Below.heap_setCell w1 ⟨g, k * 3 + 1, none⟩ _ _ (fun e => by
      rw [show i = g from e, hgb] at hi
      have := Option.some.inj hi
      injection this with _ h2 _
      exact ht (h2 ▸ by decide)))
    clear hrow hgw hrow' hgw' hcells hR0 hO
    go_wp2
    go_ret
    exact ⟨rfl, ⟨_, hbx', hnr, hfin⟩, hF, hB2⟩
  | none =>
    rw [hf] at ha
    dsimp only [Option.isSome, Option.isNone] at ha ⊢
    have hle := less_le key l
    rw [more_drop key l]
    have hlt := less_take key l
    generalize hke : (lessO key l).length = k at ha hle hlt ⊢
    rw [hlt]
    clear hlt hke
    obtain ⟨m1, hmx1⟩ : ∃ m : Nat, (if h < 1 then 1 else h) = (m : Int) := ⟨(if h < 1 then 1 else h).toNat, by omega⟩
    obtain ⟨m, hmx⟩ : ∃ m : Nat, (if (12 : Int) < (m1 : Int) then 12 else (m1 : Int)) = (m : Int) := ⟨(if (12 : Int) < (m1 : Int) then 12 else (m1 : Int)).toNat, by omega⟩
    have hhg : hgt h = m := hgt_m hmx1 hmx
    rw [hhg]
    clear hhg
    have hlez : (k : Int) ≤ (l.length : Int) := by omega
    go_enter Try.func10, Try.ntmps10
    go_upto_region 6 with (go_at_call 22; refine ha.mono ?_; rintro e w1 ⟨he, hB1⟩; subst he)
    have hR1 := hR.below hB1
    have hBn : Below n0 w w1 := hB1.mono (by have := hR.lt; obtain ⟨_, _, h9, _⟩ := hR; omega)
    have hF1 : FrT TR w w1 := FrT.below hB1
    obtain ⟨v, hbx, hnr, hO⟩ := id hR1
    obtain ⟨A, c, hrd, hfz, hc, hC⟩ := hR1.read
    have hcz : (l.length : Int) ≤ (c : Int) := by omega
    have hkcz : (k : Int) ≤ (c : Int) := by omega
    have hK : ∀ (W : World) (x : S1) cs, K1.K W x cs → K1.M W w1.heap.size (fun _ => False) x cs := fun W x cs h => by rw [k55_open h]; exact k55_mkM _ _ _ x
    have htk : (l.take k).length = k := by rw [List.length_take]; omega
    have hC1 : K1.C w1 A k ((l.take k).map toS) := by
      have h1 : k ≤ (l.map toS).length := by rw [List.length_map]; exact hle
      have h2 : K1.C w1 A (l.map toS).length (l.map toS) := by rw [List.length_map]; exact hC
      have h3 := Kd.C_take h2 h1
      rw [← List.map_take, List.length_map, htk] at h3
      exact h3
    clear ha
    go_upto_region 7 with (at_builtin; refine Kd.R_append_rows K1 (Rr := K1.K w1) (w0 := w1) w1.heap.size rfl (.tmp 27) (.tmp 33) 27 55 (.agg #[.string (⟨#[]⟩ : ByteArray), .string (⟨#[]⟩ : ByteArray), .int .i64 0]) 40 rfl Try.underlying27 infoO_ rfl (by decide) (by decide) (.slice none 0 0) ([] : List S1) ((l.take k).map toS) A k c (fun _ => True) (fun _ => False) rfl (by rfl) (Kd.R_nil _ _ _ _ _) hC1 (hK w1) (fun _ h => h.elim) (fun _ _ => trivial) (Below.refl _ _) (Nat.le_refl _) (by simp only [List.length_nil]; omega) ?_; intro v2 w2 hR2 hB2 hg2 hat2)
    have hb2 : w1.heap.size ≤ w2.heap.size := hB2.size
    go_upto_region 8 with (at_builtin; refine Kd.R_append K1 (w0 := w1) w1.heap.size rfl (.tmp 35) (.tmp 42) 27 55 (.agg #[.string (⟨#[]⟩ : ByteArray), .string (⟨#[]⟩ : ByteArray), .int .i64 0]) 40 rfl Try.underlying27 infoO_ rfl (by decide) (by decide) v2 ((l.take k).map toS) (toS (key, val, m)) [.string key, .string val, .int .i64 (m : Int)] (fun _ => True) (fun _ => False) rfl (by rfl) (k55_mkM _ _ _ _) (fun _ h => h.elim) (fun _ _ => trivial) hR2 hB2 hb2 (by rw [List.length_map, htk]; omega) ?_; intro v3 w3 hR3 hB3 hg3 hat3)
    have hC3 : K1.C w3 A l.length (l.map toS) := Kd.C_below hC hB3
    have hrd3 : w3.cell? ⟨rb, 0, none⟩ = some (.slice A l.length c) := (hB3.cell (World.block_lt_of_cell? _ _ hrd)).trans hrd
    have hfz3 : w3.frozen? ⟨rb, 0, none⟩ = false := by
      have := hB3.block rb hR1.lt
      rw [hbx] at this
      exact blk_frozen this _
    obtain ⟨i1, hi1, hj0, hj1, hj2⟩ := info_parts infoO_
    obtain ⟨A', hA'⟩ : ∃ A', A' = (if c = k then A else A.map (·.add (k * 3))) := ⟨_, rfl⟩
    have hcf : ∀ W : World, (Instr.slice 27 (.slice A l.length c) (some (.int .i64 (k : Int))) none none).run Try.prog W = .ok (.slice A' (l.length - k) (c - k)) W := by
      have := cut_from 27 55 .i64 Try.underlying27 hi1 3 hj1 A l.length c (k : Int) (by omega) hlez
      rw [Int.toNat_natCast, ← hA'] at this
      exact this
    have hdk : (l.drop k).length = l.length - k := List.length_drop
    have hCd : K1.C w3 A' (l.length - k) ((l.drop k).map toS) := by
      have h1 : k ≤ (l.map toS).length := by rw [List.length_map]; exact hle
      have h2 : K1.C w3 A (l.map toS).length (l.map toS) := by rw [List.length_map]; exact hC3
      have h3 := Kd.C_drop (c := c) h2 h1 (by rw [List.length_map]; exact hc)
      rw [← List.map_drop, List.length_map, hdk] at h3
      rw [hA']
      exact h3
    clear hA' hC hC1 hC3 hrd hfz
    have hbb3 : w1.heap.size ≤ w3.heap.size := hB3.size
    go_wp2_with (at_builtin; refine Kd.R_append_rows K1 (Rr := K1.K w3) (w0 := w1) w1.heap.size rfl (.tmp 45) (.tmp 51) 27 55 (.agg #[.string (⟨#[]⟩ : ByteArray), .string (⟨#[]⟩ : ByteArray), .int .i64 0]) 40 rfl Try.underlying27 infoO_ rfl (by decide) (by decide) v3 ((l.take k).map toS ++ [toS (key, val, m)]) ((l.drop k).map toS) A' (l.length - k) (c - k) (fun _ => True) (fun _ => False) rfl (by rfl) hR3 hCd (hK w3) (fun _ h => h.elim) (fun _ _ => trivial) hB3 hbb3 (by rw [List.length_append, List.length_map, htk, List.length_singleton]; omega) ?_; intro v4 w4 hR4 hB4 hg4 hat4; have hbx4 := (hB4.block rb hR1.lt).trans hbx; have hrd4 : w4.cell? ⟨rb, 0, none⟩ = some v := cell_of_row _ _ _ _ _ _ hbx4; have hfz4 : w4.frozen? ⟨rb, 0, none⟩ = false := blk_frozen hbx4 _; obtain ⟨A4, c4, he4, hc4, hC4⟩ := Kd.R_reads hR4; subst he4)
    go_ret
    have hn4 : ((l.take k).map toS ++ [toS (key, val, m)] ++ (l.drop k).map toS).length = k + (l.length - k + 1) := by
      rw [List.length_append, List.length_append, List.length_map, List.length_map, htk, hdk, List.length_singleton]; omega
    rw [hn4] at hR4
    have hx4 : (l.take k).map toS ++ [toS (key, val, m)] ++ (l.drop k).map toS = (l.take k ++ (key, val, m) :: l.drop k).map toS := by
      rw [List.map_append, List.map_cons, List.append_assoc]; rfl
    rw [hx4] at hR4
    have hlt := hR1.lt
    have hO4 := ORow.of (Kd.R_lower hR4 (show n0 ≤ w1.heap.size by omega))
    have hnb : some rb ≠ (Value.slice A4 (k + (l.length - k + 1)) c4).ownBlock := fun e => by
      have := Kd.R_base hR4 rb e.symm
      omega
    refine ⟨rfl, ⟨_, ?_, hnr, own_setCell (p := ⟨rb, 0, none⟩) hO4 hnb _⟩, ?_, ?_⟩
    · exact (blk_set hbx4 0 _).trans rfl
    · refine (hF1.trans (FrT.below hB4)).trans (fun i c t f hi ht => Below.heap_setCell w4 ⟨rb, 0, none⟩ _ _ (fun e => ?_))
      rw [show i = rb from e, hbx4] at hi
      have := Option.some.inj hi
      injection this with _ h2 _
      exact ht (h2 ▸ by decide)
    · exact (hBn.trans (hB4.mono (by omega))).setCell (p := ⟨rb, 0, none⟩) hnr _
end Go.Proofs.Ytdeiaicplcpbeaa.Print
