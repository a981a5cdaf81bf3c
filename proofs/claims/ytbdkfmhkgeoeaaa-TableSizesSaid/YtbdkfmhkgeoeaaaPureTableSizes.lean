/- However many entries a block has, and bits a key, a table tells the same of its entries: for all arguments that the row lets in. -/
import Derived.Test.YtbdkfmhkgeoeaaaTabC
import Derived.Test.YtbdkfmhkgeoeaaaPrint11
namespace Go.Proofs.Ytbdkfmhkgeoeaaa.Pure
open Go.RowKit Go.Proofs.Ytbdkfmhkgeoeaaa.Print Go.Proofs.YtbdkfmhkgeoeaaaX Go.Proofs.YtbdkfmhkgeoeaaaW.PrintWords Go.Proofs.YtbdkfmhkgeoeaaaW.PrintLast Go.Proofs.YtbdkfmhkgeoeaaaW.PrintMore
set_option linter.unusedVariables false
set_option linter.unusedSimpArgs false

theorem buildR_cases (l : List Ent) (m q : Int) : (buildR l m q = (⟨#[]⟩, some 1)) ∨ (1 ≤ m ∧ m ≤ 50 ∧ 1 ≤ q ∧ q ≤ 20 ∧ 0 < l.length ∧ sortedB l = true ∧ buildR l m q = (bytesT l m.toNat q.toNat, none)) := by
  by_cases h1 : m < 1 ∨ 50 < m ∨ q < 1 ∨ 20 < q
  · exact .inl (by unfold buildR; rw [if_pos h1])
  · by_cases h2 : l.length = 0 ∨ sortedB l = false
    · exact .inl (by unfold buildR; rw [if_neg h1, if_pos h2])
    · refine .inr ⟨by omega, by omega, by omega, by omega, by omega, ?_, by unfold buildR; rw [if_neg h1, if_neg h2]; rfl⟩
      cases h : sortedB l with
      | true => rfl
      | false => exact absurd (.inr h) h2
theorem entries_l0 (l : List Ent) (hl : l.length ≤ 1000000) : ∀ (d i k : Nat), i + d = l.length → d < k → palinodelaw13_entries.l0 k l l (i : Int) = some true
  | 0, i, k, hd, hk => by
    obtain ⟨k, rfl⟩ : ∃ j, k = j + 1 := ⟨k - 1, by omega⟩
    simp only [palinodelaw13_entries.l0]
    rw [if_neg (by omega)]
  | d + 1, i, k, hd, hk => by
    obtain ⟨k, rfl⟩ : ∃ j, k = j + 1 := ⟨k - 1, by omega⟩
    have ih := entries_l0 l hl d (i + 1) k (by omega) (by omega)
    simp only [palinodelaw13_entries.l0]
    rw [if_pos (by omega), if_pos (by omega), if_pos (by omega), if_neg (by simp), wrap_of _ (by omega) (by omega), show (i : Int) + 1 = ((i + 1 : Nat) : Int) by omega, ih]
theorem entries_same (l : List Ent) (hl : l.length ≤ 1000000) (k : Nat) (hk : l.length < k) : palinodelaw13_entries.f k l l = some true := by
  unfold palinodelaw13_entries.f
  rw [if_pos rfl]
  exact entries_l0 l hl l.length 0 k (by omega) hk
theorem flat_first (cs : List (List Ent)) (h0 : 0 < cs.length) (hne : 0 < cs[0].length) : gt cs.flatten 0 = gt cs[0] 0 := by
  cases cs with
  | nil => exact absurd h0 (by simp)
  | cons c cs =>
    have hc : 0 < c.length := hne
    show gt (c ++ cs.flatten) 0 = gt c 0
    unfold gt
    rw [List.getD_eq_getElem?_getD, List.getD_eq_getElem?_getD, List.getElem?_append_left hc]
theorem flat_last (cs : List (List Ent)) (n : Nat) (hn : cs.length = n + 1) (h0 : n < cs.length) (hne : 0 < cs[n].length) : gt cs.flatten (cs.flatten.length - 1) = lastE cs[n] := by
  have h := flat_take cs n h0
  rw [← hn, List.take_length] at h
  rw [h]
  generalize cs[n] = c at hne ⊢
  generalize (cs.take n).flatten = a
  unfold lastE gt
  rw [List.getD_eq_getElem?_getD, List.getD_eq_getElem?_getD, List.getElem?_append_right (by rw [List.length_append]; omega), List.length_append]
  congr 2; omega
theorem ends_calls (tb m : Nat) (l : List Ent) (fl : ByteArray) (W : World) (hm : 1 ≤ m) (hm2 : m ≤ 50) (h0 : 0 < l.length) (hl : l.length ≤ 400) (hT : TB W tb (chsF l.length m l) fl) :
    (Calls Try.prog 15 #[.pointer (some ⟨tb, 0, none⟩)] W fun e w' => ∃ v, e = .returned v ∧ Kd.R k36 36 w' W.heap.size (fun _ => True) v l ∧ Below W.heap.size W w') ∧
    (Calls Try.prog 16 #[.pointer (some ⟨tb, 0, none⟩)] W fun e w' => e = .returned (.string (gt l 0).f0) ∧ Below W.heap.size W w') ∧
    (Calls Try.prog 17 #[.pointer (some ⟨tb, 0, none⟩)] W fun e w' => e = .returned (.string (gt l (l.length - 1)).f0) ∧ Below W.heap.size W w') := by
  have hf := chs_flat m hm l.length l (Nat.le_refl _)
  have hn := chs_len m hm l.length l
  have hmm := chs_mem m hm l.length l
  generalize chsF l.length m l = cs at hT hf hn hmm
  have hn0 : 0 < cs.length := by
    cases cs with
    | nil => rw [← hf] at h0; exact absurd h0 (by simp)
    | cons c cs => simp
  obtain ⟨n, hn1⟩ : ∃ n, cs.length = n + 1 := ⟨cs.length - 1, by omega⟩
  have hlt : n < cs.length := by omega
  have hA := hmm cs[0] (List.getElem_mem _)
  have hZ := hmm cs[n] (List.getElem_mem _)
  refine ⟨?_, ?_, ?_⟩
  · have h := tall_calls tb _ _ W hT (by omega) (by rw [hf]; omega)
    rwa [hf] at h
  · have h := min_calls tb _ _ W hT hn0 hA.1
    rw [← hf, flat_first cs hn0 hA.1]
    exact h
  · have h := max_calls tb _ _ W hT n hn1 (by omega) hlt ⟨hZ.1, by omega⟩
    rw [← hf, flat_last cs n hn1 hlt hZ.1]
    exact h
set_option maxHeartbeats 4000000 in
set_option maxRecDepth 100000 in
theorem tableSizesWalk (A0 : Option Addr) (c0 : Nat) (l0 : List Ent) (a1 a2 : Int) (a3 : ByteArray) (a4 : Int) (w : World) (hr0 : Kd.C k36 w A0 l0.length l0) (hc0 : l0.length ≤ c0)
    (v0 : l0.length ≤ maxLen ∧ l0.length * 48 ≤ 140737488351232 ∧ ∀ x ∈ l0, V36 x) (v1 : (Lit.int .i64 a1).wf = true) (v2 : (Lit.int .i64 a2).wf = true) (v3 : a3.size ≤ 140737488351232) (v4 : (Lit.int .i64 a4).wf = true) :
    Calls Try.prog 6 #[.slice A0 l0.length c0, .int .i64 a1, .int .i64 a2, .string a3, .int .i64 a4] w fun e w' => e = .returned (.bool true) ∧ Below w.heap.size w w' := by
  have hu25 := Try.underlying25
  have hu48 := Try.underlying48
  have hex := examples_calls w
  obtain ⟨d, hd⟩ : ∃ d, min l0.length 100 = d := ⟨_, rfl⟩
  have hdl : d ≤ l0.length ∧ d ≤ 100 := by omega
  have hmin : min (l0.length : Int) 100 = (d : Int) := by omega
  have hmn : (if (100 : Int) < (l0.length : Int) then (100 : Int) else (l0.length : Int)) = (d : Int) := by split <;> omega
  have hCd := Kd.C_take hr0 hdl.1
  have hld : (l0.take d).length = d := by rw [List.length_take]; omega
  have hcd : d ≤ c0 := by omega
  rw [hld] at hCd
  generalize l0.take d = l at hCd hld
  have hL0 := v0.2.1
  have hl0z : d ≤ l0.length := hdl.1
  have hd2 : d ≤ 100 := hdl.2
  clear hd hdl hr0 v0
  go_enter Try.func6, Try.ntmps6
  go_upto_region 3 with (go_at_call 8; refine hex.mono ?_; clear hex; rintro e w1 ⟨rfl, b1⟩)
  have hCd1 := Kd.C_below hCd b1
  clear hmn hmin
  have hA := build_calls A0 c0 l a1 5 w1 (by rw [hld]; exact hCd1) (by rw [hld]; exact hcd) (by omega)
  have hB0 : ∀ W, Below w.heap.size w W → Calls Try.prog 9 #[.slice A0 d c0, .int .i64 a2, .int .i64 15] W fun e w' => e = .returned (.tuple #[.string (buildR l a2 15).1, errW (buildR l a2 15).2]) ∧ Below W.heap.size W w' := fun W hW => by
    have h := build_calls A0 c0 l a2 15 W (by rw [hld]; exact Kd.C_below hCd hW) (by rw [hld]; exact hcd) (by omega)
    rwa [hld] at h
  rw [hld] at hA
  rcases buildR_cases l a1 5 with hb | ⟨m1, m2, _, _, hne, hs, hb⟩
  · rw [hb] at hA
    have hA' : Calls Try.prog 9 #[.slice A0 d c0, .int .i64 a1, .int .i64 5] w1 fun e w' => e = .returned (.tuple #[.string (⟨#[]⟩ : ByteArray), .iface 48 (.int .i64 1)]) ∧ Below w1.heap.size w1 w' := hA
    clear hA hb
    generalize buildR l a2 15 = R2 at hB0
    go_upto_region 5 with (first
      | (go_at_call 9; refine hA'.mono ?_; clear hA'; rintro e w2 ⟨rfl, b2⟩; have hw2 := b1.trans (b2.mono b1.size))
      | (go_at_call 9; refine (hB0 w2 hw2).mono ?_; clear hB0; rintro e w3 ⟨rfl, b3⟩))
    go_wp2
    go_ret
    exact ⟨rfl, hw2.trans (b3.mono hw2.size)⟩
  · rw [hb] at hA
    obtain ⟨bs, hbs⟩ : ∃ b, bytesT l a1.toNat (5 : Int).toNat = b := ⟨_, rfl⟩
    have hA' : Calls Try.prog 9 #[.slice A0 d c0, .int .i64 a1, .int .i64 5] w1 fun e w' => e = .returned (.tuple #[.string bs, .nilIface]) ∧ Below w1.heap.size w1 w' := by rw [← hbs]; exact hA
    clear hA hb
    rcases buildR_cases l a2 15 with hb | ⟨m3, m4, _, _, _, _, hb⟩
    · rw [hb] at hB0
      have hB' : ∀ W, Below w.heap.size w W → Calls Try.prog 9 #[.slice A0 d c0, .int .i64 a2, .int .i64 15] W fun e w' => e = .returned (.tuple #[.string (⟨#[]⟩ : ByteArray), .iface 48 (.int .i64 1)]) ∧ Below W.heap.size W w' := hB0
      clear hB0 hb
      go_upto_region 5 with (first
        | (go_at_call 9; refine hA'.mono ?_; clear hA'; rintro e w2 ⟨rfl, b2⟩; have hw2 := b1.trans (b2.mono b1.size))
        | (go_at_call 9; refine (hB' w2 hw2).mono ?_; clear hB'; rintro e w3 ⟨rfl, b3⟩))
      go_wp2
      go_ret
      exact ⟨rfl, hw2.trans (b3.mono hw2.size)⟩
    · rw [hb] at hB0
      obtain ⟨bt2, hbt⟩ : ∃ b, bytesT l a2.toNat (15 : Int).toNat = b := ⟨_, rfl⟩
      have hB' : ∀ W, Below w.heap.size w W → Calls Try.prog 9 #[.slice A0 d c0, .int .i64 a2, .int .i64 15] W fun e w' => e = .returned (.tuple #[.string bt2, .nilIface]) ∧ Below W.heap.size W w' := by rw [← hbt]; exact hB0
      have hO1 : ∀ W, Calls Try.prog 12 #[.string bs] W fun e w' => ∃ tb, e = .returned (.tuple #[.pointer (some ⟨tb, 0, none⟩), .nilIface]) ∧ W.heap.size ≤ tb ∧ TB w' tb (chsF l.length a1.toNat l) (makeR (keysF l) ((5 : Nat) : Int)).1 ∧ Below W.heap.size W w' := fun W => by
        rw [← hbs]; exact opens l a1.toNat 5 W (by omega) (by omega) (by decide) (by decide) hs hne (by omega)
      have hO2 : ∀ W, Calls Try.prog 12 #[.string bt2] W fun e w' => ∃ tb, e = .returned (.tuple #[.pointer (some ⟨tb, 0, none⟩), .nilIface]) ∧ W.heap.size ≤ tb ∧ TB w' tb (chsF l.length a2.toNat l) (makeR (keysF l) ((15 : Nat) : Int)).1 ∧ Below W.heap.size W w' := fun W => by
        rw [← hbt]; exact opens l a2.toNat 15 W (by omega) (by omega) (by decide) (by decide) hs hne (by omega)
      clear hB0 hb hbs hbt
      go_upto_region 11 with (first
        | (go_at_call 9; refine hA'.mono ?_; clear hA'; rintro e w2 ⟨rfl, b2⟩; have hw2 := b1.trans (b2.mono b1.size))
        | (go_at_call 9; refine (hB' w2 hw2).mono ?_; clear hB'; rintro e w3 ⟨rfl, b3⟩; have hw3 := hw2.trans (b3.mono hw2.size))
        | (go_at_call 12; refine (hO1 _).mono ?_; clear hO1; rintro e w4 ⟨ta, rfl, hta, hT1, b4⟩; have hw4 := hw3.trans (b4.mono hw3.size))
        | (go_at_call 12; refine (hO2 _).mono ?_; clear hO2; rintro e w5 ⟨tu, rfl, htu, hT2, b5⟩; have hw5 := hw4.trans (b5.mono hw4.size)))
      have hT1' := hT1.below b5
      obtain ⟨⟨r1, r2, r3, r4, r5⟩, hF⟩ : ∃ R, findR l a3 a4 = R := ⟨_, rfl⟩
      have hG1 := get_of ta a3 a4 l a1.toNat _ w5 (by omega) (by omega) hs (by omega) hT1' _ _ _ _ _ hF
      go_upto_region 12 with (go_at_call 13; refine hG1.mono ?_; clear hG1; rintro e w6 ⟨rfl, b6⟩)
      have hw6 := hw5.trans (b6.mono hw5.size)
      have hTA6 := hT1'.below b6
      have hTU6 := hT2.below b6
      have ua := below_alloc (o := .cells #[.string r1, .int .i64 r2, .bool r3, .string r4] 36) (Below.refl w6.heap.size w6)
      have hw7 := hw6.trans (ua.mono hw6.size)
      have hTA7 := hTA6.below ua
      have hTU7 := hTU6.below ua
      have hx7 := heap_alloc_new w6 (.cells #[.string r1, .int .i64 r2, .bool r3, .string r4] 36)
      generalize w6.heap.size = xa at hx7 ⊢
      generalize w6.alloc (.cells #[.string r1, .int .i64 r2, .bool r3, .string r4] 36) = w7 at hw7 hTA7 hTU7 hx7 ⊢
      have hG2 := get_of tu a3 a4 l a2.toNat _ w7 (by omega) (by omega) hs (by omega) hTU7 _ _ _ _ _ hF
      clear ua hTA6 hTU6 b6
      go_upto_region 13 with (go_at_call 13; refine hG2.mono ?_; clear hG2; rintro e w8 ⟨rfl, b8⟩)
      have hw8 := hw7.trans (b8.mono hw7.size)
      have hTA8 := hTA7.below b8
      have hTU8 := hTU7.below b8
      have hx8 := (b8.block xa (Array.getElem?_eq_some_iff.1 hx7).1).trans hx7
      have ua := below_alloc (o := .cells #[.string r1, .int .i64 r2, .bool r3, .string r4] 36) (Below.refl w8.heap.size w8)
      have hw9 := hw8.trans (ua.mono hw8.size)
      have hTA9 := hTA8.below ua
      have hTU9 := hTU8.below ua
      have hx9 := (ua.block xa (Array.getElem?_eq_some_iff.1 hx8).1).trans hx8
      have hy9 := heap_alloc_new w8 (.cells #[.string r1, .int .i64 r2, .bool r3, .string r4] 36)
      generalize w8.heap.size = ya at hy9 ⊢
      generalize w8.alloc (.cells #[.string r1, .int .i64 r2, .bool r3, .string r4] 36) = w9 at hw9 hTA9 hTU9 hx9 hy9 ⊢
      clear ua hTA8 hTU8 hTA7 hTU7 b8 hx7 hx8 hF
      have eA : ∀ W, Below w9.heap.size w9 W → _ := fun W hW => ends_calls ta a1.toNat l _ W (by omega) (by omega) hne (by omega) (hTA9.below hW)
      have eU : ∀ W, Below w9.heap.size w9 W → _ := fun W hW => ends_calls tu a2.toNat l _ W (by omega) (by omega) hne (by omega) (hTU9.below hW)
      have hcA := (eA w9 (Below.refl _ _)).1
      have hcU := fun W h => (eU W h).1
      have hcE : ∀ (Aa Au : Option Addr) (ca cu : Nat) (W : World), Kd.C k36 W Aa l.length l → l.length ≤ ca → Kd.C k36 W Au l.length l → l.length ≤ cu → Calls Try.prog 14 #[.slice Aa l.length ca, .slice Au l.length cu] W fun e w' => e = .returned (.bool true) ∧ Drawn0 W w' := fun Aa Au ca cu W h1 h2 h3 h4 => palinodelaw13_entries.calls 2000 Aa ca l Au cu l true W h1 h2 h3 h4 (entries_same l (by omega) 2000 (by omega))
      rw [hld] at hcE
      have EA := Aside0.mk eA
      have EU := Aside0.mk eU
      clear eA eU hTA9 hTU9 hs
      go_upto_region 14 with (first
        | (go_at_call 15; refine hcA.mono ?_; clear hcA; rintro e w10 ⟨va, rfl, hRa, b10⟩; obtain ⟨Aa, ca, ea, hca, hCa⟩ := Kd.R_reads hRa; subst ea)
        | (go_at_call 15; refine (hcU w10 b10).mono ?_; clear hcU; rintro e w11 ⟨vu, rfl, hRu, b11⟩; obtain ⟨Au, cu, eu, hcu, hCu⟩ := Kd.R_reads hRu; subst eu; rw [hld] at hCa hCu hca hcu; have hE := hcE Aa Au ca cu w11 (Kd.C_below hCa b11) hca hCu hcu)
        | (go_at_call 14; refine hE.mono ?_; clear hE; rintro e w12 ⟨rfl, d12⟩; have b12 := d12.below; clear d12))
      have hB12 : Below w9.heap.size w9 w12 := (b10.trans (b11.mono b10.size)).trans (b12.mono (Nat.le_trans b10.size b11.size))
      have hx12 := (hB12.block xa (Array.getElem?_eq_some_iff.1 hx9).1).trans hx9
      have hy12 := (hB12.block ya (Array.getElem?_eq_some_iff.1 hy9).1).trans hy9
      have hw12 := hw9.trans (hB12.mono hw9.size)
      have m1 := (EA.out w12 hB12).2.1
      have m2 := fun W (h : Below w12.heap.size w12 W) => (EU.out W (hB12.trans (h.mono hB12.size))).2.1
      have m3 := fun W (h : Below w12.heap.size w12 W) => (EA.out W (hB12.trans (h.mono hB12.size))).2.2
      have m4 := fun W (h : Below w12.heap.size w12 W) => (EU.out W (hB12.trans (h.mono hB12.size))).2.2
      generalize (gt l 0).f0 = mi at m1 m2
      generalize (gt l (l.length - 1)).f0 = ma at m3 m4
      obtain ⟨⟨xc0, xc1, xc2, xc3⟩, xf0, xf1, xf2, xf3⟩ := Zk4 (Aside0.mk hx12)
      obtain ⟨⟨yc0, yc1, yc2, yc3⟩, yf0, yf1, yf2, yf3⟩ := Zk4 (Aside0.mk hy12)
      clear hx12 hy12 hx9 hy9 hB12 hw9 b10 b11 b12 EA EU hcE hca hcu hCa hCu hRa hRu
      go_wp2_with (first
        | (go_at_call 16; refine m1.mono ?_; clear m1; rintro e w13 ⟨rfl, b13⟩; replace m2 := m2 w13 b13)
        | (go_at_call 16; refine m2.mono ?_; clear m2; rintro e w14 ⟨rfl, b14⟩; have c14 := b13.trans (b14.mono b13.size); replace m3 := m3 w14 c14)
        | (go_at_call 17; refine m3.mono ?_; clear m3; rintro e w15 ⟨rfl, b15⟩; have c15 := c14.trans (b15.mono c14.size); replace m4 := m4 w15 c15)
        | (go_at_call 17; refine m4.mono ?_; clear m4; rintro e w16 ⟨rfl, b16⟩; have c16 := c15.trans (b16.mono c15.size)))
      go_ret
      exact ⟨rfl, hw12.trans (c16.mono hw12.size)⟩
end Go.Proofs.Ytbdkfmhkgeoeaaa.Pure
