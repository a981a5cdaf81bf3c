import Derived.Test.YtbdkfmhkgeoeaaaTabRefs
import Derived.Test.YtbdkfmhkgeoeaaaTabC
import Derived.Sort.CutIn
import Derived.BigQuiet
import Derived.Test.YtbdkfmhkgeoeaaaPrint19
import Derived.Test.YtbdkfmhkgeoeaaaPrint20
namespace Go.Proofs.Ytbdkfmhkgeoeaaa.Print
open Go.RowKit Go.Proofs.YtbdkfmhkgeoeaaaX Go.Proofs.YtbdkfmhkgeoeaaaW.PrintWords Go.Proofs.YtbdkfmhkgeoeaaaW.PrintLast Go.Proofs.YtbdkfmhkgeoeaaaW.PrintMore
set_option linter.unusedVariables false
set_option linter.unusedSimpArgs false

/-! ## The document's own Build -/
theorem rsorted_calls (A0 : Option Addr) (c0 : Nat) (l : List Ent) (W : World) (hr : Kd.C k36 W A0 l.length l) (hc : l.length ≤ c0) (hl : l.length ≤ 400) :
    Calls Try.prog 29 #[.slice A0 l.length c0] W fun e w' => e = .returned (.bool (sortedB l)) ∧ Below W.heap.size W w' :=
  palinoderef12_Sorted.calls 500 A0 c0 l _ W hr hc (refSorted_big l (by omega) 500 (by omega))
theorem renc_calls (A0 : Option Addr) (c0 : Nat) (l : List Ent) (W : World) (hr : Kd.C k36 W A0 l.length l) (hc : l.length ≤ c0) :
    Calls Try.prog 30 #[.slice A0 l.length c0] W fun e w' => (∃ x, e = .returned (.tuple #[.string (encS l), .int .i64 x])) ∧ Below W.heap.size W w' :=
  (palinoderef12_Encode.calls A0 c0 l _ _ W hr hc (refEncode_eq l)).mono (fun e w' hh => ⟨⟨_, hh.1⟩, hh.2⟩)
theorem rput_calls (s : ByteArray) (hs : s.size ≤ 1048576) (W : World) :
    Calls Try.prog 31 #[.string s] W fun e w' => e = .returned (.string (fr s)) ∧ Below W.heap.size W w' := by
  obtain ⟨K, hK⟩ := refput_ev s (by omega)
  refine palinoderef13_put.calls K s (fr s) W ?_
  unfold palinoderef13_put.f
  rw [hK K (Nat.le_refl _), putR_fr s hs]
  rfl
theorem rrow_calls (A0 : Option Addr) (c0 : Nat) (l : List ByteArray) (W : World) (hr : Kd.C Kd.string W A0 l.length l) (hc : l.length ≤ c0) :
    Calls Try.prog 32 #[.slice A0 l.length c0] W fun e w' => (∃ x, e = .returned (.tuple #[.string (rowS l).1, .bool x])) ∧ Below W.heap.size W w' := by
  obtain ⟨K, hK⟩ := refrow_ev l
  exact (palinoderef01_Row.calls K A0 c0 l _ _ W hr hc (hK K (Nat.le_refl _))).mono (fun e w' hh => ⟨⟨_, hh.1⟩, hh.2⟩)
theorem rmake_calls (A0 : Option Addr) (c0 : Nat) (l : List ByteArray) (q : Int) (W : World) (hr : Kd.C Kd.string W A0 l.length l) (hc : l.length ≤ c0) (hq : 1 ≤ q ∧ q ≤ 20) (hs : ∀ s ∈ l, s.size ≤ 1000) :
    Calls Try.prog 33 #[.slice A0 l.length c0, .int .i64 q] W fun e w' => (∃ x, e = .returned (.tuple #[.string (makeR l q).1, .int .i64 x])) ∧ Below W.heap.size W w' := by
  obtain ⟨K, hK⟩ := refMake_ev l q (by omega) 1000 (by omega) hs
  exact (palinoderef11_Make.calls K A0 c0 l q _ _ W hr hc (hK K (Nat.le_refl _))).mono (fun e w' hh => ⟨⟨_, hh.1⟩, hh.2⟩)
/-- What the rest of the entries makes. -/
theorem chs_next (m : Nat) (n : Nat) (r : List Ent) (h : 0 < r.length) : chsF (n + 1) m r = r.take m :: chsF n m (r.drop m) := by
  simp only [chsF]
  rw [if_neg (by omega)]
theorem cat_cons (s : ByteArray) (l : List ByteArray) : cat (s :: l) = fr s ++ cat l := rfl
set_option maxHeartbeats 4000000 in
set_option maxRecDepth 100000 in
theorem refbuild_no (A0 : Option Addr) (c0 : Nat) (l : List Ent) (m q : Int) (w : World) (hr0 : Kd.C k36 w A0 l.length l) (hc0 : l.length ≤ c0) (hl : l.length ≤ 400)
    (hb : m < 1 ∨ 50 < m ∨ q < 1 ∨ 20 < q ∨ l.length = 0 ∨ sortedB l = false) :
    Calls Try.prog 10 #[.slice A0 l.length c0, .int .i64 m, .int .i64 q] w fun e w' => e = .returned (.tuple #[.string (⟨#[]⟩ : ByteArray), .int .i64 1]) ∧ Below w.heap.size w w' := by
  have hS := rsorted_calls A0 c0 l w hr0 hc0 hl
  generalize sortedB l = sb at hS hb
  go_enter Try.func10, Try.ntmps10
  go_upto_region 2 with (go_at_call 29; refine hS.mono ?_; clear hS; rintro e w1 ⟨rfl, b1⟩)
  by_cases h1 : m < 1
  · go_wp2
    go_ret2
    exact ⟨rfl, b1⟩
  by_cases h2 : 50 < m
  · go_wp2
    go_ret2
    exact ⟨rfl, b1⟩
  by_cases h3 : q < 1
  · go_wp2
    go_ret2
    exact ⟨rfl, b1⟩
  by_cases h4 : 20 < q
  · go_wp2
    go_ret2
    exact ⟨rfl, b1⟩
  by_cases h5 : l.length = 0
  · have h5z : (l.length : Int) = 0 := by omega
    go_wp2
    go_ret2
    exact ⟨rfl, b1⟩
  · have h5z : ¬ (l.length : Int) = 0 := by omega
    have h6 : sb = false := by rcases hb with h | h | h | h | h | h <;> first | exact h | omega
    subst h6
    go_wp2
    go_ret2
    exact ⟨rfl, b1⟩
theorem shared_ {Goal : Prop} {G A : World → Nat → Prop} (cont : ∀ X gb, A X gb → G X gb) (main : (∀ X gb, A X gb → G X gb) → Goal) : Goal := main cont
theorem three_row (W : World) (base : Nat) (m q : Int) (hb : base ≤ W.heap.size) : BRow (W.alloc (.cells #[.int .u8 m, .int .u8 q, .int .u8 84] 5)) base 5 (.slice (some ⟨W.heap.size, 0, none⟩) 3 3) [m, q, 84] :=
  ⟨W.heap.size, 3, _, (0, 0), rfl, hb, heap_alloc_new W _, .inl rfl, Nat.le_refl 3, by decide, rfl, rfl⟩
set_option maxHeartbeats 4000000 in
set_option maxRecDepth 100000 in
theorem refbuild_yes (A0 : Option Addr) (c0 : Nat) (l : List Ent) (m q : Nat) (w : World) (hr0 : Kd.C k36 w A0 l.length l) (hc0 : l.length ≤ c0) (hl : l.length ≤ 400)
    (hm1 : 1 ≤ m) (hm2 : m ≤ 50) (hq1 : 1 ≤ q) (hq2 : q ≤ 20) (h0 : 0 < l.length) (hs : sortedB l = true) :
    Calls Try.prog 10 #[.slice A0 l.length c0, .int .i64 (m : Int), .int .i64 (q : Int)] w fun e w' => e = .returned (.tuple #[.string (bytesT l m q), .int .i64 0]) ∧ Below w.heap.size w w' := by
  have hS := rsorted_calls A0 c0 l w hr0 hc0 hl
  rw [hs] at hS
  have hm1' : ¬ (m : Int) < 1 := by omega
  have hm2' : ¬ 50 < (m : Int) := by omega
  have hb1' : ¬ (q : Int) < 1 := by omega
  have hb2' : ¬ 20 < (q : Int) := by omega
  have h1z : ¬ (l.length : Int) = 0 := by omega
  have h2z : ¬ 1500 < (l.length : Int) := by omega
  have hmz : ¬ (m : Int) = 0 := by omega
  have hz0 : ¬ l.length = 0 := by omega
  have hmz0 : ¬ m = 0 := by omega
  have hq : ¬ 1000 < ((l.length : Int) + (m : Int) - 1) / (m : Int) := by
    have : ((l.length : Int) + (m : Int) - 1) / (m : Int) ≤ (l.length : Int) + (m : Int) - 1 := Int.ediv_le_self _ (by omega)
    omega
  have d1 : decide ((m : Int) < 1) = false := decide_eq_false hm1'
  have d2 : decide (50 < (m : Int)) = false := decide_eq_false hm2'
  have d3 : decide ((q : Int) < 1) = false := decide_eq_false hb1'
  have d4 : decide (20 < (q : Int)) = false := decide_eq_false hb2'
  have d5 : ((l.length : Int) == 0) = false := beq_eq_false_iff_ne.2 h1z
  have HS := Aside0.mk hs
  have HR0 := Aside0.mk hr0
  clear hs hr0
  go_enter Try.func10, Try.ntmps10
  go_upto_region 9 with (go_at_call 29; refine hS.mono ?_; clear hS; rintro e w1 ⟨rfl, b1⟩)
  clear d1 d2 d3 d4 d5 hm1' hm2' hb1' hb2' hq h2z h1z hmz0 hz0
  have HB := Aside0.mk b1
  clear b1
  go_wp2
  go_loopg [9, 10, 12] l.length (fun gg v9 v10 v12 wr => ∃ (i n : Nat) (out : ByteArray) (fs : List ByteArray), v9 = .string out ∧ v12 = .int .i64 (i : Int) ∧ i ≤ l.length + 50 ∧ Aside0 (l.length - i ≤ gg) ∧ Aside0 ((l.drop i).length ≤ n) ∧ Aside0 (out.size ≤ 1048584 * i) ∧ Aside0 (fs.length ≤ i) ∧
    Aside0 (out ++ cat ((chsF n m (l.drop i)).map encS) = cat ((chsF l.length m l).map encS)) ∧ Aside0 (fs ++ firstsF (chsF n m (l.drop i)) = firstsF (chsF l.length m l)) ∧ Aside0 (Kd.R Kd.string 9 wr w.heap.size (fun _ => True) v10 fs) ∧ Aside0 (Below w.heap.size w wr))
  case atStart => exact ⟨0, l.length, ⟨#[]⟩, [], rfl, rfl, by omega, ⟨by omega⟩, ⟨by rw [List.drop_zero]; omega⟩, ⟨Nat.zero_le _⟩, ⟨Nat.zero_le _⟩, ⟨by rw [List.drop_zero, nil_app]⟩, ⟨by rw [List.drop_zero]; rfl⟩, ⟨Kd.R_nil _ _ _ _ _⟩, HB⟩
  case round =>
    clear HB
    obtain ⟨i, n, out, fs, rfl, rfl, hil, HG, HN, HO, HF, HC, HFS, HR, HB⟩ := hrel
    by_cases hlt : i < l.length
    · have hltz : (i : Int) < (l.length : Int) := by omega
      obtain ⟨e, he⟩ : ∃ e, min l.length (i + m) = e := ⟨_, rfl⟩
      have he1 : i ≤ e ∧ e ≤ l.length := by omega
      have hmin : min (l.length : Int) ((i : Int) + (m : Int)) = (e : Int) := by omega
      have hmn : (if (i : Int) + (m : Int) < (l.length : Int) then (i : Int) + (m : Int) else (l.length : Int)) = (e : Int) := by split <;> omega
      obtain ⟨i0, hi0, _, hsz, _⟩ := info_parts info36
      have hcut := cut_mid (P := Try.prog) 22 36 .i64 .i64 Try.underlying22 hi0 4 hsz A0 l.length c0 (i : Int) (e : Int) (by omega) (by omega) (by omega) hc0
      obtain ⟨k, hk⟩ : ∃ k, (l.take e).drop i = k := ⟨_, rfl⟩
      have hkl : k.length = e - i := by rw [← hk, List.length_drop, List.length_take]; omega
      have hkt : k = (l.drop i).take m := by
        rw [← hk, List.drop_take]
        rcases Nat.le_total l.length (i + m) with h | h
        · rw [List.take_of_length_le (by rw [List.length_drop]; omega), List.take_of_length_le (by rw [List.length_drop]; omega)]
        · rw [show e - i = m by omega]
      have hrk := Kd.C_mid (lo := i) (hi := e) (c := c0) HR0.out he1.1 he1.2 hc0
      rw [hk] at hrk
      rw [Int.toNat_natCast, Int.toNat_natCast] at hcut
      replace hrk : Kd.C k36 w (if c0 = i then A0 else A0.map (·.add (i * 4))) k.length k := hrk
      generalize (if c0 = i then A0 else A0.map (·.add (i * 4))) = Ak at hcut hrk
      obtain ⟨ck, hck⟩ : ∃ ck, c0 - i = ck := ⟨_, rfl⟩
      rw [hck] at hcut
      rw [← hkl] at hcut
      have hkc : k.length ≤ ck := by omega
      have hE := renc_calls Ak ck k wr (Kd.C_below hrk HB.out) hkc
      have hes := encS_size k
      have hfs := fr_small (encS k) (by omega)
      have hP := fun W => rput_calls (encS k) (by omega) W
      obtain ⟨n, rfl⟩ : ∃ n', n = n' + 1 := ⟨n - 1, by have := HN.out; rw [List.length_drop] at this; omega⟩
      have hnx := chs_next m n (l.drop i) (by rw [List.length_drop]; omega)
      rw [← hkt, List.drop_drop] at hnx
      have HC2 : Aside0 ((out ++ fr (encS k)) ++ cat ((chsF n m (l.drop (i + m))).map encS) = cat ((chsF l.length m l).map encS)) := ⟨by rw [← HC.out, hnx, List.map_cons, cat_cons, app_assoc]⟩
      have hk0 : gt k 0 = gt l i := by
        rw [← hk]
        unfold gt
        rw [List.getD_eq_getElem?_getD, List.getD_eq_getElem?_getD, List.getElem?_drop, List.getElem?_take_of_lt (by omega), Nat.add_zero]
      have HF2 : Aside0 ((fs ++ [(gt l i).f0]) ++ firstsF (chsF n m (l.drop (i + m))) = firstsF (chsF l.length m l)) := ⟨by rw [← HFS.out, hnx, ← hk0, List.append_assoc]; rfl⟩
      clear HC HFS hnx hk0 hkt hk hrk
      generalize encS k = es at hE hes hfs hP HC2
      obtain ⟨fe, hfe⟩ : ∃ fe, fr es = fe := ⟨_, rfl⟩
      rw [hfe] at hfs hP HC2
      have hoz : out.size + fe.size ≤ 9223372036854775807 := by have := HO.out; omega
      have HO2 : Aside0 ((out ++ fe).size ≤ 1048584 * (i + m)) := ⟨by rw [append_size]; have := HO.out; omega⟩
      obtain ⟨kn, hkn⟩ : ∃ kn, k.length = kn := ⟨_, rfl⟩
      rw [hkn] at hcut hE
      clear hfe HO hkl hck he hkn hkc hes hi0 hsz
      go_upto_region 13 with (go_at_call 30; refine hE.mono ?_; clear hE; rintro e_ w2 ⟨⟨x, rfl⟩, b2⟩; have HR2 := Aside0.mk (Kd.R_below HR.out b2); have HB2 := Aside0.mk (HB.out.trans (b2.mono HB.out.size)); clear HR HB b2)
      go_upto_region 14 with (go_at_call 31; refine (hP _).mono ?_; clear hP; rintro e_ w3 ⟨rfl, b3⟩; have HR3 := Aside0.mk (Kd.R_below HR2.out b3); have HB3 := Aside0.mk (HB2.out.trans (b3.mono HB2.out.size)); clear HR2 HB2 b3)
      obtain ⟨ad, hA, hx0, _, _, _⟩ := at_T36 HR0.out (i : Int) (by omega) (by omega)
      rw [rd_gt, Int.toNat_natCast] at hx0
      replace hx0 := (HB3.out.cell (World.block_lt_of_cell? _ _ hx0)).trans hx0
      subst hA
      generalize (gt l i).f0 = x0 at hx0 HF2
      have hfl := HF.out
      clear hoz hfs
      go_wp2_with ((with_reducible refine gate_builtin (b := .append) (xs := #[.tmp 82, .tmp 88]) rfl ?_); (try (refine gate_guard (by rfl) ?_; dsimp only)); at_builtin; refine Kd.R_append Kd.string (w0 := w) w.heap.size rfl (.tmp 82) (.tmp 88) 52 9 (.string ⟨#[]⟩) 16 rfl Try.underlying52 info9 rfl (by decide) (by omega) u10 fs x0 [.string x0] (fun _ => True) (fun _ => False) rfl rfl ?aP (fun _ hk => hk.elim) ?aF ?aO ?aB ?aS ?aL ?_; (case aP => exact rfl); (case aB => exact (Yr HB3)); (case aF => exact (fun _ _ => trivial)); (case aO => exact (by (with_reducible repeat (first | apply Kd.R_alloc | apply Kd.R_drewN | apply Kd.R_drew)); exact HR3.out)); (case aS => exact (below_size (Yr HB3))); (case aL => omega); intro v324 w29 ho hb hg hat; have HB := Aside0.mk (hb); have HR := Aside0.mk (ho); clear ho hb hg hat)
      go_roundg (l.length - (i + m))
      case measure => have := HG.out; omega
      case rel => exact ⟨i + m, n, out ++ fe, fs ++ [x0], rfl, by go_num, by omega, ⟨Nat.le_refl _⟩, ⟨by have := HN.out; rw [List.length_drop] at this ⊢; omega⟩, HO2, ⟨by rw [List.length_append, List.length_singleton]; omega⟩, HC2, HF2, ⟨by (with_reducible repeat (first | apply Kd.R_alloc | apply Kd.R_drewN | apply Kd.R_drew)); exact HR.out⟩, ⟨Yr HB⟩⟩
    · have hltz : ¬ (i : Int) < (l.length : Int) := by omega
      have hdn : chsF n m (l.drop i) = [] := by
        rw [List.drop_eq_nil_of_le (by omega)]
        cases n <;> simp [chsF]
      have hC := HC.out
      have hF := HFS.out
      rw [hdn, List.map_nil] at hC
      rw [hdn] at hF
      have hC' : Aside0 (out = cat ((chsF l.length m l).map encS)) := ⟨by rw [← hC]; exact (app_nil out).symm⟩
      have hF' : Aside0 (fs = firstsF (chsF l.length m l)) := ⟨by rw [← hF]; exact (List.append_nil fs).symm⟩
      have hos : out.size ≤ 1048584 * 450 := by have := HO.out; omega
      clear hC hF hdn HC HFS HN HG hil HO
      go_wp2
      go_loopg [11, 15] l.length (fun gg v11 v15 wr2 => ∃ j : Nat, v15 = .int .i64 (j : Int) ∧ j ≤ l.length ∧ Aside0 (l.length - j ≤ gg) ∧ Aside0 (Kd.R Kd.string 9 wr2 w.heap.size (fun k_ => some k_ ≠ (v11 : Value).ownBlock) u10 fs) ∧ Aside0 (Kd.R Kd.string 9 wr2 w.heap.size (fun k_ => some k_ ≠ (u10 : Value).ownBlock) v11 (cU (l.map (·.f0)) j)) ∧ Aside0 (Below w.heap.size w wr2))
      case atStart => exact ⟨0, rfl, Nat.zero_le _, ⟨by omega⟩, ⟨by (with_reducible repeat (first | apply Kd.R_alloc | apply Kd.R_drewN | apply Kd.R_drew)); exact Kd.R_mono HR.out (fun _ hk => (by simp [Value.ownBlock]))⟩, ⟨Kd.R_nil _ _ _ _ _⟩, ⟨Yr HB⟩⟩
      case round =>
        clear HR HB
        obtain ⟨j, rfl, hjl, HG, HR, HK, HB⟩ := hrel
        by_cases hjt : j < l.length
        · have hjz : (j : Int) < (l.length : Int) := by omega
          obtain ⟨ad, hA, hx0, _, _, _⟩ := at_T36 HR0.out (j : Int) (by omega) (by omega)
          rw [rd_gt, Int.toNat_natCast] at hx0
          replace hx0 := (HB.out.cell (World.block_lt_of_cell? _ _ hx0)).trans hx0
          have hgS : gS (l.map (·.f0)) j = (gt l j).f0 := by
            show List.getD _ _ _ = _
            rw [gt_get hjt, List.getD_eq_getElem?_getD, List.getElem?_map, List.getElem?_eq_getElem hjt]; rfl
          have hkl := cU_len (l.map (·.f0)) j
          by_cases hj0 : j = 0
          · have hjb : ((j : Int) == 0) = true := beq_iff_eq.2 (by omega)
            have hnx : cU (l.map (·.f0)) (j + 1) = cU (l.map (·.f0)) j ++ [(gt l j).f0] := by simp only [cU]; rw [if_pos (.inl hj0), hgS]
            subst hA
            generalize (gt l j).f0 = x0 at hx0 hnx
            generalize cU (l.map (·.f0)) j = xs at hnx HK hkl
            clear hgS hj0
            · go_upto_region 18 with (fail)
              refine wp_region_quiet_lit (by kernel_rfl) (by kernel_rfl) ?_
              repeat (go_big_quiet_step (fail))
              refine wpQuiet_nil ?_
              rintro w4 ⟨nq, hw4⟩
              subst hw4
              have HB4 := Aside0.mk (pw_below_drewN HB.out nq)
              have HR4 := Aside0.mk (Kd.R_drewN HR.out nq)
              have HK4 := Aside0.mk (Kd.R_drewN HK.out nq)
              go_wp2_with ((with_reducible refine gate_builtin (b := .append) (xs := #[.tmp 112, .tmp 118]) rfl ?_); (try (refine gate_guard (by rfl) ?_; dsimp only)); at_builtin; refine Kd.R_append Kd.string (w0 := w) w.heap.size rfl (.tmp 112) (.tmp 118) 52 9 (.string ⟨#[]⟩) 16 rfl Try.underlying52 info9 rfl (by decide) (by omega) u11 xs x0 [.string x0] (fun k_ => some k_ ≠ (u10 : Value).ownBlock) (fun _ => False) rfl rfl ?aP (fun _ hk => hk.elim) ?aF ?aO ?aB ?aS ?aL ?_; (case aP => exact rfl); (case aB => exact (Yr HB4)); (case aF => exact (fun k_ hk => Kd.fresh' (Kd.R_lt (by (with_reducible repeat (first | apply Kd.R_alloc | apply Kd.R_drewN | apply Kd.R_drew)); exact HR4.out)) k_ hk)); (case aO => exact (by (with_reducible repeat (first | apply Kd.R_alloc | apply Kd.R_drewN | apply Kd.R_drew)); exact HK4.out)); (case aS => exact (below_size (Yr HB4))); (case aL => omega); intro v328 w35 ho hb hg hat; have HR5 := Aside0.mk (Kd.R_after (ok := (fun _ => True)) (by (with_reducible repeat (first | apply Kd.R_alloc | apply Kd.R_drewN | apply Kd.R_drew)); exact Kd.R_mono HR4.out (fun _ hk => ⟨trivial, hk⟩)) hg hat); have HB5 := Aside0.mk (hb); have HK5 := Aside0.mk (ho); clear ho hb hg hat)
              go_roundg (l.length - (j + 1))
              case measure => have := HG.out; omega
              case rel => exact ⟨j + 1, by go_num, by omega, ⟨Nat.le_refl _⟩, ⟨by (with_reducible repeat (first | apply Kd.R_alloc | apply Kd.R_drewN | apply Kd.R_drew)); exact Kd.R_mono HR5.out (fun _ hk => hk.2)⟩, ⟨by rw [hnx]; (with_reducible repeat (first | apply Kd.R_alloc | apply Kd.R_drewN | apply Kd.R_drew)); exact HK5.out⟩, ⟨Yr HB5⟩⟩
          · have hjb : ((j : Int) == 0) = false := beq_eq_false_iff_ne.2 (by omega)
            obtain ⟨p, hp⟩ : ∃ p, j = p + 1 := ⟨j - 1, by omega⟩
            have hpz : (j : Int) - 1 = (p : Int) := by omega
            have hp1 : (p : Int) < (l.length : Int) := by omega
            obtain ⟨ad2, hA2, hy0, _, _, _⟩ := at_T36 HR0.out (p : Int) (by omega) (by omega)
            rw [rd_gt, Int.toNat_natCast] at hy0
            replace hy0 := (HB.out.cell (World.block_lt_of_cell? _ _ hy0)).trans hy0
            have hgP : gS (l.map (·.f0)) (j - 1) = (gt l p).f0 := by
              rw [hp, Nat.add_sub_cancel]
              show List.getD _ _ _ = _
              rw [gt_get (by omega), List.getD_eq_getElem?_getD, List.getElem?_map, List.getElem?_eq_getElem (by omega)]; rfl
            have hnx : cU (l.map (·.f0)) (j + 1) = if (gt l j).f0.toList = (gt l p).f0.toList then cU (l.map (·.f0)) j else cU (l.map (·.f0)) j ++ [(gt l j).f0] := by
              simp only [cU]
              rw [hgS, hgP]
              by_cases h : (gt l j).f0.toList = (gt l p).f0.toList
              · rw [if_pos h, if_neg (fun hh => hh.elim hj0 (fun k => k h))]
              · rw [if_neg h, if_pos (.inr h)]
            subst hA
            cases hA2
            generalize (gt l j).f0 = x0 at hx0 hnx
            generalize (gt l p).f0 = y0 at hy0 hnx
            generalize cU (l.map (·.f0)) j = xs at hnx HK hkl
            clear hgS hgP hj0 hp
            cases hkq : (x0.toList == y0.toList) with
            | true =>
              rw [if_pos (beq_iff_eq.1 hkq)] at hnx
              go_upto_region 18 with (fail)
              refine wp_region_quiet_lit (by kernel_rfl) (by kernel_rfl) ?_
              repeat (go_big_quiet_step (fail))
              refine wpQuiet_nil ?_
              rintro w4 ⟨nq, hw4⟩
              subst hw4
              have HB4 := Aside0.mk (pw_below_drewN HB.out nq)
              have HR4 := Aside0.mk (Kd.R_drewN HR.out nq)
              have HK4 := Aside0.mk (Kd.R_drewN HK.out nq)
              go_wp2
              go_roundg (l.length - (j + 1))
              case measure => have := HG.out; omega
              case rel => exact ⟨j + 1, by go_num, by omega, ⟨Nat.le_refl _⟩, ⟨by (with_reducible repeat (first | apply Kd.R_alloc | apply Kd.R_drewN | apply Kd.R_drew)); exact HR4.out⟩, ⟨by rw [hnx]; (with_reducible repeat (first | apply Kd.R_alloc | apply Kd.R_drewN | apply Kd.R_drew)); exact HK4.out⟩, ⟨Yr HB4⟩⟩
            | false =>
              rw [if_neg (beq_eq_false_iff_ne.1 hkq)] at hnx
              go_upto_region 18 with (fail)
              refine wp_region_quiet_lit (by kernel_rfl) (by kernel_rfl) ?_
              repeat (go_big_quiet_step (fail))
              refine wpQuiet_nil ?_
              rintro w4 ⟨nq, hw4⟩
              subst hw4
              have HB4 := Aside0.mk (pw_below_drewN HB.out nq)
              have HR4 := Aside0.mk (Kd.R_drewN HR.out nq)
              have HK4 := Aside0.mk (Kd.R_drewN HK.out nq)
              go_wp2_with ((with_reducible refine gate_builtin (b := .append) (xs := #[.tmp 112, .tmp 118]) rfl ?_); (try (refine gate_guard (by rfl) ?_; dsimp only)); at_builtin; refine Kd.R_append Kd.string (w0 := w) w.heap.size rfl (.tmp 112) (.tmp 118) 52 9 (.string ⟨#[]⟩) 16 rfl Try.underlying52 info9 rfl (by decide) (by omega) u11 xs x0 [.string x0] (fun k_ => some k_ ≠ (u10 : Value).ownBlock) (fun _ => False) rfl rfl ?aP (fun _ hk => hk.elim) ?aF ?aO ?aB ?aS ?aL ?_; (case aP => exact rfl); (case aB => exact (Yr HB4)); (case aF => exact (fun k_ hk => Kd.fresh' (Kd.R_lt (by (with_reducible repeat (first | apply Kd.R_alloc | apply Kd.R_drewN | apply Kd.R_drew)); exact HR4.out)) k_ hk)); (case aO => exact (by (with_reducible repeat (first | apply Kd.R_alloc | apply Kd.R_drewN | apply Kd.R_drew)); exact HK4.out)); (case aS => exact (below_size (Yr HB4))); (case aL => omega); intro v328 w35 ho hb hg hat; have HR5 := Aside0.mk (Kd.R_after (ok := (fun _ => True)) (by (with_reducible repeat (first | apply Kd.R_alloc | apply Kd.R_drewN | apply Kd.R_drew)); exact Kd.R_mono HR4.out (fun _ hk => ⟨trivial, hk⟩)) hg hat); have HB5 := Aside0.mk (hb); have HK5 := Aside0.mk (ho); clear ho hb hg hat)
              go_roundg (l.length - (j + 1))
              case measure => have := HG.out; omega
              case rel => exact ⟨j + 1, by go_num, by omega, ⟨Nat.le_refl _⟩, ⟨by (with_reducible repeat (first | apply Kd.R_alloc | apply Kd.R_drewN | apply Kd.R_drew)); exact Kd.R_mono HR5.out (fun _ hk => hk.2)⟩, ⟨by rw [hnx]; (with_reducible repeat (first | apply Kd.R_alloc | apply Kd.R_drewN | apply Kd.R_drew)); exact HK5.out⟩, ⟨Yr HB5⟩⟩
        · have hjz : ¬ (j : Int) < (l.length : Int) := by omega
          obtain rfl : j = l.length := by omega
          obtain ⟨A1, c1, e1, hc1, hC1⟩ := Kd.R_reads HR.out
          subst e1
          obtain ⟨A2, c2, e2, hc2, hC2⟩ := Kd.R_reads HK.out
          subst e2
          have hkeys : cU (l.map (·.f0)) l.length = keysF l := by unfold keysF; rw [List.length_map]
          have hks : ∀ s ∈ keysF l, s.size ≤ 1000 := fun s h => by have := keys_small l HS.out s h; omega
          rw [hkeys] at hc2 hC2
          rw [hkeys]
          have hRow := rrow_calls A1 c1 fs wr hC1 hc1
          have hMk := fun W (h : Below wr.heap.size wr W) => rmake_calls A2 c2 (keysF l) (q : Int) W (Kd.C_below hC2 h) hc2 (by omega) hks
          have hrz := rowS_size fs
          have hfz := makeR_size (keysF l) (q : Int)
          have hfin : out ++ fr (rowS fs).1 ++ fr (makeR (keysF l) (q : Int)).1 ++ fr (strOfNums [(m : Int), (q : Int), 84]) = bytesT l m q := by
            rw [build_cat]
            unfold framesF
            rw [cat_append, hC'.out, hF'.out, cat_cons, cat_cons, cat_cons]
            show _ = _ ++ (_ ++ (_ ++ (fr (threeS m q) ++ ⟨#[]⟩)))
            rw [app_nil, ← app_assoc, ← app_assoc]
            rfl
          have HFIN := Aside0.mk hfin
          clear hfin hkeys hks hC' hF' hjl HG HR HK hC1 hC2
          generalize (rowS fs).1 = r at hRow hrz HFIN
          generalize keysF l = ks at hMk hfz HFIN
          generalize (makeR ks (q : Int)).1 = f at hMk hfz HFIN
          generalize fs.length = fn at hRow
          generalize ks.length = kn at hMk
          go_upto_region 22 with (first
            | (go_at_call 32; refine hRow.mono ?_; clear hRow; rintro e_ w2 ⟨⟨x, rfl⟩, b2⟩; replace hMk := hMk w2 b2)
            | (go_at_call 33; refine hMk.mono ?_; clear hMk; rintro e_ w3 ⟨⟨y, rfl⟩, b3⟩; have HB3 := Aside0.mk ((HB.out.trans (b2.mono HB.out.size)).trans (b3.mono (Nat.le_trans HB.out.size b2.size))); clear HB b2 b3))
          have ht3 : (strOfNums [(m : Int), (q : Int), 84]).size ≤ 1048576 := by rw [size_strOfNums]; simp
          have hPr := fun W => rput_calls r hrz W
          have hPf := fun W => rput_calls f (by omega) W
          have hPt := fun W => rput_calls (strOfNums [(m : Int), (q : Int), 84]) ht3 W
          have z1 := fr_small r hrz
          have z2 := fr_small f (by omega)
          have z3 := fr_small _ ht3
          generalize fr r = pr at hPr z1 HFIN
          generalize fr f = pf at hPf z2 HFIN
          generalize fr (strOfNums [(m : Int), (q : Int), 84]) = pt at hPt z3 HFIN
          have y1 : (9223372036854775807 < out.size + pr.size) = False := eq_false (by omega)
          have y2 : (9223372036854775807 < (out ++ pr).size + pf.size) = False := eq_false (by rw [append_size]; omega)
          have y2' : (9223372036854775807 < out.size + pr.size + pf.size) = False := eq_false (by omega)
          have y3 : (9223372036854775807 < (out ++ pr ++ pf).size + pt.size) = False := eq_false (by rw [append_size, append_size]; omega)
          have y3' : (9223372036854775807 < out.size + pr.size + pf.size + pt.size) = False := eq_false (by omega)
          have hm256 : IntKind.u8.wrap (m : Int) = (m : Int) := by rw [IntKind.wrap_u8]; omega
          have hq256 : IntKind.u8.wrap (q : Int) = (q : Int) := by rw [IntKind.wrap_u8]; omega
          clear z1 z2 z3 hos hrz hfz ht3
          refine start_ (S := fun _ => True) (ds := []) #[false, false, false, false, false, false, false, false, false, false, false, false, false, false, false, false, false] (by kernel_rfl) rfl rfl trivial ?_
          intro hHeld
          have HB0 := Aside0.mk (Yd HB3.out)
          clear HB3
          generalize w3.drew = v0 at HB0 hHeld ⊢
          refine pure_ (i := 0) (N := some 131) (v := ?_) (a' := ?_) #[true, false, false, false, false, false, false, false, false, false, false, false, false, false, false, false, false] rfl rfl (by kernel_rfl) (fun _ _ _ h => h) (Or.inl ⟨by rfl, ?_⟩) ?_ ?_; rotate_left; (focus intro w'; go_simp; with_reducible rfl); rotate_left; (focus simp only [Act.put, List.setIfInBounds_toArray, List.set_cons_zero, List.set_cons_succ, i64_w, i32_w]; rfl)
          refine pure_ (i := 1) (N := some 132) (v := ?_) (a' := ?_) #[true, true, false, false, false, false, false, false, false, false, false, false, false, false, false, false, false] rfl rfl (by kernel_rfl) (fun _ _ _ h => h) (Or.inl ⟨by rfl, ?_⟩) ?_ ?_; rotate_left; (focus intro w'; go_simp; with_reducible rfl); rotate_left; (focus simp only [Act.put, List.setIfInBounds_toArray, List.set_cons_zero, List.set_cons_succ, i64_w, i32_w]; rfl)
          refine pure_ (i := 4) (N := some 135) (v := ?_) (a' := ?_) #[true, true, false, false, true, false, false, false, false, false, false, false, false, false, false, false, false] rfl rfl (by kernel_rfl) (fun _ _ _ h => h) (Or.inl ⟨by rfl, ?_⟩) ?_ ?_; rotate_left; (focus intro w'; go_simp; with_reducible rfl); rotate_left; (focus simp only [Act.put, List.setIfInBounds_toArray, List.set_cons_zero, List.set_cons_succ, i64_w, i32_w]; rfl)
          refine pure_ (i := 7) (N := some 138) (v := ?_) (a' := ?_) #[true, true, false, false, true, false, false, true, false, false, false, false, false, false, false, false, false] rfl rfl (by kernel_rfl) (fun _ _ _ h => h) (Or.inl ⟨by rfl, ?_⟩) ?_ ?_; rotate_left; (focus intro w'; go_simp; with_reducible rfl); rotate_left; (focus simp only [Act.put, List.setIfInBounds_toArray, List.set_cons_zero, List.set_cons_succ, i64_w, i32_w]; rfl)
          refine pure_ (i := 8) (N := some 139) (v := ?_) (a' := ?_) #[true, true, false, false, true, false, false, true, true, false, false, false, false, false, false, false, false] rfl rfl (by kernel_rfl) (fun _ _ _ h => h) (Or.inl ⟨by rfl, ?_⟩) ?_ ?_; rotate_left; (focus intro w'; go_simp; with_reducible rfl); rotate_left; (focus simp only [Act.put, List.setIfInBounds_toArray, List.set_cons_zero, List.set_cons_succ, i64_w, i32_w]; rfl)
          refine pure_ (i := 9) (N := some 140) (v := ?_) (a' := ?_) #[true, true, false, false, true, false, false, true, true, true, false, false, false, false, false, false, false] rfl rfl (by kernel_rfl) (fun _ _ _ h => h) (Or.inl ⟨by rfl, ?_⟩) ?_ ?_; rotate_left; (focus intro w'; go_simp; with_reducible rfl); rotate_left; (focus simp only [Act.put, List.setIfInBounds_toArray, List.set_cons_zero, List.set_cons_succ, i64_w, i32_w]; rfl)
          refine pure_ (i := 10) (N := some 141) (v := ?_) (a' := ?_) #[true, true, false, false, true, false, false, true, true, true, true, false, false, false, false, false, false] rfl rfl (by kernel_rfl) (fun _ _ _ h => h) (Or.inl ⟨by rfl, ?_⟩) ?_ ?_; rotate_left; (focus intro w'; go_simp; with_reducible rfl); rotate_left; (focus simp only [Act.put, List.setIfInBounds_toArray, List.set_cons_zero, List.set_cons_succ, i64_w, i32_w]; rfl)
          apply shared_ (A := fun X g => Below w.heap.size w X)
          case main =>
            intro cont
            --TREE
            refine two_ (i := 2) (j := 11) (Ni := some 133) (Nj := some 142) #[true, true, true, false, true, false, false, true, true, true, true, false, false, false, false, false, false] #[true, true, false, false, true, false, false, true, true, true, true, true, false, false, false, false, false] rfl rfl rfl rfl (by kernel_rfl) (by decide) (by decide) (fun K hK => ?_) (fun K hK => ?_)
            · refine goes_ Try.func31 (by kernel_rfl) rfl #[.string r] (by rfl) rfl rfl (by (try simp only [List.map_toArray, List.map_cons, List.map_nil]); first | done | rfl) ?_
              refine (hPr v0).mono ?_
              rintro e_ v1 ⟨rfl, hb⟩
              refine ⟨_, rfl, ?_⟩
              have HB1 := Aside0.mk (HB0.out.trans (hb.mono HB0.out.size))
              clear hb
              refine hK.out _ _ trivial (fun hHeld => ?_)
              clear hK K
              refine norm_ (a' := ?_) ?_ ?_
              rotate_left
              · show Act.put _ (some 133) _ = _
                simp only [Act.put, List.setIfInBounds_toArray, List.set_cons_zero, List.set_cons_succ, i64_w, i32_w]
                rfl
              refine pure_ (i := 3) (N := some 134) (v := ?_) (a' := ?_) #[true, true, true, true, true, false, false, true, true, true, true, false, false, false, false, false, false] rfl rfl (by kernel_rfl) (fun _ _ _ h => h) (Or.inl ⟨by rfl, ?_⟩) ?_ ?_; rotate_left; (focus intro w'; go_simp; with_reducible rfl); rotate_left; (focus simp only [Act.put, List.setIfInBounds_toArray, List.set_cons_zero, List.set_cons_succ, i64_w, i32_w]; rfl)
              refine two_ (i := 5) (j := 11) (Ni := some 136) (Nj := some 142) #[true, true, true, true, true, true, false, true, true, true, true, false, false, false, false, false, false] #[true, true, true, true, true, false, false, true, true, true, true, true, false, false, false, false, false] rfl rfl rfl rfl (by kernel_rfl) (by decide) (by decide) (fun K hK => ?_) (fun K hK => ?_)
              · refine goes_ Try.func31 (by kernel_rfl) rfl #[.string f] (by rfl) rfl rfl (by (try simp only [List.map_toArray, List.map_cons, List.map_nil]); first | done | rfl) ?_
                refine (hPf v1).mono ?_
                rintro e_ v2 ⟨rfl, hb⟩
                refine ⟨_, rfl, ?_⟩
                have HB2 := Aside0.mk (HB1.out.trans (hb.mono HB1.out.size))
                clear hb
                refine hK.out _ _ trivial (fun hHeld => ?_)
                clear hK K
                refine norm_ (a' := ?_) ?_ ?_
                rotate_left
                · show Act.put _ (some 136) _ = _
                  simp only [Act.put, List.setIfInBounds_toArray, List.set_cons_zero, List.set_cons_succ, i64_w, i32_w]
                  rfl
                refine pure_ (i := 6) (N := some 137) (v := ?_) (a' := ?_) #[true, true, true, true, true, true, true, true, true, true, true, false, false, false, false, false, false] rfl rfl (by kernel_rfl) (fun _ _ _ h => h) (Or.inl ⟨by rfl, ?_⟩) ?_ ?_; rotate_left; (focus intro w'; go_simp; with_reducible rfl); rotate_left; (focus simp only [Act.put, List.setIfInBounds_toArray, List.set_cons_zero, List.set_cons_succ, i64_w, i32_w]; rfl)
                refine one_ (i := 11) (N := some 142) #[true, true, true, true, true, true, true, true, true, true, true, true, false, false, false, false, false] rfl rfl (by kernel_rfl) (by decide) (fun K hK => ?_)
                refine value_ (w1 := ?_) (v := ?_) (by rfl) rfl ?_ ?_
                rotate_left 2
                · go_simp
                  first | (constructor <;> rfl) | rfl
                have HB3 := Aside0.mk (HB2.out.alloc HB2.out.size (.cells #[.int .u8 (m : Int), .int .u8 (q : Int), .int .u8 84] 5))
                have HV3 := Aside0.mk (three_row v2 w.heap.size (m : Int) (q : Int) HB2.out.size)
                refine hK.out _ _ trivial (fun hHeld => ?_)
                clear hK K
                refine norm_ (a' := ?_) ?_ ?_
                rotate_left
                · show Act.put _ (some 142) _ = _
                  simp only [Act.put, List.setIfInBounds_toArray, List.set_cons_zero, List.set_cons_succ, i64_w, i32_w]
                  rfl
                generalize v2.heap.size = g at HV3 ⊢
                generalize v2.alloc (.cells #[.int .u8 (m : Int), .int .u8 (q : Int), .int .u8 84] 5) = v3 at HB3 HV3 ⊢
                refine one_ (i := 12) (N := some 143) #[true, true, true, true, true, true, true, true, true, true, true, true, true, false, false, false, false] rfl rfl (by kernel_rfl) (by decide) (fun K hK => ?_)
                have hcv := Kd.C_string (P := Try.prog) (A := some ⟨g, 0, none⟩) (c := 3) Try.underlying40 Try.underlying5 Try.underlying9 (BRow.reads (xs := [(m : Int), (q : Int), 84]) HV3.out)
                simp only [List.length_cons, List.length_nil, Nat.zero_add, Nat.reduceAdd] at hcv
                refine value_ (w1 := ?_) (v := ?_) (by rfl) rfl ?_ ?_
                rotate_left 2
                · go_simp
                  first | (constructor <;> rfl) | rfl
                clear hcv
                refine hK.out _ _ trivial (fun hHeld => ?_)
                clear hK K
                refine norm_ (a' := ?_) ?_ ?_
                rotate_left
                · show Act.put _ (some 143) _ = _
                  simp only [Act.put, List.setIfInBounds_toArray, List.set_cons_zero, List.set_cons_succ, i64_w, i32_w]
                  rfl
                exact cont v3 g HB3.out
              · refine value_ (w1 := ?_) (v := ?_) (by rfl) rfl ?_ ?_
                rotate_left 2
                · go_simp
                  first | (constructor <;> rfl) | rfl
                have HB2 := Aside0.mk (HB1.out.alloc HB1.out.size (.cells #[.int .u8 (m : Int), .int .u8 (q : Int), .int .u8 84] 5))
                have HV2 := Aside0.mk (three_row v1 w.heap.size (m : Int) (q : Int) HB1.out.size)
                refine hK.out _ _ trivial (fun hHeld => ?_)
                clear hK K
                refine norm_ (a' := ?_) ?_ ?_
                rotate_left
                · show Act.put _ (some 142) _ = _
                  simp only [Act.put, List.setIfInBounds_toArray, List.set_cons_zero, List.set_cons_succ, i64_w, i32_w]
                  rfl
                generalize v1.heap.size = g at HV2 ⊢
                generalize v1.alloc (.cells #[.int .u8 (m : Int), .int .u8 (q : Int), .int .u8 84] 5) = v2 at HB2 HV2 ⊢
                refine two_ (i := 5) (j := 12) (Ni := some 136) (Nj := some 143) #[true, true, true, true, true, true, false, true, true, true, true, true, false, false, false, false, false] #[true, true, true, true, true, false, false, true, true, true, true, true, true, false, false, false, false] rfl rfl rfl rfl (by kernel_rfl) (by decide) (by decide) (fun K hK => ?_) (fun K hK => ?_)
                · refine goes_ Try.func31 (by kernel_rfl) rfl #[.string f] (by rfl) rfl rfl (by (try simp only [List.map_toArray, List.map_cons, List.map_nil]); first | done | rfl) ?_
                  refine (hPf v2).mono ?_
                  rintro e_ v3 ⟨rfl, hb⟩
                  refine ⟨_, rfl, ?_⟩
                  have HB3 := Aside0.mk (HB2.out.trans (hb.mono HB2.out.size))
                  have HV3 := Aside0.mk (BRow.below HV2.out hb)
                  clear hb
                  refine hK.out _ _ trivial (fun hHeld => ?_)
                  clear hK K
                  refine norm_ (a' := ?_) ?_ ?_
                  rotate_left
                  · show Act.put _ (some 136) _ = _
                    simp only [Act.put, List.setIfInBounds_toArray, List.set_cons_zero, List.set_cons_succ, i64_w, i32_w]
                    rfl
                  refine pure_ (i := 6) (N := some 137) (v := ?_) (a' := ?_) #[true, true, true, true, true, true, true, true, true, true, true, true, false, false, false, false, false] rfl rfl (by kernel_rfl) (fun _ _ _ h => h) (Or.inl ⟨by rfl, ?_⟩) ?_ ?_; rotate_left; (focus intro w'; go_simp; with_reducible rfl); rotate_left; (focus simp only [Act.put, List.setIfInBounds_toArray, List.set_cons_zero, List.set_cons_succ, i64_w, i32_w]; rfl)
                  refine one_ (i := 12) (N := some 143) #[true, true, true, true, true, true, true, true, true, true, true, true, true, false, false, false, false] rfl rfl (by kernel_rfl) (by decide) (fun K hK => ?_)
                  have hcv := Kd.C_string (P := Try.prog) (A := some ⟨g, 0, none⟩) (c := 3) Try.underlying40 Try.underlying5 Try.underlying9 (BRow.reads (xs := [(m : Int), (q : Int), 84]) HV3.out)
                  simp only [List.length_cons, List.length_nil, Nat.zero_add, Nat.reduceAdd] at hcv
                  refine value_ (w1 := ?_) (v := ?_) (by rfl) rfl ?_ ?_
                  rotate_left 2
                  · go_simp
                    first | (constructor <;> rfl) | rfl
                  clear hcv
                  refine hK.out _ _ trivial (fun hHeld => ?_)
                  clear hK K
                  refine norm_ (a' := ?_) ?_ ?_
                  rotate_left
                  · show Act.put _ (some 143) _ = _
                    simp only [Act.put, List.setIfInBounds_toArray, List.set_cons_zero, List.set_cons_succ, i64_w, i32_w]
                    rfl
                  exact cont v3 g HB3.out
                · have hcv := Kd.C_string (P := Try.prog) (A := some ⟨g, 0, none⟩) (c := 3) Try.underlying40 Try.underlying5 Try.underlying9 (BRow.reads (xs := [(m : Int), (q : Int), 84]) HV2.out)
                  simp only [List.length_cons, List.length_nil, Nat.zero_add, Nat.reduceAdd] at hcv
                  refine value_ (w1 := ?_) (v := ?_) (by rfl) rfl ?_ ?_
                  rotate_left 2
                  · go_simp
                    first | (constructor <;> rfl) | rfl
                  clear hcv
                  refine hK.out _ _ trivial (fun hHeld => ?_)
                  clear hK K
                  refine norm_ (a' := ?_) ?_ ?_
                  rotate_left
                  · show Act.put _ (some 143) _ = _
                    simp only [Act.put, List.setIfInBounds_toArray, List.set_cons_zero, List.set_cons_succ, i64_w, i32_w]
                    rfl
                  refine one_ (i := 5) (N := some 136) #[true, true, true, true, true, true, false, true, true, true, true, true, true, false, false, false, false] rfl rfl (by kernel_rfl) (by decide) (fun K hK => ?_)
                  refine goes_ Try.func31 (by kernel_rfl) rfl #[.string f] (by rfl) rfl rfl (by (try simp only [List.map_toArray, List.map_cons, List.map_nil]); first | done | rfl) ?_
                  refine (hPf v2).mono ?_
                  rintro e_ v3 ⟨rfl, hb⟩
                  refine ⟨_, rfl, ?_⟩
                  have HB3 := Aside0.mk (HB2.out.trans (hb.mono HB2.out.size))
                  clear hb
                  refine hK.out _ _ trivial (fun hHeld => ?_)
                  clear hK K
                  refine norm_ (a' := ?_) ?_ ?_
                  rotate_left
                  · show Act.put _ (some 136) _ = _
                    simp only [Act.put, List.setIfInBounds_toArray, List.set_cons_zero, List.set_cons_succ, i64_w, i32_w]
                    rfl
                  refine pure_ (i := 6) (N := some 137) (v := ?_) (a' := ?_) #[true, true, true, true, true, true, true, true, true, true, true, true, true, false, false, false, false] rfl rfl (by kernel_rfl) (fun _ _ _ h => h) (Or.inl ⟨by rfl, ?_⟩) ?_ ?_; rotate_left; (focus intro w'; go_simp; with_reducible rfl); rotate_left; (focus simp only [Act.put, List.setIfInBounds_toArray, List.set_cons_zero, List.set_cons_succ, i64_w, i32_w]; rfl)
                  exact cont v3 g HB3.out
            · refine value_ (w1 := ?_) (v := ?_) (by rfl) rfl ?_ ?_
              rotate_left 2
              · go_simp
                first | (constructor <;> rfl) | rfl
              have HB1 := Aside0.mk (HB0.out.alloc HB0.out.size (.cells #[.int .u8 (m : Int), .int .u8 (q : Int), .int .u8 84] 5))
              have HV1 := Aside0.mk (three_row v0 w.heap.size (m : Int) (q : Int) HB0.out.size)
              refine hK.out _ _ trivial (fun hHeld => ?_)
              clear hK K
              refine norm_ (a' := ?_) ?_ ?_
              rotate_left
              · show Act.put _ (some 142) _ = _
                simp only [Act.put, List.setIfInBounds_toArray, List.set_cons_zero, List.set_cons_succ, i64_w, i32_w]
                rfl
              generalize v0.heap.size = g at HV1 ⊢
              generalize v0.alloc (.cells #[.int .u8 (m : Int), .int .u8 (q : Int), .int .u8 84] 5) = v1 at HB1 HV1 ⊢
              refine two_ (i := 2) (j := 12) (Ni := some 133) (Nj := some 143) #[true, true, true, false, true, false, false, true, true, true, true, true, false, false, false, false, false] #[true, true, false, false, true, false, false, true, true, true, true, true, true, false, false, false, false] rfl rfl rfl rfl (by kernel_rfl) (by decide) (by decide) (fun K hK => ?_) (fun K hK => ?_)
              · refine goes_ Try.func31 (by kernel_rfl) rfl #[.string r] (by rfl) rfl rfl (by (try simp only [List.map_toArray, List.map_cons, List.map_nil]); first | done | rfl) ?_
                refine (hPr v1).mono ?_
                rintro e_ v2 ⟨rfl, hb⟩
                refine ⟨_, rfl, ?_⟩
                have HB2 := Aside0.mk (HB1.out.trans (hb.mono HB1.out.size))
                have HV2 := Aside0.mk (BRow.below HV1.out hb)
                clear hb
                refine hK.out _ _ trivial (fun hHeld => ?_)
                clear hK K
                refine norm_ (a' := ?_) ?_ ?_
                rotate_left
                · show Act.put _ (some 133) _ = _
                  simp only [Act.put, List.setIfInBounds_toArray, List.set_cons_zero, List.set_cons_succ, i64_w, i32_w]
                  rfl
                refine pure_ (i := 3) (N := some 134) (v := ?_) (a' := ?_) #[true, true, true, true, true, false, false, true, true, true, true, true, false, false, false, false, false] rfl rfl (by kernel_rfl) (fun _ _ _ h => h) (Or.inl ⟨by rfl, ?_⟩) ?_ ?_; rotate_left; (focus intro w'; go_simp; with_reducible rfl); rotate_left; (focus simp only [Act.put, List.setIfInBounds_toArray, List.set_cons_zero, List.set_cons_succ, i64_w, i32_w]; rfl)
                refine two_ (i := 5) (j := 12) (Ni := some 136) (Nj := some 143) #[true, true, true, true, true, true, false, true, true, true, true, true, false, false, false, false, false] #[true, true, true, true, true, false, false, true, true, true, true, true, true, false, false, false, false] rfl rfl rfl rfl (by kernel_rfl) (by decide) (by decide) (fun K hK => ?_) (fun K hK => ?_)
                · refine goes_ Try.func31 (by kernel_rfl) rfl #[.string f] (by rfl) rfl rfl (by (try simp only [List.map_toArray, List.map_cons, List.map_nil]); first | done | rfl) ?_
                  refine (hPf v2).mono ?_
                  rintro e_ v3 ⟨rfl, hb⟩
                  refine ⟨_, rfl, ?_⟩
                  have HB3 := Aside0.mk (HB2.out.trans (hb.mono HB2.out.size))
                  have HV3 := Aside0.mk (BRow.below HV2.out hb)
                  clear hb
                  refine hK.out _ _ trivial (fun hHeld => ?_)
                  clear hK K
                  refine norm_ (a' := ?_) ?_ ?_
                  rotate_left
                  · show Act.put _ (some 136) _ = _
                    simp only [Act.put, List.setIfInBounds_toArray, List.set_cons_zero, List.set_cons_succ, i64_w, i32_w]
                    rfl
                  refine pure_ (i := 6) (N := some 137) (v := ?_) (a' := ?_) #[true, true, true, true, true, true, true, true, true, true, true, true, false, false, false, false, false] rfl rfl (by kernel_rfl) (fun _ _ _ h => h) (Or.inl ⟨by rfl, ?_⟩) ?_ ?_; rotate_left; (focus intro w'; go_simp; with_reducible rfl); rotate_left; (focus simp only [Act.put, List.setIfInBounds_toArray, List.set_cons_zero, List.set_cons_succ, i64_w, i32_w]; rfl)
                  refine one_ (i := 12) (N := some 143) #[true, true, true, true, true, true, true, true, true, true, true, true, true, false, false, false, false] rfl rfl (by kernel_rfl) (by decide) (fun K hK => ?_)
                  have hcv := Kd.C_string (P := Try.prog) (A := some ⟨g, 0, none⟩) (c := 3) Try.underlying40 Try.underlying5 Try.underlying9 (BRow.reads (xs := [(m : Int), (q : Int), 84]) HV3.out)
                  simp only [List.length_cons, List.length_nil, Nat.zero_add, Nat.reduceAdd] at hcv
                  refine value_ (w1 := ?_) (v := ?_) (by rfl) rfl ?_ ?_
                  rotate_left 2
                  · go_simp
                    first | (constructor <;> rfl) | rfl
                  clear hcv
                  refine hK.out _ _ trivial (fun hHeld => ?_)
                  clear hK K
                  refine norm_ (a' := ?_) ?_ ?_
                  rotate_left
                  · show Act.put _ (some 143) _ = _
                    simp only [Act.put, List.setIfInBounds_toArray, List.set_cons_zero, List.set_cons_succ, i64_w, i32_w]
                    rfl
                  exact cont v3 g HB3.out
                · have hcv := Kd.C_string (P := Try.prog) (A := some ⟨g, 0, none⟩) (c := 3) Try.underlying40 Try.underlying5 Try.underlying9 (BRow.reads (xs := [(m : Int), (q : Int), 84]) HV2.out)
                  simp only [List.length_cons, List.length_nil, Nat.zero_add, Nat.reduceAdd] at hcv
                  refine value_ (w1 := ?_) (v := ?_) (by rfl) rfl ?_ ?_
                  rotate_left 2
                  · go_simp
                    first | (constructor <;> rfl) | rfl
                  clear hcv
                  refine hK.out _ _ trivial (fun hHeld => ?_)
                  clear hK K
                  refine norm_ (a' := ?_) ?_ ?_
                  rotate_left
                  · show Act.put _ (some 143) _ = _
                    simp only [Act.put, List.setIfInBounds_toArray, List.set_cons_zero, List.set_cons_succ, i64_w, i32_w]
                    rfl
                  refine one_ (i := 5) (N := some 136) #[true, true, true, true, true, true, false, true, true, true, true, true, true, false, false, false, false] rfl rfl (by kernel_rfl) (by decide) (fun K hK => ?_)
                  refine goes_ Try.func31 (by kernel_rfl) rfl #[.string f] (by rfl) rfl rfl (by (try simp only [List.map_toArray, List.map_cons, List.map_nil]); first | done | rfl) ?_
                  refine (hPf v2).mono ?_
                  rintro e_ v3 ⟨rfl, hb⟩
                  refine ⟨_, rfl, ?_⟩
                  have HB3 := Aside0.mk (HB2.out.trans (hb.mono HB2.out.size))
                  clear hb
                  refine hK.out _ _ trivial (fun hHeld => ?_)
                  clear hK K
                  refine norm_ (a' := ?_) ?_ ?_
                  rotate_left
                  · show Act.put _ (some 136) _ = _
                    simp only [Act.put, List.setIfInBounds_toArray, List.set_cons_zero, List.set_cons_succ, i64_w, i32_w]
                    rfl
                  refine pure_ (i := 6) (N := some 137) (v := ?_) (a' := ?_) #[true, true, true, true, true, true, true, true, true, true, true, true, true, false, false, false, false] rfl rfl (by kernel_rfl) (fun _ _ _ h => h) (Or.inl ⟨by rfl, ?_⟩) ?_ ?_; rotate_left; (focus intro w'; go_simp; with_reducible rfl); rotate_left; (focus simp only [Act.put, List.setIfInBounds_toArray, List.set_cons_zero, List.set_cons_succ, i64_w, i32_w]; rfl)
                  exact cont v3 g HB3.out
              · have hcv := Kd.C_string (P := Try.prog) (A := some ⟨g, 0, none⟩) (c := 3) Try.underlying40 Try.underlying5 Try.underlying9 (BRow.reads (xs := [(m : Int), (q : Int), 84]) HV1.out)
                simp only [List.length_cons, List.length_nil, Nat.zero_add, Nat.reduceAdd] at hcv
                refine value_ (w1 := ?_) (v := ?_) (by rfl) rfl ?_ ?_
                rotate_left 2
                · go_simp
                  first | (constructor <;> rfl) | rfl
                clear hcv
                refine hK.out _ _ trivial (fun hHeld => ?_)
                clear hK K
                refine norm_ (a' := ?_) ?_ ?_
                rotate_left
                · show Act.put _ (some 143) _ = _
                  simp only [Act.put, List.setIfInBounds_toArray, List.set_cons_zero, List.set_cons_succ, i64_w, i32_w]
                  rfl
                refine one_ (i := 2) (N := some 133) #[true, true, true, false, true, false, false, true, true, true, true, true, true, false, false, false, false] rfl rfl (by kernel_rfl) (by decide) (fun K hK => ?_)
                refine goes_ Try.func31 (by kernel_rfl) rfl #[.string r] (by rfl) rfl rfl (by (try simp only [List.map_toArray, List.map_cons, List.map_nil]); first | done | rfl) ?_
                refine (hPr v1).mono ?_
                rintro e_ v2 ⟨rfl, hb⟩
                refine ⟨_, rfl, ?_⟩
                have HB2 := Aside0.mk (HB1.out.trans (hb.mono HB1.out.size))
                clear hb
                refine hK.out _ _ trivial (fun hHeld => ?_)
                clear hK K
                refine norm_ (a' := ?_) ?_ ?_
                rotate_left
                · show Act.put _ (some 133) _ = _
                  simp only [Act.put, List.setIfInBounds_toArray, List.set_cons_zero, List.set_cons_succ, i64_w, i32_w]
                  rfl
                refine pure_ (i := 3) (N := some 134) (v := ?_) (a' := ?_) #[true, true, true, true, true, false, false, true, true, true, true, true, true, false, false, false, false] rfl rfl (by kernel_rfl) (fun _ _ _ h => h) (Or.inl ⟨by rfl, ?_⟩) ?_ ?_; rotate_left; (focus intro w'; go_simp; with_reducible rfl); rotate_left; (focus simp only [Act.put, List.setIfInBounds_toArray, List.set_cons_zero, List.set_cons_succ, i64_w, i32_w]; rfl)
                refine one_ (i := 5) (N := some 136) #[true, true, true, true, true, true, false, true, true, true, true, true, true, false, false, false, false] rfl rfl (by kernel_rfl) (by decide) (fun K hK => ?_)
                refine goes_ Try.func31 (by kernel_rfl) rfl #[.string f] (by rfl) rfl rfl (by (try simp only [List.map_toArray, List.map_cons, List.map_nil]); first | done | rfl) ?_
                refine (hPf v2).mono ?_
                rintro e_ v3 ⟨rfl, hb⟩
                refine ⟨_, rfl, ?_⟩
                have HB3 := Aside0.mk (HB2.out.trans (hb.mono HB2.out.size))
                clear hb
                refine hK.out _ _ trivial (fun hHeld => ?_)
                clear hK K
                refine norm_ (a' := ?_) ?_ ?_
                rotate_left
                · show Act.put _ (some 136) _ = _
                  simp only [Act.put, List.setIfInBounds_toArray, List.set_cons_zero, List.set_cons_succ, i64_w, i32_w]
                  rfl
                refine pure_ (i := 6) (N := some 137) (v := ?_) (a' := ?_) #[true, true, true, true, true, true, true, true, true, true, true, true, true, false, false, false, false] rfl rfl (by kernel_rfl) (fun _ _ _ h => h) (Or.inl ⟨by rfl, ?_⟩) ?_ ?_; rotate_left; (focus intro w'; go_simp; with_reducible rfl); rotate_left; (focus simp only [Act.put, List.setIfInBounds_toArray, List.set_cons_zero, List.set_cons_succ, i64_w, i32_w]; rfl)
                exact cont v3 g HB3.out
            --TREEEND
          case cont =>
            intro X g hBX
            refine one_ (i := 13) (N := some 144) #[true, true, true, true, true, true, true, true, true, true, true, true, true, true, false, false, false] rfl rfl (by kernel_rfl) (by decide) (fun K hK => ?_)
            refine goes_ Try.func31 (by kernel_rfl) rfl #[.string (strOfNums [(m : Int), (q : Int), 84])] (by rfl) rfl rfl (by (try simp only [List.map_toArray, List.map_cons, List.map_nil]); first | done | rfl) ?_
            refine (hPt X).mono ?_
            rintro e_ v9 ⟨rfl, hb⟩
            refine ⟨_, rfl, ?_⟩
            have hB9 := hBX.trans (hb.mono hBX.size)
            clear hb
            refine hK.out _ _ trivial (fun hHeld => ?_)
            clear hK K
            refine norm_ (a' := ?_) ?_ ?_
            rotate_left
            · show Act.put _ (some 144) _ = _
              simp only [Act.put, List.setIfInBounds_toArray, List.set_cons_zero, List.set_cons_succ, i64_w, i32_w]
              rfl
            refine pure_ (i := 14) (N := some 145) (v := ?_) (a' := ?_) #[true, true, true, true, true, true, true, true, true, true, true, true, true, true, true, false, false] rfl rfl (by kernel_rfl) (fun _ _ _ h => h) (Or.inl ⟨by rfl, ?_⟩) ?_ ?_; rotate_left; (focus intro w'; go_simp; with_reducible rfl); rotate_left; (focus simp only [Act.put, List.setIfInBounds_toArray, List.set_cons_zero, List.set_cons_succ, i64_w, i32_w]; rfl)
            refine pure_ (i := 15) (N := some 6) (v := ?_) (a' := ?_) #[true, true, true, true, true, true, true, true, true, true, true, true, true, true, true, true, false] rfl rfl (by kernel_rfl) (fun _ _ _ h => h) (Or.inl ⟨by rfl, ?_⟩) ?_ ?_; rotate_left; (focus intro w'; go_simp; with_reducible rfl); rotate_left; (focus simp only [Act.put, List.setIfInBounds_toArray, List.set_cons_zero, List.set_cons_succ, i64_w, i32_w]; rfl)
            refine pure_ (i := 16) (N := some 7) (v := ?_) (a' := ?_) #[true, true, true, true, true, true, true, true, true, true, true, true, true, true, true, true, true] rfl rfl (by kernel_rfl) (fun _ _ _ h => h) (Or.inl ⟨by rfl, ?_⟩) ?_ ?_; rotate_left; (focus intro w'; go_simp; with_reducible rfl); rotate_left; (focus simp only [Act.put, List.setIfInBounds_toArray, List.set_cons_zero, List.set_cons_succ, i64_w, i32_w]; rfl)
            refine done_ (by kernel_rfl) ?_
            go_wp2
            go_ret2
            exact ⟨by rw [← HFIN.out]; rfl, hB9⟩
end Go.Proofs.Ytbdkfmhkgeoeaaa.Print
