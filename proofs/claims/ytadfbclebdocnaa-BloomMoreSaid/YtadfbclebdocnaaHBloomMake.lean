/- Contracts proved by hand: see the theorems' own lines. -/
import Derived.Test.YtadfbclebdocnaaHBloomPlaces
import Derived.Test.YtadfbclebdocnaaPrint0
import Derived.Test.YtadfbclebdocnaaXBytesRow
import Derived.Test.YtadfbclebdocnaaXRound
namespace Go.Proofs.Ytadfbclebdocnaa.Print
open Go.RowKit Go.Shelf Go.Proofs.YtadfbclebdocnaaW.PrintWords Go.Proofs.YtadfbclebdocnaaW.PrintLast Go.Proofs.YtadfbclebdocnaaW.PrintMore Go.Proofs.YtadfbclebdocnaaX
set_option linter.unusedVariables false
set_option linter.unusedSimpArgs false
attribute [local go_sem] Oper.semAt_some

/-- A bit is set. -/
def setBit (xs : List Int) (p : Nat) : List Int := xs.set (p / 8) (bits .or .u8 (xs.getD (p / 8) 0) (2 ^ (p % 8)))
def setFold (m : Nat) (xs : List Int) (ps : List (Fin m)) : List Int := ps.foldl (fun ys p => setBit ys p.val) xs
def setKey (m : Nat) (hm : 0 < m) (kk : Nat) (xs : List Int) (key : ByteArray) : List Int := setFold m xs (plcs key m hm kk)
theorem setFold_length (m : Nat) (ps : List (Fin m)) : ∀ xs : List Int, (setFold m xs ps).length = xs.length := by
  induction ps with
  | nil => exact fun _ => rfl
  | cons p ps ih => intro xs; exact (ih (setBit xs p.val)).trans (by unfold setBit; rw [List.length_set])
theorem setFold_snoc (m : Nat) (xs : List Int) (ps : List (Fin m)) (p : Fin m) : setFold m xs (ps ++ [p]) = setBit (setFold m xs ps) p.val := by unfold setFold; rw [List.foldl_append]; rfl
def nBytes (n e : Nat) : Nat := (max (n * e) 64 + 7) / 8
theorem nBytes_pos (n e : Nat) : 0 < 8 * nBytes n e := by unfold nBytes; omega
def nHash (e : Nat) : Nat := max 1 (e * 69 / 100)
def makeR (l0 : List ByteArray) (each : Int) : ByteArray × Option Int :=
  if each < 1 ∨ 20 < each then (⟨#[]⟩, some 1)
  else if 2000 < l0.length then (⟨#[]⟩, some 5)
  else (strOfNums (l0.foldl (setKey (8 * nBytes l0.length each.toNat) (nBytes_pos _ _) (nHash each.toNat)) (List.replicate (nBytes l0.length each.toNat) 0) ++ [(nHash each.toNat : Int)]), none)
def bloom_Make.f (l0 : List ByteArray) (each : Int) : Option (ByteArray × Option Int) := if l0.all (fun s => decide (s.size ≤ 9223372036854775807)) = true then some (makeR l0 each) else none
def mkD (D : Nat) : Deferred := { target := .collected D, args := #[] }
/-- What holds between two keys. -/
structure MkInv (w : World) (l0 : List ByteArray) (m : Nat) (hm : 0 < m) (K N i : Nat) (xs : List Int) (Ds : List Nat) (W : World) : Prop where
  le : i ≤ l0.length
  row : W.ownsRow w.heap.size 5 1 (.slice (some ⟨w.heap.size, 0, none⟩) N (N + 1)) N (xs.map (Value.int .u8))
  box : W.heap[w.heap.size + 1]? = some (.cells #[.slice (some ⟨w.heap.size, 0, none⟩) N (N + 1)] 36 (0, 0))
  val : xs = (l0.take i).foldl (setKey m hm K) (List.replicate N 0)
  mks : ∀ D ∈ Ds, w.heap.size + 2 ≤ D ∧ W.heap[D]? = some (.deferred (some []))
  nd : Ds.Nodup
  bel : Below w.heap.size w W
theorem leaves_marks {F : Fence} {n : Nat} {P : Program} {fn : Func} {tmps : Array Value} {R : Ending → World → Prop} (B : Nat) : ∀ (Ds : List Nat) (W : World), (∀ D ∈ Ds, B ≤ D ∧ W.heap[D]? = some (.deferred (some []))) → Ds.Nodup → (∀ W', Below B W W' → LeavesInM F n P fn tmps R [] .returning W') → LeavesInM F n P fn tmps R (Ds.map mkD) .returning W := by
  intro Ds
  induction Ds with
  | nil => intro W _ _ h; exact h W (Below.refl _ _)
  | cons D Ds ih =>
    intro W hD hn h
    obtain ⟨hb, hK⟩ := hD D (List.mem_cons_self ..)
    have hlt := (Array.getElem?_eq_some_iff.1 hK).1
    have hbw : Below B W (W.putObj D (.deferred none)) := (Below.refl B W).grown (grownBy_putObj' W D _) (by omega) (fun k e => by cases e; exact hb)
    refine ⟨by simp, .inl ⟨D, _, rfl, run_takeDeferred hK, ?_⟩⟩
    have hn2 := List.nodup_cons.1 hn
    refine ih _ (fun D' hD' => ⟨(hD D' (List.mem_cons_of_mem _ hD')).1, ?_⟩) hn2.2 (fun W' hW' => h W' (hbw.trans hW'))
    rw [World.putObj_heap_other (fun e => hn2.1 (by rw [← e]; exact hD'))]
    exact (hD D' (List.mem_cons_of_mem _ hD')).2
theorem owns_brow {W : World} {base e g n cap : Nat} {xs : List Int} (hl : xs.length = n) (h : W.ownsRow base e 1 (.slice (some ⟨g, 0, none⟩) n cap) n (xs.map (Value.int .u8))) : BRow W base e (.slice (some ⟨g, 0, none⟩) xs.length cap) xs := by
  rcases h.2 with ⟨h', _⟩ | ⟨g', cap', cur, h', hb, hg, hnc, hcm, hcs, ht⟩
  · simp at h'
  · simp only [Value.slice.injEq, Option.some.injEq, Addr.mk.injEq, and_true, true_and] at h'
    obtain ⟨rfl, rfl⟩ := h'
    exact ⟨g, cap, cur, (0, 0), rfl, hb, hg, .inl rfl, by rw [hl]; exact hnc, hcm, by rw [hcs, Nat.mul_one], by rw [hl, ← ht, Nat.mul_one]⟩
theorem make_eq {l0 : List ByteArray} {E L N m K i : Nat} {xs : List Int} {hm : 0 < m} (hL : L = l0.length) (hN : N = nBytes L E) (hm8 : m = 8 * N) (hK : K = nHash E) (hi : i = L) (hv : xs = (l0.take i).foldl (setKey m hm K) (List.replicate N 0)) : l0.foldl (setKey (8 * nBytes l0.length E) (nBytes_pos _ _) (nHash E)) (List.replicate (nBytes l0.length E) 0) = xs := by
  subst hi; subst hm8; subst hN; subst hL; subst hK
  rw [hv, List.take_length]

set_option maxHeartbeats 4000000 in
set_option maxRecDepth 100000 in
theorem bloom_Make.calls (A0 : Option Addr) (c0 : Nat) (l0 : List ByteArray) (each : Int) (r1 : ByteArray) (r2 : Option Int) (w : World) (hr0 : Kd.C Kd.string w A0 l0.length l0) (hc0 : l0.length ≤ c0) (h : bloom_Make.f l0 each = some (r1, r2)) :
    Calls Try.prog 9 #[.slice A0 l0.length c0, .int .i64 each] w fun e w' => e = .returned (.tuple #[.string r1, errW r2]) ∧ Below w.heap.size w w' := by
  have HR0 := Aside0.mk hr0
  have HC0 := Aside0.mk hc0
  clear hr0 hc0
  unfold bloom_Make.f at h
  by_cases hb : l0.all (fun s => decide (s.size ≤ 9223372036854775807)) = true
  · rw [if_pos hb] at h
    have H := Option.some.inj h
    clear h
    have hl := l0.length
    refine (callsIn_wide (n := 3)).1 ?_
    refine callsIn_of_wp_marks Try.func9 rfl trivial ?_ rfl
    simp only [Try.ntmps9, List.size_toArray, List.length_cons, List.length_nil, Nat.reduceAdd, Nat.reduceSub, Array.replicate_succ, Array.replicate_zero, List.push_toArray, List.append_toArray, List.nil_append, List.cons_append]
    unfold makeR at H
    by_cases c1 : each < 1 ∨ 20 < each
    · rw [if_pos c1] at H
      obtain ⟨rfl, rfl⟩ := Prod.mk.inj H
      by_cases c3 : each < 1
      · have c1b : decide (each < 1) = true := decide_eq_true c3
        clear c1 c3
        gi_wp2
        exact ⟨_, results_tmp2 rfl _ _ _, rfl, Below.refl _ _⟩
      · have c1b : decide (each < 1) = false := decide_eq_false c3
        have c2b : decide (20 < each) = true := decide_eq_true (by omega)
        clear c1 c3
        gi_wp2
        exact ⟨_, results_tmp2 rfl _ _ _, rfl, Below.refl _ _⟩
    · rw [if_neg c1] at H
      by_cases c2 : 2000 < l0.length
      · rw [if_pos c2] at H
        obtain ⟨rfl, rfl⟩ := Prod.mk.inj H
        have c1b : decide (each < 1) = false := decide_eq_false (by omega)
        have c2b : decide (20 < each) = false := decide_eq_false (by omega)
        have c3b : decide (2000 < (l0.length : Int)) = true := decide_eq_true (by omega)
        clear c1 c2
        gi_wp2
        exact ⟨_, results_tmp2 rfl _ _ _, rfl, Below.refl _ _⟩
      · rw [if_neg c2] at H
        obtain ⟨E, hE⟩ : ∃ E : Nat, each = (E : Int) := ⟨each.toNat, by omega⟩
        subst hE
        simp only [Int.toNat_natCast] at H
        have hE1 : 1 ≤ E ∧ E ≤ 20 := by omega
        obtain ⟨L, hL⟩ : ∃ L, L = l0.length := ⟨_, rfl⟩
        rw [← hL]
        have HL := Aside0.mk hL
        have hL2 : L ≤ 2000 := by omega
        have HH := Aside0.mk H
        clear H hL c1 c2 hl
        have c1b : decide ((E : Int) < 1) = false := decide_eq_false (by omega)
        have c2b : decide (20 < (E : Int)) = false := decide_eq_false (by omega)
        have c3b : decide (2000 < (L : Int)) = false := decide_eq_false (by omega)
        obtain ⟨P, hP⟩ : ∃ P, P = L * E := ⟨_, rfl⟩
        have hP2 : P ≤ 40000 := by rw [hP]; exact Nat.le_trans (Nat.mul_le_mul hL2 hE1.2) (by decide)
        have hLE : wrap64 ((L : Int) * (E : Int)) = (P : Int) := by
          have : (L : Int) * (E : Int) = (P : Int) := by rw [hP]; exact (Int.natCast_mul L E).symm
          rw [this]; unfold wrap64; omega
        have HP := Aside0.mk hP
        clear hP
        obtain ⟨Q, hQ⟩ : ∃ Q, Q = max P 64 := ⟨_, rfl⟩
        have hQ2 : 64 ≤ Q ∧ Q ≤ 40000 := by omega
        have hmx1 : ∀ (ts : Array TypeId) (t : TypeId) (W : World), (Builtin.max_ ts t #[.int .i64 (P : Int), .int .i64 64]).run Try.prog W = .ok (.int .i64 (Q : Int)) W := fun ts t W => by
          rw [run_max_int2]; congr 2; split <;> omega
        obtain ⟨K, hK⟩ : ∃ K, K = nHash E := ⟨_, rfl⟩
        have hK2 : 1 ≤ K ∧ K ≤ 20 := by rw [hK]; unfold nHash; omega
        have hmx2 : ∀ (ts : Array TypeId) (t : TypeId) (W : World), (Builtin.max_ ts t #[.int .i64 1, .int .i64 ((E : Int) * 69 / 100)]).run Try.prog W = .ok (.int .i64 (K : Int)) W := fun ts t W => by
          rw [run_max_int2, hK]; unfold nHash; congr 2; split <;> omega
        obtain ⟨N, hN⟩ : ∃ N, N = (Q + 7) / 8 := ⟨_, rfl⟩
        have hN2 : 8 ≤ N ∧ N ≤ 6000 := by omega
        have hN9 : ((Q : Int) + 7) / 8 = (N : Int) := by omega
        have hNB : Aside0 (N = nBytes L E) := ⟨by rw [hN, hQ, HP.out]; rfl⟩
        obtain ⟨CC, hCC⟩ : ∃ CC, CC = madeCells #[Value.int .u8 0] (N + 1) := ⟨_, rfl⟩
        have hmk : ∀ W : World, (Instr.makeSlice 36 (.int .i64 (N : Int)) (.int .i64 ((N : Int) + 1))).run Try.prog W = .ok (.slice (some ⟨W.heap.size, 0, none⟩) N (N + 1)) (W.alloc (.cells CC 5)) := fun W => by
          obtain ⟨i0, hi, hzz⟩ := Option.map_eq_some_iff.1 (show (Try.prog.info? 5).map (fun i => (i.zero, i.size, i.bytes)) = some (some (.int .u8 0), 1, 1) by kernel_rfl)
          simp only [Prod.mk.injEq] at hzz
          obtain ⟨hz0, hz1, hz2⟩ := hzz
          have hr := run_make (P := Try.prog) W 36 5 i0 (.int .u8 0) Try.underlying36 hi hz0 .i64 .i64 (N : Int) ((N : Int) + 1) (by omega) (by omega) (by rw [hz2]; omega) (by omega)
          rw [hr, hz1, hCC, show ((N : Int) + 1).toNat = N + 1 by omega, Int.toNat_natCast, Nat.mul_one]
          rfl
        have HQ := Aside0.mk hQ; have HK := Aside0.mk hK; have HN := Aside0.mk hN; have HCC := Aside0.mk hCC
        clear hQ hK hN hCC
        obtain ⟨m, hm8⟩ : ∃ m : Nat, m = 8 * N := ⟨_, rfl⟩
        have hm0 : 0 < m := by omega
        have hm2 : m ≤ 2000000000000000 := by omega
        have HM8 : Aside0 ((N : Int) * 8 = (m : Int)) := ⟨by omega⟩
        have HMN := Aside0.mk hm8
        clear hm8
        have HI0 : MkInv w l0 m hm0 K N 0 (List.replicate N 0) [] ((w.alloc (.cells CC 5)).alloc (.cells #[.slice (some ⟨w.heap.size, 0, none⟩) N (N + 1)] 36)) := by
          have hcs : CC.size = N + 1 := by rw [HCC.out]; simp [size_madeCells]
          have hct : CC.toList.take N = (List.replicate N (0 : Int)).map (Value.int .u8) := by
            rw [HCC.out, toList_madeCells_one, List.take_replicate, Nat.min_eq_left (by omega), List.map_replicate]
          refine ⟨Nat.zero_le _, ?_, ?_, rfl, fun D hD => by simp at hD, List.nodup_nil, ((Below.refl _ w).alloc (Nat.le_refl _) _).alloc (by simp) _⟩
          · refine World.ownsRow.alloc ⟨by simp, .inr ⟨w.heap.size, N + 1, CC, rfl, Nat.le_refl _, heap_alloc_new w _, by omega, by simp [maxLen]; omega, by rw [hcs, Nat.mul_one], by rw [Nat.mul_one]; exact hct⟩⟩ _
          · have h := heap_alloc_new (w.alloc (.cells CC 5)) (.cells #[.slice (some ⟨w.heap.size, 0, none⟩) N (N + 1)] 36 (0, 0))
            rw [World.size_alloc] at h
            exact h
        gi_wp2
        clear hmx1 hmx2 hmk hLE
        --LOOP
        refine wpIn_loop (fun a' W => ∃ (i : Nat) (xs : List Int) (Ds : List Nat) (u10 u11 u43 u44 u45 u46 u47 u48 u49 u50 u51 u52 u53 u54 u55 u56 u57 u58 u59 u60 u61 u62 : Value), a' = { tmps := #[.slice A0 L c0, .int .i64 (E : Int), undef, undef, .string { data := #[] }, .nilIface, .int .i64 (N : Int), .int .i64 (K : Int), .pointer (some ⟨w.heap.size + 1, 0, none⟩), undef, u10, u11, .bool false, .int .i64 (E : Int), .bool false, .bool false, .int .i64 (E : Int), .bool false, .bool false, undef, .bool false, .slice A0 L c0, .int .i64 (L : Int), .bool false, undef, .slice A0 L c0, .int .i64 (L : Int), .int .i64 (E : Int), .int .i64 (wrap64 ((L : Int) * (E : Int))), .int .i64 (Q : Int), .int .i64 ((Q : Int) + 7), .int .i64 (N : Int), .int .i64 (E : Int), .int .i64 ((E : Int) * 69), .int .i64 ((E : Int) * 69 / 100), .int .i64 (K : Int), .int .i64 (N : Int), .int .i64 (N : Int), .int .i64 ((N : Int) + 1), .slice (some ⟨w.heap.size, 0, none⟩) N (N + 1), .slice A0 L c0, .int .i64 (L : Int), .int .i64 (i : Int), u43, u44, u45, u46, u47, u48, u49, u50, u51, u52, u53, u54, u55, u56, u57, u58, u59, u60, u61, u62, undef, undef, undef, undef, undef, undef], defers := Ds.map mkD } ∧ MkInv w l0 m hm0 K N i xs Ds W) (fun a' _ => L - (intOf (a'.tmps.getD 42 undef)).toNat) ?start ?round
        case start => exact ⟨0, List.replicate N 0, [], undef, undef, undef, undef, undef, undef, undef, undef, undef, undef, undef, undef, undef, undef, undef, undef, undef, undef, undef, undef, undef, undef, rfl, HI0⟩
        case round =>
          rintro a' W ⟨i, xs, Ds, u10, u11, u43, u44, u45, u46, u47, u48, u49, u50, u51, u52, u53, u54, u55, u56, u57, u58, u59, u60, u61, u62, rfl, inv⟩
          have hiL : i ≤ L := by rw [HL.out]; exact inv.le
          by_cases hlt : i < L
          · have hi : (i : Int) < (l0.length : Int) := by have := HL.out; omega
            obtain ⟨ad, ead, hx0⟩ := Kd.at_string HR0.out (i : Int) (by omega) hi
            cases ead
            replace hx0 := (inv.bel.cell (World.block_lt_of_cell? w _ hx0)).trans hx0
            simp only [Int.toNat_natCast] at hx0
            have hiN : i < l0.length := by omega
            have hkey : rdOf ByteArray.empty l0 (i : Int) = l0[i]'hiN := by
              unfold rdOf
              rw [Int.toNat_natCast, List.getD_eq_getElem?_getD, List.getElem?_eq_getElem hiN]
              rfl
            have hsize : (rdOf ByteArray.empty l0 (i : Int)).size ≤ 9223372036854775807 := by
              rw [hkey]
              have := List.all_eq_true.1 hb _ (List.getElem_mem hiN)
              exact of_decide_eq_true this
            have HKEY := Aside0.mk hkey
            clear hkey
            generalize rdOf ByteArray.empty l0 (i : Int) = key at hx0 hsize HKEY
            have p0 : (0 ≤ (i : Int)) = True := eq_true (by omega)
            have q0 : ((i : Int) < (L : Int)) = True := eq_true (by omega)
            gi_wp2_with (first | (refine ⟨trivial, ?_⟩; gi_at_call 16; rw [HM8.out]; refine (callsIn_wide.2 (places_calls key (m : Int) (K : Int) W)).mono ?_; rintro e w1 ⟨rfl, hp1, hp2, hp3, hp4, hp5⟩))
            have hB1 := below_step inv.bel hp5
            have hsW : w.heap.size + 2 ≤ W.heap.size := by have := (Array.getElem?_eq_some_iff.1 inv.box).1; omega
            have hrow1 := inv.row.kept (below_grownBy hp5) (.inr (by simp [Value.ownBlock]))
            have hbox1 := (hp5.block _ (by omega)).trans inv.box
            have hmk1 : ∀ D ∈ Ds, D < w1.heap.size ∧ w1.heap[D]? = some (.deferred (some [])) := fun D hD => by
              have h9 := (inv.mks D hD).2
              have h8 := (Array.getElem?_eq_some_iff.1 h9).1
              exact ⟨by omega, (hp5.block D h8).trans h9⟩
            refine wpIn_rangeFunc_ownF (α := Fin m) rfl (by omega) (gf := 18) (lb := #[.pointer (some ⟨W.heap.size, 0, none⟩), .pointer (some ⟨W.heap.size + 1 + 1, 0, none⟩), .pointer (some ⟨W.heap.size + 1, 0, none⟩)]) rfl trivial (enters_of Try.func18 (by kernel_rfl) rfl)
              (places_stops (3 - 1) (by omega) W.heap.size (W.heap.size + 1 + 1) (W.heap.size + 1) key K m hsize hm0 hm2 (by omega) w1 hp1 hp2 hp3) KpB_t (KpB_b (by rw [hp4]; omega)) (Below.refl _ _) (fun _ => rfl)
              (fun pre W' => (W'.ownsRow w.heap.size 5 1 (.slice (some ⟨w.heap.size, 0, none⟩) N (N + 1)) N ((setFold m xs pre).map (Value.int .u8)) ∧ W'.heap[w.heap.size + 1]? = some (.cells #[.slice (some ⟨w.heap.size, 0, none⟩) N (N + 1)] 36 (0, 0)) ∧ (∀ D ∈ Ds, W'.heap[D]? = some (.deferred (some [])))) ∧ Below w.heap.size w W')
              (fun _ _ _ => False)
              (OwnFrom.and (fun s A B row hs hg hr => ⟨hs.1.kept hg (.inr (fun e => by
                  have h9 := (hr w.heap.size (by rw [← e]; rfl)).1
                  omega)), (hg.block _ (Array.getElem?_eq_some_iff.1 hs.2.1).1 (fun e => by
                  have h9 := (hr (w.heap.size + 1) e.symm).1
                  omega)).trans hs.2.1, fun D hD => (hg.block _ (Array.getElem?_eq_some_iff.1 (hs.2.2 D hD)).1 (fun e => by
                  have h9 := (hr D e.symm).1
                  have h8 := (hmk1 D hD).1
                  omega)).trans (hs.2.2 D hD)⟩) (ownFrom_below (Nat.le_refl _) (by omega)))
              (fun _ _ _ _ _ hs _ _ => hs)
              ⟨⟨hrow1, hbox1, fun D hD => (hmk1 D hD).2⟩, hB1⟩
              (fun x => { tmps := #[.slice (some ad) L c0, .int .i64 (E : Int), undef, undef, .string { data := #[] }, .nilIface, .int .i64 (N : Int), .int .i64 (K : Int), .pointer (some ⟨w.heap.size + 1, 0, none⟩), undef, .string key, .int .i64 (x.val : Int), .bool false, .int .i64 (E : Int), .bool false, .bool false, .int .i64 (E : Int), .bool false, .bool false, undef, .bool false, .slice (some ad) L c0, .int .i64 (L : Int), .bool false, undef, .slice (some ad) L c0, .int .i64 (L : Int), .int .i64 (E : Int), .int .i64 (wrap64 ((L : Int) * (E : Int))), .int .i64 (Q : Int), .int .i64 ((Q : Int) + 7), .int .i64 (N : Int), .int .i64 (E : Int), .int .i64 ((E : Int) * 69), .int .i64 ((E : Int) * 69 / 100), .int .i64 (K : Int), .int .i64 (N : Int), .int .i64 (N : Int), .int .i64 ((N : Int) + 1), .slice (some ⟨w.heap.size, 0, none⟩) N (N + 1), .slice (some ad) L c0, .int .i64 (L : Int), .int .i64 (i : Int), .bool true, .pointer (some (ad.add i)), .string key, .string key, .int .i64 (N : Int), .int .i64 (m : Int), .int .i64 (K : Int), .func (.func 18) #[] #[.pointer (some ⟨W.heap.size, 0, none⟩), .pointer (some ⟨W.heap.size + 1 + 1, 0, none⟩), .pointer (some ⟨W.heap.size + 1, 0, none⟩)], .int .i64 (x.val : Int), u52, u53, u54, u55, u56, u57, u58, u59, u60, u61, u62, undef, undef, undef, undef, undef, undef], defers := [] }) ?assign ?body ?done ?stop
            case assign =>
              intro l x W9 K9 hK
              gi_wp2
              exact hK
            case body =>
              rintro l pre ⟨q, hq⟩ W9 ⟨⟨hrw, hbx, hmks⟩, hB⟩ _
              dsimp only
              obtain ⟨x, hx⟩ : ∃ x, (setFold m xs pre).getD (q / 8) 0 = x := ⟨_, rfl⟩
              have hxl : (setFold m xs pre).length = N := by have := hrw.1; rw [List.length_map, Nat.mul_one] at this; exact this
              have hq8 : q / 8 < N := by have := HMN.out; omega
              have hcx : W9.cell? ⟨w.heap.size, q / 8, none⟩ = some (.int .u8 x) := by
                rw [hrw.cellAt (q / 8) (by omega), List.getElem?_map, List.getElem?_eq_getElem (by omega)]
                rw [← hx, List.getD_eq_getElem?_getD, List.getElem?_eq_getElem (by omega)]
                rfl
              have hfx := hrw.frozenAt (q / 8)
              have hcb : W9.cell? ⟨w.heap.size + 1, 0, none⟩ = some (.slice (some ⟨w.heap.size, 0, none⟩) N (N + 1)) := by rw [cell_of_row W9 _ 0 _ _ _ hbx]; rfl
              have p0 : (0 ≤ (q : Int) / 8) = True := eq_true (by omega)
              have q0 : ((q : Int) / 8 < (N : Int)) = True := eq_true (by omega)
              have j0 : ((q : Int) / 8).toNat = q / 8 := by omega
              have hsh := shl7 Try.prog q (by omega)
              gi_wp2
              refine startR_ (m := 11) (S := fun w' => w'.cell? ⟨w.heap.size + 1, 0, none⟩ = some (.slice (some ⟨w.heap.size, 0, none⟩) N (N + 1)) ∧ w'.cell? ⟨w.heap.size, q / 8, none⟩ = some (.int .u8 x)) (ds := [10]) #[false, false, false, false, false, false, false, false, false, false, false] (by kernel_rfl) (by kernel_rfl) (fun ⟨_, _, h⟩ => h) rfl rfl ⟨hcb, hcx⟩ (fun hHeld => ?_)
              have n0_ := Aside0.mk (World.ownsRow.drew hrw); have n1_ := Aside0.mk (show W9.drew.heap[w.heap.size + 1]? = _ from hbx); have n2_ := Aside0.mk (show Below w.heap.size w W9.drew from Yd hB); have n3_ := Aside0.mk (show ∀ D ∈ Ds, W9.drew.heap[D]? = some (.deferred (some [])) from hmks); have n4_ := Aside0.mk (show W9.drew.frozen? ⟨w.heap.size, q / 8, none⟩ = false from hfx); have n5_ := Aside0.mk (show KeepsOthers W9 W9.drew from ⟨Nat.le_refl _, fun _ _ h _ => h⟩); have n6_ := Aside0.mk (show KpB (W.heap.size + 1) W9 W9.drew from rfl)
              clear hrw hbx hB hmks hcb hcx hfx
              generalize W9.drew = w20 at n0_ n1_ n2_ n3_ n4_ n5_ n6_ hHeld ⊢
              obtain ⟨hcb, hcx⟩ := hHeld
              have hHeld := And.intro hcb hcx
              have hfx := n4_.out
              refine take_ (i := 0) (N := some 52) (v := ?_) (a' := ?_) #[true, false, false, false, false, false, false, false, false, false, false] rfl rfl (by kernel_rfl) (fun _ _ _ h => h) (Or.inl ⟨by rfl, ?_⟩) hHeld ?_ ?_
              rotate_left
              · rintro w' ⟨s0, s1⟩
                go_simp
                with_reducible rfl
              rotate_left
              · simp only [Act.put, List.setIfInBounds_toArray, List.set_cons_zero, List.set_cons_succ, i64_w, i32_w]
                rfl
              refine pure_ (i := 1) (N := some 53) (v := ?_) (a' := ?_) #[true, true, false, false, false, false, false, false, false, false, false] rfl rfl (by kernel_rfl) (fun _ _ _ h => h) (Or.inl ⟨by rfl, ?_⟩) ?_ ?_
              rotate_left
              · intro w'
                go_simp
                with_reducible rfl
              rotate_left
              · simp only [Act.put, List.setIfInBounds_toArray, List.set_cons_zero, List.set_cons_succ, i64_w, i32_w]
                rfl
              refine pure_ (i := 2) (N := some 54) (v := ?_) (a' := ?_) #[true, true, true, false, false, false, false, false, false, false, false] rfl rfl (by kernel_rfl) (fun _ _ _ h => h) (Or.inl ⟨by rfl, ?_⟩) ?_ ?_
              rotate_left
              · intro w'
                go_simp
                with_reducible rfl
              rotate_left
              · simp only [Act.put, List.setIfInBounds_toArray, List.set_cons_zero, List.set_cons_succ, i64_w, i32_w]
                rfl
              refine pure_ (i := 3) (N := some 55) (v := ?_) (a' := ?_) #[true, true, true, true, false, false, false, false, false, false, false] rfl rfl (by kernel_rfl) (fun _ _ _ h => h) (Or.inl ⟨by rfl, ?_⟩) ?_ ?_
              rotate_left
              · intro w'
                go_simp
                with_reducible rfl
              rotate_left
              · simp only [Act.put, List.setIfInBounds_toArray, List.set_cons_zero, List.set_cons_succ, i64_w, i32_w]
                rfl
              refine take_ (i := 4) (N := some 56) (v := ?_) (a' := ?_) #[true, true, true, true, true, false, false, false, false, false, false] rfl rfl (by kernel_rfl) (fun _ _ _ h => h) (Or.inl ⟨by rfl, ?_⟩) hHeld ?_ ?_
              rotate_left
              · rintro w' ⟨s0, s1⟩
                go_simp
                with_reducible rfl
              rotate_left
              · simp only [Act.put, List.setIfInBounds_toArray, List.set_cons_zero, List.set_cons_succ, i64_w, i32_w]
                rfl
              refine pure_ (i := 5) (N := some 57) (v := ?_) (a' := ?_) #[true, true, true, true, true, true, false, false, false, false, false] rfl rfl (by kernel_rfl) (fun _ _ _ h => h) (Or.inl ⟨by rfl, ?_⟩) ?_ ?_
              rotate_left
              · intro w'
                go_simp
                with_reducible rfl
              rotate_left
              · simp only [Act.put, List.setIfInBounds_toArray, List.set_cons_zero, List.set_cons_succ, i64_w, i32_w]
                rfl
              refine pure_ (i := 6) (N := some 58) (v := ?_) (a' := ?_) #[true, true, true, true, true, true, true, false, false, false, false] rfl rfl (by kernel_rfl) (fun _ _ _ h => h) (Or.inl ⟨by rfl, ?_⟩) ?_ ?_
              rotate_left
              · intro w'
                go_simp
                with_reducible rfl
              rotate_left
              · simp only [Act.put, List.setIfInBounds_toArray, List.set_cons_zero, List.set_cons_succ, i64_w, i32_w]
                rfl
              refine pure_ (i := 7) (N := some 59) (v := ?_) (a' := ?_) #[true, true, true, true, true, true, true, true, false, false, false] rfl rfl (by kernel_rfl) (fun _ _ _ h => h) (Or.inl ⟨by rfl, ?_⟩) ?_ ?_
              rotate_left
              · intro w'
                go_simp
                with_reducible rfl
              rotate_left
              · simp only [Act.put, List.setIfInBounds_toArray, List.set_cons_zero, List.set_cons_succ, i64_w, i32_w]
                rfl
              refine pure_ (i := 8) (N := some 60) (v := ?_) (a' := ?_) #[true, true, true, true, true, true, true, true, true, false, false] rfl rfl (by kernel_rfl) (fun _ _ _ h => h) (Or.inl ⟨by rfl, ?_⟩) ?_ ?_
              rotate_left
              · intro w'
                go_simp
                with_reducible rfl
              rotate_left
              · simp only [Act.put, List.setIfInBounds_toArray, List.set_cons_zero, List.set_cons_succ, i64_w, i32_w]
                rfl
              refine pure_ (i := 9) (N := some 61) (v := ?_) (a' := ?_) #[true, true, true, true, true, true, true, true, true, true, false] rfl rfl (by kernel_rfl) (fun _ _ _ h => h) (Or.inl ⟨by rfl, ?_⟩) ?_ ?_
              rotate_left
              · intro w'
                go_simp
                with_reducible rfl
              rotate_left
              · simp only [Act.put, List.setIfInBounds_toArray, List.set_cons_zero, List.set_cons_succ, i64_w, i32_w]
                rfl
              refine last_ (i := 10) (N := none) #[true, true, true, true, true, true, true, true, true, true, true] rfl rfl (by kernel_rfl) (by decide) (fun K hK => ?_)
              refine skip_ (w1 := ?_) (by rfl) rfl ?_ ?_
              rotate_left
              · go_simp
                rfl
              refine hK.out _ _ ?_
              clear hK K
              refine done_ (by kernel_rfl) ?_
              have hsz9 : w.heap.size + 2 ≤ W.heap.size := hsW
              refine ⟨n5_.out.trans (KeepsOthers.setCell _ _ _), ?_, ⟨⟨?_, ?_, ?_⟩, n2_.out.setCell (p := ⟨w.heap.size, q / 8, none⟩) (Nat.le_refl _) _⟩⟩
              · exact (Below.heap_setCell w20 ⟨w.heap.size, q / 8, none⟩ _ (W.heap.size + 1) (by simp; omega)).trans n6_.out
              · have hs := (n0_.out.stored (q / 8) (.int .u8 (bits .or .u8 x (2 ^ (q % 8))))).1
                rw [setFold_snoc]
                unfold setBit
                rw [hx, List.map_set]
                exact hs
              · exact (Below.heap_setCell w20 ⟨w.heap.size, q / 8, none⟩ _ (w.heap.size + 1) (by simp)).trans n1_.out
              · intro D hD
                exact (Below.heap_setCell w20 ⟨w.heap.size, q / 8, none⟩ _ D (by have := (inv.mks D hD).1; simp; omega)).trans (n3_.out D hD)
            case done =>
              rintro D ys W9 hD rfl ⟨⟨hrw, hbx, hmks⟩, hB⟩ hK
              gi_wp2
              refine ⟨⟨i + 1, setFold m xs (plcs key m hm0 K), D :: Ds, _, _, _, _, _, _, _, _, _, _, _, _, _, _, _, _, _, _, _, _, _, _, rfl, ?_⟩, ?_⟩
              · refine ⟨hiN, hrw, hbx, ?_, ?_, List.nodup_cons.2 ⟨fun hin => by have h9 := (hmk1 D hin).1; omega, inv.nd⟩, hB⟩
                · rw [List.take_succ_eq_append_getElem hiN, List.foldl_append, ← inv.val, HKEY.out]
                  rfl
                · intro D' hD'
                  rcases List.mem_cons.1 hD' with rfl | hD'
                  · exact ⟨by omega, hK⟩
                  · exact ⟨(inv.mks D' hD').1, hmks D' hD'⟩
              · show L - ((i : Int) + 1).toNat < L - (i : Int).toNat
                omega
            case stop =>
              rintro D c pre W9 _ _ h _
              exact h.elim
          · have hiL' : i = L := by omega
            have hxl : xs.length = N := by have := inv.row.1; rw [List.length_map, Nat.mul_one] at this; exact this
            have hbx : W.cell? ⟨w.heap.size + 1, 0, none⟩ = some (.slice (some ⟨w.heap.size, 0, none⟩) N (N + 1)) := by rw [cell_of_row W _ 0 _ _ _ inv.box]; rfl
            have hbf : W.frozen? ⟨w.heap.size + 1, 0, none⟩ = false := frozen_of_row W _ 0 _ _ inv.box
            have hsW : w.heap.size + 2 ≤ W.heap.size := by have := (Array.getElem?_eq_some_iff.1 inv.box).1; omega
            have INV := Aside0.mk inv
            clear inv hlt
            have hlt : ¬ (i : Int) < (L : Int) := by omega
            obtain ⟨i0, hi, hzz⟩ := Option.map_eq_some_iff.1 (show (Try.prog.info? 5).map (fun i => (i.zero, i.size, i.bytes)) = some (some (.int .u8 0), 1, 1) by kernel_rfl)
            simp only [Prod.mk.injEq] at hzz
            obtain ⟨hz0, hz1, hz2⟩ := hzz
            gi_wp2_with (first | (gi_at_builtin; refine wpListIn_append_fits (W.alloc (.cells #[.int .u8 (K : Int)] 5)) rfl (.tmp 63) (.tmp 66) 36 rfl w.heap.size 5 i0 1 Try.underlying36 hi hz1 w.heap.size N (N + 1) (xs.map (Value.int .u8)) rfl (INV.out.row.alloc _) ⟨W.heap.size, 0, none⟩ 1 1 [.int .u8 (K : Int)] rfl rfl (cell_one2 W _ _) (by simp [Value.oneCell']) (by omega) ?_; intro w9 hown hgrow; have hcv := Kd.C_string (P := Try.prog) (A := some ⟨w.heap.size, 0, none⟩) (c := N + 1) Try.underlying36 Try.underlying5 Try.underlying9 (BRow.reads (owns_brow (n := N + 1) (xs := xs ++ [(K : Int)]) (by rw [List.length_append, hxl]; rfl) (by rw [List.map_append]; exact hown))); rw [show (xs ++ [(K : Int)]).length = N + 1 by rw [List.length_append, hxl]; rfl] at hcv; have HG := Aside0.mk hgrow; clear hown hgrow))
            have hfin := make_eq HL.out hNB.out HMN.out HK.out hiL' INV.out.val
            have HHo := HH.out
            rw [hfin, ← HK.out] at HHo
            simp only [Prod.mk.injEq] at HHo
            obtain ⟨rfl, rfl⟩ := HHo
            have hbw : Below w.heap.size w w9 := (INV.out.bel.alloc (by omega) _).grown HG.out (by rw [World.size_alloc]; omega) (fun k e => by cases e; exact Nat.le_refl _)
            refine leaves_marks w.heap.size Ds w9 (fun D hD => ?_) INV.out.nd (fun W' hW' => ⟨_, results_tmp2 rfl _ _ _, rfl, hbw.trans hW'⟩)
            have h9 := INV.out.mks D hD
            have h8 := (Array.getElem?_eq_some_iff.1 h9.2).1
            refine ⟨by omega, ?_⟩
            rw [HG.out.block D (by rw [World.size_alloc]; omega) (by simp; omega), heap_alloc_old W _ h8]
            exact h9.2
        --END
  · rw [if_neg hb] at h
    cases h
end Go.Proofs.Ytadfbclebdocnaa.Print
