/- Contracts proved by hand: see the theorems' own lines. -/
import Derived.Test.YtadfbclebdocnaaHBloomPlaces
import Derived.Test.YtadfbclebdocnaaPrint0
namespace Go.Proofs.Ytadfbclebdocnaa.Print
open Go.RowKit Go.Shelf Go.Proofs.YtadfbclebdocnaaW.PrintWords Go.Proofs.YtadfbclebdocnaaW.PrintLast Go.Proofs.YtadfbclebdocnaaX
set_option linter.unusedVariables false
set_option linter.unusedSimpArgs false
attribute [local go_sem] Oper.semAt_some

/-- The bit at a place. -/
def mbit (s : ByteArray) (p : Nat) : Int := bits .and .u8 (bt s ((p / 8 : Nat) : Int) / 2 ^ (p % 8)) 1
def mayK (s key : ByteArray) (k : Nat) (hk : 0 < k) : Bool :=
  if bt s (k : Int) = 0 ∨ 30 < bt s (k : Int) then true
  else (plcs key (8 * k) (by omega) (bt s (k : Int)).toNat).all fun p => mbit s p.val != 0
def mayR (s key : ByteArray) : Bool := if h : s.size ≤ 1 then true else mayK s key (s.size - 1) (by omega)
def bloom_May.f (s key : ByteArray) : Option Bool := if s.size ≤ 140737488355328 ∧ key.size ≤ 9223372036854775807 then some (mayR s key) else none

set_option maxHeartbeats 4000000 in
set_option maxRecDepth 100000 in
theorem bloom_May.calls (s key : ByteArray) (r : Bool) (w : World) (h : bloom_May.f s key = some r) :
    Calls Try.prog 14 #[.string s, .string key] w fun e w' => e = .returned (.bool r) ∧ Below w.heap.size w w' := by
  unfold bloom_May.f at h
  by_cases hb : s.size ≤ 140737488355328 ∧ key.size ≤ 9223372036854775807
  · rw [if_pos hb] at h
    obtain ⟨hs, hk⟩ := hb
    have H := Option.some.inj h
    clear h
    unfold mayR at H
    refine (callsIn_wide (n := 3)).1 ?_
    have hB0 : Below w.heap.size w ((w.alloc (.cells #[.string s] 9)).alloc (.cells #[.bool false] 4)) := ((Below.refl _ w).alloc (Nat.le_refl _) _).alloc (by simp) _
    by_cases c1 : s.size ≤ 1
    · rw [dif_pos c1] at H
      subst H
      refine callsIn_of_wp_marks Try.func14 rfl trivial ?_ rfl
      simp only [Try.ntmps14, List.size_toArray, List.length_cons, List.length_nil, Nat.reduceAdd, Nat.reduceSub, Array.replicate_succ, Array.replicate_zero, List.push_toArray, List.append_toArray, List.nil_append, List.cons_append]
      have c1b : decide (wrap64 ((s.size : Int) - 1) < 1) = true := decide_eq_true (by unfold wrap64; omega)
      gi_wp2
      have hn := cell_new2 (w.alloc (.cells #[.string s] 9)) (.bool true) 4
      rw [World.size_alloc] at hn
      refine ⟨.bool true, ?_, rfl, ((Below.refl _ w).alloc (Nat.le_refl _) _).alloc (by simp) _⟩
      simp [results, Try.f14, go_sem, hn.1]
    · rw [dif_neg c1] at H
      obtain ⟨k, hk0, hk1, H⟩ : ∃ k, ∃ h : 0 < k, s.size = k + 1 ∧ mayK s key k h = r := ⟨s.size - 1, by omega, by omega, H⟩
      have hk2 : (s.size : Int) - 1 = (k : Int) := by omega
      have hk3 : decide ((k : Int) < 1) = false := decide_eq_false (by omega)
      have hx : ∀ h : k < s.size, ((s[k]'h).toNat : Int) = bt s (k : Int) := fun h => bt_at s (k : Int) h
      have hp : (0 ≤ (k : Int)) = True := eq_true (by omega)
      have hq : ((k : Int) < (s.size : Int)) = True := eq_true (by omega)
      have hbr := bt_range s (k : Int)
      unfold mayK at H
      refine callsIn_of_wp_marks Try.func14 rfl trivial ?_ rfl
      simp only [Try.ntmps14, List.size_toArray, List.length_cons, List.length_nil, Nat.reduceAdd, Nat.reduceSub, Array.replicate_succ, Array.replicate_zero, List.push_toArray, List.append_toArray, List.nil_append, List.cons_append]
      by_cases c2 : bt s (k : Int) = 0
      · rw [if_pos (.inl c2)] at H
        subst H
        have c2b : (bt s (k : Int) == 0) = true := beq_iff_eq.mpr c2
        clear c2
        gi_wp2
        have hn := cell_new2 (w.alloc (.cells #[.string s] 9)) (.bool true) 4
        rw [World.size_alloc] at hn
        refine ⟨.bool true, ?_, rfl, ((Below.refl _ w).alloc (Nat.le_refl _) _).alloc (by simp) _⟩
        simp [results, Try.f14, go_sem, hn.1]
      · by_cases c3 : 30 < bt s (k : Int)
        · rw [if_pos (.inr c3)] at H
          subst H
          have c2b : (bt s (k : Int) == 0) = false := beq_eq_false_iff_ne.mpr c2
          have c3b : decide (30 < bt s (k : Int)) = true := decide_eq_true c3
          clear c2 c3
          gi_wp2
          have hn := cell_new2 (w.alloc (.cells #[.string s] 9)) (.bool true) 4
          rw [World.size_alloc] at hn
          refine ⟨.bool true, ?_, rfl, ((Below.refl _ w).alloc (Nat.le_refl _) _).alloc (by simp) _⟩
          simp [results, Try.f14, go_sem, hn.1]
        · rw [if_neg (by omega)] at H
          have c2b : (bt s (k : Int) == 0) = false := beq_eq_false_iff_ne.mpr c2
          have c3b : decide (30 < bt s (k : Int)) = false := decide_eq_false c3
          have hkk0 : 0 ≤ bt s (k : Int) := hbr.1
          obtain ⟨kk, hkk⟩ : ∃ kk : Nat, bt s (k : Int) = (kk : Int) := ⟨(bt s (k : Int)).toNat, by omega⟩
          have hkk2 : kk ≤ 30 := by omega
          obtain ⟨m, hm⟩ : ∃ m : Nat, m = 8 * k := ⟨_, rfl⟩
          have hm0 : 0 < m := by omega
          have HM : Aside0 ((k : Int) * 8 = (m : Int)) := ⟨by omega⟩
          have HK := Aside0.mk hkk
          have HH : Aside0 (((plcs key m hm0 kk).all fun p => mbit s p.val != 0) = r) := ⟨by rw [hkk, Int.toNat_natCast] at H; subst hm; exact H⟩
          have hm2 : m ≤ 2000000000000000 := by omega
          have hm8 : m = 8 * k := hm
          have hc0 := (cell_new2 w (.string s) 9)
          have hc1 := (cell_new2 (w.alloc (.cells #[.string s] 9)) (.bool false) 4)
          have hc0' := cell_alloc2 (.cells #[.bool false] 4) hc0.1
          have hsz : ((w.alloc (.cells #[.string s] 9)).alloc (.cells #[.bool false] 4)).heap.size = w.heap.size + 2 := by rw [World.size_alloc, World.size_alloc]
          rw [World.size_alloc] at hc1
          have HB0 := Aside0.mk hB0; have HC0 := Aside0.mk hc0'; have HC1 := Aside0.mk hc1; have HSZ := Aside0.mk hsz
          clear c2 c3 hc0 hc1 hc0' hB0 hsz hkk H hm
          gi_wp2_with (first | (refine ⟨trivial, ?_⟩; gi_at_call 16; rw [HM.out, HK.out]; (generalize ((w.alloc (.cells #[.string s] 9)).alloc (.cells #[.bool false] 4)) = W1 at HB0 HC0 HC1 HSZ ⊢); refine (callsIn_wide.2 (places_calls key (m : Int) (kk : Int) W1)).mono ?_; rintro e w1 ⟨rfl, hp1, hp2, hp3, hp4, hp5⟩))
          have hB1 := below_step HB0.out hp5
          have hC0 := (hp5.cell (World.block_lt_of_cell? _ _ HC0.out)).trans HC0.out
          have hC1 := (hp5.cell (World.block_lt_of_cell? _ _ HC1.out.1)).trans HC1.out.1
          have hF1 : w1.frozen? ⟨w.heap.size + 1, 0, none⟩ = false := (hp5.frozen (World.block_lt_of_cell? _ _ HC1.out.1)).trans HC1.out.2
          refine wpIn_rangeFunc_ownF (α := Fin m) rfl (by omega) (gf := 18) (lb := #[.pointer (some ⟨W1.heap.size, 0, none⟩), .pointer (some ⟨W1.heap.size + 1 + 1, 0, none⟩), .pointer (some ⟨W1.heap.size + 1, 0, none⟩)]) rfl trivial (enters_of Try.func18 (by kernel_rfl) rfl)
            (places_stops (3 - 1) (by omega) W1.heap.size (W1.heap.size + 1 + 1) (W1.heap.size + 1) key kk m hk hm0 hm2 (by omega) w1 hp1 hp2 hp3) KpB_t (KpB_b (by rw [hp4]; have := HSZ.out; omega)) (Below.refl _ _) (fun _ => rfl)
            (fun pre W => ((∀ y ∈ pre, mbit s y.val ≠ 0) ∧ W.cell? ⟨w.heap.size, 0, none⟩ = some (.string s) ∧ W.cell? ⟨w.heap.size + 1, 0, none⟩ = some (.bool false) ∧ W.frozen? ⟨w.heap.size + 1, 0, none⟩ = false) ∧ Below w.heap.size w W)
            (fun c pre W => (c = .ret ∧ (∃ y ∈ pre, mbit s y.val = 0) ∧ W.cell? ⟨w.heap.size + 1, 0, none⟩ = some (.bool false)) ∧ Below w.heap.size w W)
            (OwnFrom.and (Own.from (fun q A B row hs hg hr => ⟨hs.1, cell_kept hs.2.1 hg hr, cell_kept hs.2.2.1 hg hr, (frozen_kept hs.2.2.1 hg hr).trans hs.2.2.2⟩) _) (ownFrom_below (Nat.le_refl _) (by rw [hp4]; have := HSZ.out; omega)))
            (fun c => OwnFrom.and (Own.from (fun q A B row hs hg hr => ⟨hs.1, hs.2.1, cell_kept hs.2.2 hg hr⟩) _) (ownFrom_below (Nat.le_refl _) (by rw [hp4]; have := HSZ.out; omega)))
            ⟨⟨by simp, hC0, hC1, hF1⟩, hB1⟩
            (fun x => { tmps := #[.string s, .string key, .pointer (some ⟨w.heap.size, 0, none⟩), undef, .pointer (some ⟨w.heap.size + 1, 0, none⟩), .int .i64 (k : Int), .int .i64 (x.val : Int), .string s, .int .i64 ((k : Int) + 1), .int .i64 (k : Int), .int .i64 (k : Int), .bool false, .bool false, .string s, .int .i64 (k : Int), .int .u8 (kk : Int), .bool false, .bool false, .bool false, .string s, .int .i64 (k : Int), .int .u8 (kk : Int), .bool false, .bool false, .string key, .int .i64 (k : Int), .int .i64 (8 * (k : Int)), .string s, .int .i64 (k : Int), .int .u8 (kk : Int), .int .i64 (kk : Int), .func (.func 18) #[] #[.pointer (some ⟨W1.heap.size, 0, none⟩), .pointer (some ⟨W1.heap.size + 1 + 1, 0, none⟩), .pointer (some ⟨W1.heap.size + 1, 0, none⟩)], .int .i64 (x.val : Int), undef, undef, undef, undef, undef, undef, undef, undef, undef], defers := [] }) ?assign ?body ?done ?stop
          case assign =>
            intro l x W K hK
            gi_wp2
            exact hK
          case body =>
            rintro l pre ⟨q, hq⟩ W ⟨⟨hp, hcw, hcr, hfr⟩, hB⟩ _
            dsimp only
            obtain ⟨b, hbq⟩ : ∃ b : Int, bt s ((q / 8 : Nat) : Int) = b := ⟨_, rfl⟩
            obtain ⟨y, hyq⟩ : ∃ y : Int, b / 2 ^ (q % 8) = y := ⟨_, rfl⟩
            obtain ⟨z, hz⟩ : ∃ z : Int, bits .and .u8 y 1 = z := ⟨_, rfl⟩
            have hmb : Aside0 (mbit s q = z) := ⟨by unfold mbit; rw [hbq, hyq, hz]⟩
            have hx9 : ∀ h : q / 8 < s.size, ((s[q / 8]'h).toNat : Int) = b := fun h => (bt_at s ((q / 8 : Nat) : Int) h).trans hbq
            have hsh : ∀ W : World, (Op.shift BinOp.shr IntKind.u8 b IntKind.i64 (bits BinOp.and IntKind.i64 (q : Int) 7)).run Try.prog W = .ok (.int .u8 y) W := fun W => by
              have hq8 : q % 8 < 8 := Nat.mod_lt _ (by decide)
              rw [and7 q (by omega), shift_shr .u8 .i64 b _ (by omega) (by show _ ≤ (8 : Int); omega), Int.toNat_natCast, hyq]
              rfl
            clear hbq hyq
            by_cases cz : z = 0
            · have czb : (z == 0) = true := beq_iff_eq.mpr cz
              have CZ := Aside0.mk cz
              clear cz
              gi_wp2
              exact ⟨KeepsOthers.setCell _ _ _, ⟨rfl, ⟨⟨q, hq⟩, List.mem_append.2 (.inr (by simp)), hmb.out.trans CZ.out⟩, World.cell?_setCell_same' _ _ _ (by rw [hcr]; rfl)⟩, hB.setCell (p := ⟨w.heap.size + 1, 0, none⟩) (by simp) _⟩
            · have czb : (z == 0) = false := beq_eq_false_iff_ne.mpr cz
              have CZ := Aside0.mk cz
              clear cz
              gi_wp2
              exact ⟨KeepsOthers.refl _, rfl, ⟨fun y' hy' => (List.mem_append.1 hy').elim (hp y') (fun e e' => by
                have e2 : y' = ⟨q, hq⟩ := by simpa using e
                rw [e2] at e'
                exact CZ.out (hmb.out.symm.trans e')), hcw, hcr, hfr⟩, hB⟩
          case done =>
            rintro D ys W hD rfl ⟨⟨hne, _, hcr, hfr⟩, hB⟩ hK
            gi_wp2
            have hK' := (KeepsOthers.setCell W ⟨w.heap.size + 1, 0, none⟩ (.bool true)).same D _ hK rfl
            refine ⟨by simp, .inl ⟨_, _, rfl, run_takeDeferred hK', ?_⟩⟩
            have hc5 := cell_kept (World.cell?_setCell_same' W ⟨w.heap.size + 1, 0, none⟩ (.bool true) (by rw [hcr]; rfl)) (grownBy_putObj' _ D (.deferred none)) (fun r e => by cases e; exact ⟨_, hK', rfl⟩)
            refine ⟨.bool true, ?_, by rw [← HH.out, List.all_eq_true.2 (fun y hy => by simpa using hne y hy)], (hB.setCell (p := ⟨w.heap.size + 1, 0, none⟩) (by simp) _).trans (belowK_b (w := w) (Nat.le_refl _) _ D _ _ (by rw [hp4] at hD; have := HSZ.out; omega) hK' rfl rfl)⟩
            simp [results, Try.f14, go_sem, hc5]
          case stop =>
            rintro D c pre W hD hpre ⟨⟨rfl, ⟨y, hy, hyb⟩, hcr⟩, hB⟩ hK
            gi_wp2
            refine ⟨by simp, .inl ⟨_, _, rfl, run_takeDeferred hK, ?_⟩⟩
            have hc5 := cell_kept hcr (grownBy_putObj' _ D (.deferred none)) (fun r e => by cases e; exact ⟨_, hK, rfl⟩)
            refine ⟨.bool false, ?_, by rw [← HH.out, List.all_eq_false.2 ⟨y, hpre.subset hy, by simp [hyb]⟩], hB.trans (belowK_b (w := w) (Nat.le_refl _) W D _ _ (by rw [hp4] at hD; have := HSZ.out; omega) hK rfl rfl)⟩
            simp [results, Try.f14, go_sem, hc5]
  · rw [if_neg hb] at h
    cases h
end Go.Proofs.Ytadfbclebdocnaa.Print
