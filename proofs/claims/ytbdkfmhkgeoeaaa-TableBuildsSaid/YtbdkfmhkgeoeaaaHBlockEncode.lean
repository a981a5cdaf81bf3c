/- Contracts proved by hand: see the theorems' own lines. -/
import Derived.Test.YtbdkfmhkgeoeaaaHBlockWriter
import Derived.Test.YtbdkfmhkgeoeaaaPrint0
import Derived.Test.YtbdkfmhkgeoeaaaPrint3
import Derived.Test.YtbdkfmhkgeoeaaaPrint7
namespace Go.Proofs.Ytbdkfmhkgeoeaaa.Print
open Go.RowKit Go.Proofs.YtbdkfmhkgeoeaaaW.PrintWords Go.Proofs.YtbdkfmhkgeoeaaaW.PrintLast Go.Proofs.YtbdkfmhkgeoeaaaW.PrintMore Go.Proofs.YtbdkfmhkgeoeaaaX
set_option linter.unusedVariables false
set_option linter.unusedSimpArgs false

/-- A number, a text behind what is there. -/
def wnum (xs : List Int) (n : Int) : Option (List Int) := (pack_Num.f 1000 n).bind fun r => if xs.length + r.1.size ≤ 1000000000 then some (xs ++ bytesOf r.1) else none
def wtext (xs : List Int) (s : ByteArray) : Option (List Int) := (pack_Text.f 1000 s).bind fun r => if xs.length + r.1.size ≤ 1000000000 then some (xs ++ bytesOf r.1) else none
theorem wnum_some {xs ys : List Int} {n : Int} (h : wnum xs n = some ys) : ∃ r1 r2, pack_Num.f 1000 n = some (r1, r2) ∧ xs.length + r1.size ≤ 140737488355328 ∧ ys = xs ++ bytesOf r1 := by
  obtain ⟨⟨r1, r2⟩, h1, h2⟩ := Option.bind_eq_some_iff.1 h
  by_cases c : xs.length + r1.size ≤ 1000000000
  · rw [if_pos c] at h2
    exact ⟨r1, r2, h1, by omega, (Option.some.inj h2).symm⟩
  · rw [if_neg c] at h2; cases h2
theorem wtext_some {xs ys : List Int} {n : ByteArray} (h : wtext xs n = some ys) : ∃ r1 r2, pack_Text.f 1000 n = some (r1, r2) ∧ xs.length + r1.size ≤ 140737488355328 ∧ ys = xs ++ bytesOf r1 := by
  obtain ⟨⟨r1, r2⟩, h1, h2⟩ := Option.bind_eq_some_iff.1 h
  by_cases c : xs.length + r1.size ≤ 1000000000
  · rw [if_pos c] at h2
    exact ⟨r1, r2, h1, by omega, (Option.some.inj h2).symm⟩
  · rw [if_neg c] at h2; cases h2
/-- One entry behind what is there. -/
def encTail (e : S36) (n : Int) (xs : List Int) : Option (List Int) :=
  (wnum xs n).bind fun x1 => if 0 ≤ n ∧ n ≤ (e.f0.size : Int) then
    (wtext x1 (e.f0.extract n.toNat e.f0.size)).bind fun x2 => (wnum x2 e.f1).bind fun x3 =>
      if e.f2 = true then wnum x3 1 else (wnum x3 0).bind fun x4 => wtext x4 e.f3
  else none
def encOne (l : List S36) (i : Nat) (xs : List Int) : Option (List Int) :=
  if i % 4 = 0 then encTail (rd_T36 l i) 0 xs else (block_shared.f 1000 (rd_T36 l ((i : Int) - 1)).f0 (rd_T36 l i).f0).bind fun n => encTail (rd_T36 l i) n xs
def encLoop (l : List S36) : Nat → Nat → List Int → Option (List Int)
  | 0, _, xs => some xs
  | m + 1, i, xs => (encOne l i xs).bind fun ys => encLoop l m (i + 1) ys
def block_Encode.f (l : List S36) : Option (ByteArray × Option Int) :=
  if 200 < l.length then some (⟨#[]⟩, some 5)
  else (block_Sorted.f 1000 l).bind fun s => if s = true then (wnum [] (l.length : Int)).bind fun x0 => (encLoop l l.length 0 x0).bind fun xs => some (strOfNums xs, none) else some (⟨#[]⟩, some 1)
theorem wr_conv {W : World} {base gw : Nat} {v : Value} {xs : List Int} (h : Wr base gw v xs W) : (convert 83 9 v).run Try.prog W = .ok (.string (strOfNums xs)) W := by
  obtain ⟨A, c, e, hr⟩ := own_reads h.row
  rw [e]
  exact Kd.C_string (P := Try.prog) (A := A) (c := c) Try.underlying83 Try.underlying5 Try.underlying9 (Kd.C_of_reads (h1 := fun _ => rfl) (readsInt_of.1 hr))

theorem Wr.set {base gw ge j : Nat} {v u : Value} {xs : List Int} {W : World} {cs : Array Value} {t : TypeId} (h : Wr base gw v xs W) (hb : W.heap[ge]? = some (.cells cs t (0, 0))) (h1 : t ≠ 83) (h2 : t ≠ 5) : Wr base gw v xs (W.setCell ⟨ge, j, none⟩ u) := by
  refine ⟨(Below.heap_setCell W ⟨ge, j, none⟩ u gw (fun e => ?_)).trans h.box, ownsRow_setCell_other h.row (a := ⟨ge, j, none⟩) (fun e => ?_) u, h.gwb⟩
  · have e : gw = ge := e
    subst e
    have := hb.symm.trans h.box
    injection this with this
    injection this with _ this
    exact h1 this
  · obtain ⟨_, cur, hc⟩ := h.block ge e.symm
    have := hb.symm.trans hc
    injection this with this
    injection this with _ this
    exact h2 this
theorem ent_set {w w4 : World} {ge gw : Nat} {v z0 z1 z2 z3 : Value} {xs : List Int} (x0 : ByteArray) (x1 : Int) (x2 : Bool) (x3 : ByteArray) (HB : Below w.heap.size w w4) (GE : w.heap.size ≤ ge) (BE : w4.heap[ge]? = some (.cells #[z0, z1, z2, z3] 36 (0, 0))) (HV : Wr w.heap.size gw v xs w4) :
    ((((w4.setCell ⟨ge, 0, none⟩ (.string x0)).setCell ⟨ge, 1, none⟩ (.int .i64 x1)).setCell ⟨ge, 2, none⟩ (.bool x2)).setCell ⟨ge, 3, none⟩ (.string x3)).heap[ge]? = some (.cells #[.string x0, .int .i64 x1, .bool x2, .string x3] 36 (0, 0)) ∧
    Below w.heap.size w ((((w4.setCell ⟨ge, 0, none⟩ (.string x0)).setCell ⟨ge, 1, none⟩ (.int .i64 x1)).setCell ⟨ge, 2, none⟩ (.bool x2)).setCell ⟨ge, 3, none⟩ (.string x3)) ∧
    Wr w.heap.size gw v xs ((((w4.setCell ⟨ge, 0, none⟩ (.string x0)).setCell ⟨ge, 1, none⟩ (.int .i64 x1)).setCell ⟨ge, 2, none⟩ (.bool x2)).setCell ⟨ge, 3, none⟩ (.string x3)) := by
  have b1 : (w4.setCell ⟨ge, 0, none⟩ (.string x0)).heap[ge]? = some (.cells #[.string x0, z1, z2, z3] 36 (0, 0)) := blk_put (cs := #[z0, z1, z2, z3]) BE 0 _ rfl
  have b2 : ((w4.setCell ⟨ge, 0, none⟩ (.string x0)).setCell ⟨ge, 1, none⟩ (.int .i64 x1)).heap[ge]? = some (.cells #[.string x0, .int .i64 x1, z2, z3] 36 (0, 0)) := blk_put (cs := #[.string x0, z1, z2, z3]) b1 1 _ rfl
  have b3 : (((w4.setCell ⟨ge, 0, none⟩ (.string x0)).setCell ⟨ge, 1, none⟩ (.int .i64 x1)).setCell ⟨ge, 2, none⟩ (.bool x2)).heap[ge]? = some (.cells #[.string x0, .int .i64 x1, .bool x2, z3] 36 (0, 0)) := blk_put (cs := #[.string x0, .int .i64 x1, z2, z3]) b2 2 _ rfl
  exact ⟨blk_put (cs := #[.string x0, .int .i64 x1, .bool x2, z3]) b3 3 _ rfl, below_set (below_set (below_set (below_set HB GE) GE) GE) GE, Wr.set (Wr.set (Wr.set (Wr.set HV BE (by decide) (by decide)) b1 (by decide) (by decide)) b2 (by decide) (by decide)) b3 (by decide) (by decide)⟩
theorem str_from (s : ByteArray) (n : Int) (h0 : 0 ≤ n) (h1 : n ≤ (s.size : Int)) : ∀ W : World, (Instr.slice 9 (.string s) (some (.int .i64 n)) none none).run Try.prog W = .ok (.string (s.extract n.toNat s.size)) W := by
  intro W
  have p : (0 ≤ n) = True := eq_true h0
  have q : (n ≤ (s.size : Int)) = True := eq_true h1
  go_simp
set_option maxHeartbeats 8000000 in
set_option maxRecDepth 100000 in
theorem block_Encode.calls (A0 : Option Addr) (c0 : Nat) (l0 : List S36) (r1 : ByteArray) (r2 : Option Int) (w : World) (hr0 : Kd.C k36 w A0 l0.length l0) (hc0 : l0.length ≤ c0) (h : block_Encode.f l0 = some (r1, r2)) :
    Calls Try.prog 25 #[.slice A0 l0.length c0] w fun e w' => e = .returned (.tuple #[.string r1, errW r2]) ∧ Below w.heap.size w w' := by
  have HR0 := Aside0.mk hr0
  have HC0 := Aside0.mk hc0
  have HB := Aside0.mk (Below.refl w.heap.size w)
  clear hr0 hc0
  unfold block_Encode.f at h
  by_cases c1 : 200 < l0.length
  · rw [if_pos c1] at h
    obtain ⟨rfl, rfl⟩ := Prod.mk.inj (Option.some.inj h)
    have c1b : decide (200 < (l0.length : Int)) = true := decide_eq_true (by omega)
    clear c1 h
    go_enter Try.func25, Try.ntmps25
    go_wp2
    refine bodyPost_ret (results_tmp2 rfl _ _ _) rfl ?_
    exact ⟨rfl, HB.out⟩
  · rw [if_neg c1] at h
    have c1b : decide (200 < (l0.length : Int)) = false := decide_eq_false (by omega)
    obtain ⟨s, hs, h⟩ := Option.bind_eq_some_iff.1 h
    have HS := Aside0.mk hs
    clear hs
    cases s with
    | false =>
      rw [if_neg (by simp)] at h
      obtain ⟨rfl, rfl⟩ := Prod.mk.inj (Option.some.inj h)
      clear c1 h
      go_enter Try.func25, Try.ntmps25
      go_wp2_with (first | (go_at_call 21; (with_reducible refine (block_Sorted.calls 1000 A0 c0 l0 false _ HR0.out HC0.out HS.out).mono ?_); rintro e w1 ⟨rfl, hb⟩; have n0_ := Aside0.mk (Yv HB hb); clear HB hb; have HB := n0_; clear n0_))
      refine bodyPost_ret (results_tmp2 rfl _ _ _) rfl ?_
      exact ⟨rfl, HB.out⟩
    | true =>
      rw [if_pos rfl] at h
      obtain ⟨x0, hx0, h⟩ := Option.bind_eq_some_iff.1 h
      obtain ⟨ys, hys, h⟩ := Option.bind_eq_some_iff.1 h
      obtain ⟨rfl, rfl⟩ := Prod.mk.inj (Option.some.inj h)
      obtain ⟨a1, b1, hn1, hl1, rfl⟩ := wnum_some hx0
      have HN1 := Aside0.mk hn1; have HL1 := Aside0.mk hl1; have HY := Aside0.mk hys
      have HLEN : Aside0 (l0.length ≤ 200) := ⟨by omega⟩
      clear h hx0 hn1 hl1 hys c1
      go_enter Try.func25, Try.ntmps25
      go_wp2_with (first | (go_at_call 21; (with_reducible refine (block_Sorted.calls 1000 A0 c0 l0 true _ HR0.out HC0.out HS.out).mono ?_); rintro e w1 ⟨rfl, hb⟩; have n0_ := Aside0.mk (Yv HB hb); clear HB hb; have HB := n0_; clear n0_) | ((with_reducible refine gate_dst (N := 4) rfl ?_); refine box_event ?hg (N := 4) ?hd (cs := #[.slice none 0 0]) (t := 83) ?hr ?_; (case hd => rfl); (case hg => rfl); (case hr => first | (go_simp; done) | (go_simp; rfl)); intro gw hg w2 hbox hb; have n0_ := Aside0.mk (Yv HB hb); have HV := Aside0.mk (show Wr w.heap.size gw (.slice none 0 0) [] w2 from ⟨hbox, World.ownsRow_nil _ _ _ _, Yg HB hg⟩); clear HB hb hbox hg; have HB := n0_; clear n0_) | (go_at_call 47; (with_reducible refine (block_writer_num.calls (l0.length : Int) a1 b1 _ gw _ [] _ HN1.out HV.out HL1.out).mono ?_); rintro e w3 ⟨rfl, v1, hv, hk⟩; have n0_ := Aside0.mk (Wr.below HV.out hk HB.out); clear HB HV hk; have HB := n0_; have HV := Aside0.mk hv; clear n0_ hv))
      go_loopg [23] l0.length (fun kq v23 w' => ∃ (i : Nat) (xs : List Int) (v : Value), v23 = .int .i64 i ∧ Aside0 (i + kq = l0.length) ∧ Aside0 (encLoop l0 kq i xs = some ys) ∧ Aside0 (Wr w.heap.size gw v xs w') ∧ Aside0 (Below w.heap.size w w'))
      case atStart => exact ⟨0, _, _, rfl, ⟨by omega⟩, HY, HV, HB⟩
      case round =>
        clear HV HY
        obtain ⟨i, xs, v, rfl, HI, HY, HV, HB⟩ := hrel
        cases gk with
        | zero =>
          have hlt : ¬ (i : Int) < (l0.length : Int) := by have := HI.out; omega
          have hH := Option.some.inj HY.out
          subst hH
          have HBX := Aside0.mk HV.out.box
          obtain ⟨hc, hf⟩ := Zk1 HBX
          have hcv := wr_conv HV.out
          go_wp2
          refine bodyPost_ret (results_tmp2 rfl _ _ _) rfl ?_
          exact ⟨rfl, HB.out⟩
        | succ m =>
          have hI := HI.out
          have hi1 : i < l0.length := by omega
          have hlt : (i : Int) < (l0.length : Int) := by omega
          obtain ⟨zs, hzs, hY⟩ := Option.bind_eq_some_iff.1 (show ((encOne l0 i xs).bind fun ys => encLoop l0 m (i + 1) ys) = some ys from HY.out)
          have HY1 := Aside0.mk hY
          clear HY hY
          have HLE := HLEN.out
          obtain ⟨ad, ead, hx0, hx1, hx2, hx3⟩ := at_T36 HR0.out (i : Int) (by omega) hlt
          cases ead
          replace hx0 := (HB.out.cell (World.block_lt_of_cell? w _ hx0)).trans hx0
          replace hx1 := (HB.out.cell (World.block_lt_of_cell? w _ hx1)).trans hx1
          replace hx2 := (HB.out.cell (World.block_lt_of_cell? w _ hx2)).trans hx2
          replace hx3 := (HB.out.cell (World.block_lt_of_cell? w _ hx3)).trans hx3
          simp only [Int.toNat_natCast] at hx0 hx1 hx2 hx3
          have p0 : (0 ≤ (i : Int)) = True := eq_true (by omega)
          have q0 : ((i : Int) < (l0.length : Int)) = True := eq_true hlt
          unfold encOne at hzs
          have hpp : i % 4 ≠ 0 → ∃ PK, (rd_T36 l0 ((i : Int) - 1)).f0 = PK ∧ (∀ W : World, Below w.heap.size w W → W.cell? (ad.add ((i - 1) * 4)) = some (.string PK)) := fun h4 => by
            obtain ⟨ad', ead', hy0, _⟩ := at_T36 HR0.out ((i : Int) - 1) (by omega) (by omega)
            cases ead'
            rw [show ((i : Int) - 1).toNat = i - 1 by omega] at hy0
            exact ⟨_, rfl, fun W hW => (hW.cell (World.block_lt_of_cell? w _ hy0)).trans hy0⟩
          generalize rd_T36 l0 (i : Int) = ei at hx0 hx1 hx2 hx3 hzs
          obtain ⟨x0, x1, x2, x3⟩ := ei
          simp only at hx0 hx1 hx2 hx3
          clear hI
          --REG
          by_cases h4 : i % 4 = 0
          · rw [if_pos h4] at hzs
            have h4a : (i : Int) % 4 = 0 := by omega
            clear hpp h4
            unfold encTail at hzs
            obtain ⟨y1, hy1, hzs⟩ := Option.bind_eq_some_iff.1 hzs
            obtain ⟨a2, b2, hn2, hl2, rfl⟩ := wnum_some hy1
            clear hy1
            by_cases hrg : 0 ≤ (0 : Int) ∧ (0 : Int) ≤ (x0.size : Int)
            rotate_left
            · rw [if_neg hrg] at hzs; cases hzs
            rw [if_pos hrg] at hzs
            have hsl : ∀ W : World, (Instr.slice 9 (.string x0) (some (.int .i64 (0))) none none).run Try.prog W = .ok (.string (x0.extract (0 : Int).toNat x0.size)) W := str_from x0 _ hrg.1 hrg.2
            have HSL := Aside0.mk hsl; clear hsl
            simp only at hzs
            generalize x0.extract (0 : Int).toNat x0.size = tl at HSL hzs
            obtain ⟨y2, hy2, hzs⟩ := Option.bind_eq_some_iff.1 hzs
            obtain ⟨a3, b3, hn3, hl3, rfl⟩ := wtext_some hy2
            clear hy2
            obtain ⟨y3, hy3, hzs⟩ := Option.bind_eq_some_iff.1 hzs
            obtain ⟨a4, b4, hn4, hl4, rfl⟩ := wnum_some hy3
            clear hy3 hrg
            have HN2 := Aside0.mk hn2; have HL2 := Aside0.mk hl2; have HN3 := Aside0.mk hn3; have HL3 := Aside0.mk hl3; have HN4 := Aside0.mk hn4; have HL4 := Aside0.mk hl4
            clear hn2 hl2 hn3 hl3 hn4 hl4
            cases x2 with
            | true =>
              rw [if_pos rfl] at hzs
              obtain ⟨a5, b5, hn5, hl5, rfl⟩ := wnum_some hzs
              have HN5 := Aside0.mk hn5; have HL5 := Aside0.mk hl5
              clear hn5 hl5 hzs
              have hsl := HSL.out
              go_wp2_with (first | ((with_reducible refine gate_dst (N := 6) rfl ?_); refine box_event ?hg (N := 6) ?hd (cs := #[.string (⟨#[]⟩ : ByteArray), .int .i64 0, .bool false, .string (⟨#[]⟩ : ByteArray)]) (t := 36) ?hr ?_; (case hd => rfl); (case hg => rfl); (case hr => first | (go_simp; done) | (go_simp; rfl)); intro ge hg w4 hbox hb; have n0_ := Aside0.mk (Yv HB hb); have n1_ := Aside0.mk (Wr.far HV.out hb); have BE := Aside0.mk hbox; have GE := Aside0.mk (Yg HB hg); clear HB HV hb hbox hg; have HB := n0_; have HV := n1_; clear n0_ n1_; obtain ⟨⟨hc0, hc1, hc2, hc3⟩, hf0, hf1, hf2, hf3⟩ := Zk4 BE) | (go_at_call 47; obtain ⟨n0_, n1_, n2_⟩ := ent_set x0 x1 true x3 HB.out GE.out BE.out HV.out; clear hc0 hc1 hc2 hc3 hf0 hf1 hf2 hf3; clear GE BE HB HV; generalize ((((w4.setCell ⟨ge, 0, none⟩ (.string x0)).setCell ⟨ge, 1, none⟩ (.int .i64 x1)).setCell ⟨ge, 2, none⟩ (.bool true)).setCell ⟨ge, 3, none⟩ (.string x3)) = wA at n0_ n1_ n2_ ⊢; have BE := Aside0.mk n0_; have HB := Aside0.mk n1_; have HV := Aside0.mk n2_; clear n0_ n1_ n2_; obtain ⟨⟨hc0, hc1, hc2, hc3⟩, hf0, hf1, hf2, hf3⟩ := Zk4 BE; (with_reducible refine (block_writer_num.calls 0 a2 b2 _ gw _ xs _ HN2.out HV.out HL2.out).mono ?_); rintro e w5 ⟨rfl, v1, hv, hk⟩; clear hc0 hc1 hc2 hc3 hf0 hf1 hf2 hf3; have n0_ := Aside0.mk (Wr.below HV.out hk HB.out); have n1_ := Aside0.mk (Wr.kept HV.out hk ge _ _ BE.out (by decide) (by decide)); clear HB HV BE hk; have HB := n0_; have BE := n1_; have HV := Aside0.mk hv; clear n0_ n1_ hv; obtain ⟨⟨hc0, hc1, hc2, hc3⟩, hf0, hf1, hf2, hf3⟩ := Zk4 BE) | (go_at_call 49; (with_reducible refine (block_writer_text.calls tl a3 b3 _ gw _ _ _ HN3.out HV.out HL3.out).mono ?_); rintro e w5 ⟨rfl, v1, hv, hk⟩; clear hc0 hc1 hc2 hc3 hf0 hf1 hf2 hf3; have n0_ := Aside0.mk (Wr.below HV.out hk HB.out); have n1_ := Aside0.mk (Wr.kept HV.out hk ge _ _ BE.out (by decide) (by decide)); clear HB HV BE hk; have HB := n0_; have BE := n1_; have HV := Aside0.mk hv; clear n0_ n1_ hv; obtain ⟨⟨hc0, hc1, hc2, hc3⟩, hf0, hf1, hf2, hf3⟩ := Zk4 BE) | (go_at_call 47; (with_reducible refine (block_writer_num.calls x1 a4 b4 _ gw _ _ _ HN4.out HV.out HL4.out).mono ?_); rintro e w5 ⟨rfl, v1, hv, hk⟩; clear hc0 hc1 hc2 hc3 hf0 hf1 hf2 hf3; have n0_ := Aside0.mk (Wr.below HV.out hk HB.out); have n1_ := Aside0.mk (Wr.kept HV.out hk ge _ _ BE.out (by decide) (by decide)); clear HB HV BE hk; have HB := n0_; have BE := n1_; have HV := Aside0.mk hv; clear n0_ n1_ hv; obtain ⟨⟨hc0, hc1, hc2, hc3⟩, hf0, hf1, hf2, hf3⟩ := Zk4 BE) | (go_at_call 47; (with_reducible refine (block_writer_num.calls 1 a5 b5 _ gw _ _ _ HN5.out HV.out HL5.out).mono ?_); rintro e w5 ⟨rfl, v1, hv, hk⟩; clear hc0 hc1 hc2 hc3 hf0 hf1 hf2 hf3; have n0_ := Aside0.mk (Wr.below HV.out hk HB.out); have n1_ := Aside0.mk (Wr.kept HV.out hk ge _ _ BE.out (by decide) (by decide)); clear HB HV BE hk; have HB := n0_; have BE := n1_; have HV := Aside0.mk hv; clear n0_ n1_ hv; obtain ⟨⟨hc0, hc1, hc2, hc3⟩, hf0, hf1, hf2, hf3⟩ := Zk4 BE))
              go_roundg m
              case measure => omega
              case rel => exact ⟨i + 1, _, _, (by go_num), ⟨by have := HI.out; omega⟩, HY1, HV, HB⟩
            | false =>
              rw [if_neg (by simp)] at hzs
              obtain ⟨y4, hy4, hzs⟩ := Option.bind_eq_some_iff.1 hzs
              obtain ⟨a5, b5, hn5, hl5, rfl⟩ := wnum_some hy4
              obtain ⟨a6, b6, hn6, hl6, rfl⟩ := wtext_some hzs
              have HN5 := Aside0.mk hn5; have HL5 := Aside0.mk hl5; have HN6 := Aside0.mk hn6; have HL6 := Aside0.mk hl6
              clear hn5 hl5 hn6 hl6 hzs hy4
              have hsl := HSL.out
              go_wp2_with (first | ((with_reducible refine gate_dst (N := 6) rfl ?_); refine box_event ?hg (N := 6) ?hd (cs := #[.string (⟨#[]⟩ : ByteArray), .int .i64 0, .bool false, .string (⟨#[]⟩ : ByteArray)]) (t := 36) ?hr ?_; (case hd => rfl); (case hg => rfl); (case hr => first | (go_simp; done) | (go_simp; rfl)); intro ge hg w4 hbox hb; have n0_ := Aside0.mk (Yv HB hb); have n1_ := Aside0.mk (Wr.far HV.out hb); have BE := Aside0.mk hbox; have GE := Aside0.mk (Yg HB hg); clear HB HV hb hbox hg; have HB := n0_; have HV := n1_; clear n0_ n1_; obtain ⟨⟨hc0, hc1, hc2, hc3⟩, hf0, hf1, hf2, hf3⟩ := Zk4 BE) | (go_at_call 47; obtain ⟨n0_, n1_, n2_⟩ := ent_set x0 x1 false x3 HB.out GE.out BE.out HV.out; clear hc0 hc1 hc2 hc3 hf0 hf1 hf2 hf3; clear GE BE HB HV; generalize ((((w4.setCell ⟨ge, 0, none⟩ (.string x0)).setCell ⟨ge, 1, none⟩ (.int .i64 x1)).setCell ⟨ge, 2, none⟩ (.bool false)).setCell ⟨ge, 3, none⟩ (.string x3)) = wA at n0_ n1_ n2_ ⊢; have BE := Aside0.mk n0_; have HB := Aside0.mk n1_; have HV := Aside0.mk n2_; clear n0_ n1_ n2_; obtain ⟨⟨hc0, hc1, hc2, hc3⟩, hf0, hf1, hf2, hf3⟩ := Zk4 BE; (with_reducible refine (block_writer_num.calls 0 a2 b2 _ gw _ xs _ HN2.out HV.out HL2.out).mono ?_); rintro e w5 ⟨rfl, v1, hv, hk⟩; clear hc0 hc1 hc2 hc3 hf0 hf1 hf2 hf3; have n0_ := Aside0.mk (Wr.below HV.out hk HB.out); have n1_ := Aside0.mk (Wr.kept HV.out hk ge _ _ BE.out (by decide) (by decide)); clear HB HV BE hk; have HB := n0_; have BE := n1_; have HV := Aside0.mk hv; clear n0_ n1_ hv; obtain ⟨⟨hc0, hc1, hc2, hc3⟩, hf0, hf1, hf2, hf3⟩ := Zk4 BE) | (go_at_call 49; (with_reducible refine (block_writer_text.calls tl a3 b3 _ gw _ _ _ HN3.out HV.out HL3.out).mono ?_); rintro e w5 ⟨rfl, v1, hv, hk⟩; clear hc0 hc1 hc2 hc3 hf0 hf1 hf2 hf3; have n0_ := Aside0.mk (Wr.below HV.out hk HB.out); have n1_ := Aside0.mk (Wr.kept HV.out hk ge _ _ BE.out (by decide) (by decide)); clear HB HV BE hk; have HB := n0_; have BE := n1_; have HV := Aside0.mk hv; clear n0_ n1_ hv; obtain ⟨⟨hc0, hc1, hc2, hc3⟩, hf0, hf1, hf2, hf3⟩ := Zk4 BE) | (go_at_call 47; (with_reducible refine (block_writer_num.calls x1 a4 b4 _ gw _ _ _ HN4.out HV.out HL4.out).mono ?_); rintro e w5 ⟨rfl, v1, hv, hk⟩; clear hc0 hc1 hc2 hc3 hf0 hf1 hf2 hf3; have n0_ := Aside0.mk (Wr.below HV.out hk HB.out); have n1_ := Aside0.mk (Wr.kept HV.out hk ge _ _ BE.out (by decide) (by decide)); clear HB HV BE hk; have HB := n0_; have BE := n1_; have HV := Aside0.mk hv; clear n0_ n1_ hv; obtain ⟨⟨hc0, hc1, hc2, hc3⟩, hf0, hf1, hf2, hf3⟩ := Zk4 BE) | (go_at_call 47; (with_reducible refine (block_writer_num.calls 0 a5 b5 _ gw _ _ _ HN5.out HV.out HL5.out).mono ?_); rintro e w5 ⟨rfl, v1, hv, hk⟩; clear hc0 hc1 hc2 hc3 hf0 hf1 hf2 hf3; have n0_ := Aside0.mk (Wr.below HV.out hk HB.out); have n1_ := Aside0.mk (Wr.kept HV.out hk ge _ _ BE.out (by decide) (by decide)); clear HB HV BE hk; have HB := n0_; have BE := n1_; have HV := Aside0.mk hv; clear n0_ n1_ hv; obtain ⟨⟨hc0, hc1, hc2, hc3⟩, hf0, hf1, hf2, hf3⟩ := Zk4 BE) | (go_at_call 49; (with_reducible refine (block_writer_text.calls x3 a6 b6 _ gw _ _ _ HN6.out HV.out HL6.out).mono ?_); rintro e w5 ⟨rfl, v1, hv, hk⟩; clear hc0 hc1 hc2 hc3 hf0 hf1 hf2 hf3; have n0_ := Aside0.mk (Wr.below HV.out hk HB.out); have n1_ := Aside0.mk (Wr.kept HV.out hk ge _ _ BE.out (by decide) (by decide)); clear HB HV BE hk; have HB := n0_; have BE := n1_; have HV := Aside0.mk hv; clear n0_ n1_ hv; obtain ⟨⟨hc0, hc1, hc2, hc3⟩, hf0, hf1, hf2, hf3⟩ := Zk4 BE))
              go_roundg m
              case measure => omega
              case rel => exact ⟨i + 1, _, _, (by go_num), ⟨by have := HI.out; omega⟩, HY1, HV, HB⟩
          · rw [if_neg h4] at hzs
            have h4a : ((i : Int) % 4 == 0) = false := beq_eq_false_iff_ne.mpr (by omega)
            have h4b : ((i : Int) % 4 = 0) = False := eq_false (by omega)
            obtain ⟨PK, ePK, hPK⟩ := hpp h4
            rw [ePK] at hzs
            obtain ⟨n, hsh, hzs⟩ := Option.bind_eq_some_iff.1 hzs
            have HSH := Aside0.mk hsh; clear hsh ePK
            obtain ⟨j, hj⟩ : ∃ j, j = i - 1 := ⟨_, rfl⟩
            rw [← hj] at hPK
            have hw1 : wrap64 ((i : Int) - 1) = (j : Int) := by unfold wrap64; omega
            have p1 : (0 ≤ (j : Int)) = True := eq_true (by omega)
            have q1 : ((j : Int) < (l0.length : Int)) = True := eq_true (by omega)
            clear hj
            clear h4
            unfold encTail at hzs
            obtain ⟨y1, hy1, hzs⟩ := Option.bind_eq_some_iff.1 hzs
            obtain ⟨a2, b2, hn2, hl2, rfl⟩ := wnum_some hy1
            clear hy1
            by_cases hrg : 0 ≤ (n : Int) ∧ (n : Int) ≤ (x0.size : Int)
            rotate_left
            · rw [if_neg hrg] at hzs; cases hzs
            rw [if_pos hrg] at hzs
            have hsl : ∀ W : World, (Instr.slice 9 (.string x0) (some (.int .i64 (n))) none none).run Try.prog W = .ok (.string (x0.extract (n : Int).toNat x0.size)) W := str_from x0 _ hrg.1 hrg.2
            have HSL := Aside0.mk hsl; clear hsl
            simp only at hzs
            generalize x0.extract (n : Int).toNat x0.size = tl at HSL hzs
            obtain ⟨y2, hy2, hzs⟩ := Option.bind_eq_some_iff.1 hzs
            obtain ⟨a3, b3, hn3, hl3, rfl⟩ := wtext_some hy2
            clear hy2
            obtain ⟨y3, hy3, hzs⟩ := Option.bind_eq_some_iff.1 hzs
            obtain ⟨a4, b4, hn4, hl4, rfl⟩ := wnum_some hy3
            clear hy3 hrg
            have HN2 := Aside0.mk hn2; have HL2 := Aside0.mk hl2; have HN3 := Aside0.mk hn3; have HL3 := Aside0.mk hl3; have HN4 := Aside0.mk hn4; have HL4 := Aside0.mk hl4
            clear hn2 hl2 hn3 hl3 hn4 hl4
            cases x2 with
            | true =>
              rw [if_pos rfl] at hzs
              obtain ⟨a5, b5, hn5, hl5, rfl⟩ := wnum_some hzs
              have HN5 := Aside0.mk hn5; have HL5 := Aside0.mk hl5
              clear hn5 hl5 hzs
              have hsl := HSL.out
              go_wp2_with (first | ((with_reducible refine gate_dst (N := 6) rfl ?_); refine box_event ?hg (N := 6) ?hd (cs := #[.string (⟨#[]⟩ : ByteArray), .int .i64 0, .bool false, .string (⟨#[]⟩ : ByteArray)]) (t := 36) ?hr ?_; (case hd => rfl); (case hg => rfl); (case hr => first | (go_simp; done) | (go_simp; rfl)); intro ge hg w4 hbox hb; have n0_ := Aside0.mk (Yv HB hb); have n1_ := Aside0.mk (Wr.far HV.out hb); have BE := Aside0.mk hbox; have GE := Aside0.mk (Yg HB hg); clear HB HV hb hbox hg; have HB := n0_; have HV := n1_; clear n0_ n1_; obtain ⟨⟨hc0, hc1, hc2, hc3⟩, hf0, hf1, hf2, hf3⟩ := Zk4 BE))
              obtain ⟨n0_, n1_, n2_⟩ := ent_set x0 x1 true x3 HB.out GE.out BE.out HV.out; clear hc0 hc1 hc2 hc3 hf0 hf1 hf2 hf3; clear GE BE HB HV; generalize ((((w4.setCell ⟨ge, 0, none⟩ (.string x0)).setCell ⟨ge, 1, none⟩ (.int .i64 x1)).setCell ⟨ge, 2, none⟩ (.bool true)).setCell ⟨ge, 3, none⟩ (.string x3)) = wA at n0_ n1_ n2_ ⊢; have BE := Aside0.mk n0_; have HB := Aside0.mk n1_; have HV := Aside0.mk n2_; clear n0_ n1_ n2_; obtain ⟨⟨hc0, hc1, hc2, hc3⟩, hf0, hf1, hf2, hf3⟩ := Zk4 BE
              refine start_ (n := 10) (S := fun w' => w'.cell? (ad.add (j * 4)) = some (.string PK) ∧ w'.cell? ⟨ge, 0, none⟩ = some (.string x0)) (ds := []) #[false, false, false, false, false, false, false, false, false, false] (by kernel_rfl) rfl rfl ⟨hPK wA HB.out, (Zc BE.out 0).trans rfl⟩ (fun hHeld => ?_)
              have n0_ := Aside0.mk (show wA.drew.heap[ge]? = _ from BE.out); have n1_ := Aside0.mk (Yd HB.out); have n2_ := Aside0.mk (show Wr w.heap.size gw v xs wA.drew from ⟨HV.out.box, World.ownsRow.drew HV.out.row, HV.out.gwb⟩); clear BE HB HV; clear hc0 hc1 hc2 hc3 hf0 hf1 hf2 hf3
              generalize wA.drew = wB at n0_ n1_ n2_ hHeld ⊢
              have BE := n0_; have HB := n1_; have HV := n2_; clear n0_ n1_ n2_
              refine pure_ (i := 0) (N := some 31) (v := ?_) (a' := ?_) #[true, false, false, false, false, false, false, false, false, false] rfl rfl (by kernel_rfl) (fun _ _ _ h => h) (Or.inl ⟨by rfl, ?_⟩) ?_ ?_; rotate_left; (focus intro w'; go_simp; with_reducible rfl); rotate_left; (focus simp only [Act.put, List.setIfInBounds_toArray, List.set_cons_zero, List.set_cons_succ, i64_w, i32_w]; rfl)
              refine pure_ (i := 1) (N := some 32) (v := ?_) (a' := ?_) #[true, true, false, false, false, false, false, false, false, false] rfl rfl (by kernel_rfl) (fun _ _ _ h => h) (Or.inl ⟨by rfl, ?_⟩) ?_ ?_; rotate_left; (focus intro w'; go_simp; with_reducible rfl); rotate_left; (focus simp only [Act.put, List.setIfInBounds_toArray, List.set_cons_zero, List.set_cons_succ, i64_w, i32_w]; rfl)
              refine pure_ (i := 2) (N := some 33) (v := ?_) (a' := ?_) #[true, true, true, false, false, false, false, false, false, false] rfl rfl (by kernel_rfl) (fun _ _ _ h => h) (Or.inl ⟨by rfl, ?_⟩) ?_ ?_; rotate_left; (focus intro w'; go_simp; with_reducible rfl); rotate_left; (focus simp only [Act.put, List.setIfInBounds_toArray, List.set_cons_zero, List.set_cons_succ, i64_w, i32_w]; rfl)
              refine pure_ (i := 3) (N := some 34) (v := ?_) (a' := ?_) #[true, true, true, true, false, false, false, false, false, false] rfl rfl (by kernel_rfl) (fun _ _ _ h => h) (Or.inl ⟨by rfl, ?_⟩) ?_ ?_; rotate_left; (focus intro w'; go_simp; with_reducible rfl); rotate_left; (focus simp only [Act.put, List.setIfInBounds_toArray, List.set_cons_zero, List.set_cons_succ, i64_w, i32_w]; rfl)
              refine pure_ (i := 4) (N := some 35) (v := ?_) (a' := ?_) #[true, true, true, true, true, false, false, false, false, false] rfl rfl (by kernel_rfl) (fun _ _ _ h => h) (Or.inl ⟨by rfl, ?_⟩) ?_ ?_; rotate_left; (focus intro w'; go_simp; with_reducible rfl); rotate_left; (focus simp only [Act.put, List.setIfInBounds_toArray, List.set_cons_zero, List.set_cons_succ, i64_w, i32_w]; rfl)
              refine take_ (i := 5) (N := some 36) (v := ?_) (a' := ?_) #[true, true, true, true, true, true, false, false, false, false] rfl rfl (by kernel_rfl) (fun _ _ _ h => h) (Or.inl ⟨by rfl, ?_⟩) hHeld ?_ ?_; rotate_left; (focus rintro w' ⟨s0, s1⟩; go_simp; with_reducible rfl); rotate_left; (focus simp only [Act.put, List.setIfInBounds_toArray, List.set_cons_zero, List.set_cons_succ, i64_w, i32_w]; rfl)
              refine pure_ (i := 6) (N := some 37) (v := ?_) (a' := ?_) #[true, true, true, true, true, true, true, false, false, false] rfl rfl (by kernel_rfl) (fun _ _ _ h => h) (Or.inl ⟨by rfl, ?_⟩) ?_ ?_; rotate_left; (focus intro w'; go_simp; with_reducible rfl); rotate_left; (focus simp only [Act.put, List.setIfInBounds_toArray, List.set_cons_zero, List.set_cons_succ, i64_w, i32_w]; rfl)
              refine take_ (i := 7) (N := some 38) (v := ?_) (a' := ?_) #[true, true, true, true, true, true, true, true, false, false] rfl rfl (by kernel_rfl) (fun _ _ _ h => h) (Or.inl ⟨by rfl, ?_⟩) hHeld ?_ ?_; rotate_left; (focus rintro w' ⟨s0, s1⟩; go_simp; with_reducible rfl); rotate_left; (focus simp only [Act.put, List.setIfInBounds_toArray, List.set_cons_zero, List.set_cons_succ, i64_w, i32_w]; rfl)
              refine one_ (i := 8) (N := some 39) #[true, true, true, true, true, true, true, true, true, false] rfl rfl (by kernel_rfl) (by decide) (fun K hK => ?_)
              refine goes_ Try.func48 (by kernel_rfl) rfl #[.string PK, .string x0] (by rfl) rfl rfl (by (try simp only [List.map_toArray, List.map_cons, List.map_nil]); first | done | rfl) ?_
              with_reducible refine (block_shared.calls 1000 PK x0 n _ HSH.out).mono ?_
              rintro e wC ⟨rfl, hb⟩
              refine ⟨_, rfl, ?_⟩
              have n0_ := Aside0.mk (Zv BE hb); have n1_ := Aside0.mk (Yv HB hb); have n2_ := Aside0.mk (Wr.far HV.out hb); clear BE HB HV; have BE := n0_; have HB := n1_; have HV := n2_; clear n0_ n1_ n2_
              refine hK.out _ _ ⟨hPK wC HB.out, (Zc BE.out 0).trans rfl⟩ (fun hHeld => ?_)
              clear hb hK K
              refine norm_ (a' := ?_) ?_ ?_
              rotate_left
              · show Act.put _ (some 39) _ = _
                simp only [Act.put, List.setIfInBounds_toArray, List.set_cons_zero, List.set_cons_succ, i64_w, i32_w]
                rfl
              refine pure_ (i := 9) (N := some 7) (v := ?_) (a' := ?_) #[true, true, true, true, true, true, true, true, true, true] rfl rfl (by kernel_rfl) (fun _ _ _ h => h) (Or.inl ⟨by rfl, ?_⟩) ?_ ?_; rotate_left; (focus intro w'; go_simp; with_reducible rfl); rotate_left; (focus simp only [Act.put, List.setIfInBounds_toArray, List.set_cons_zero, List.set_cons_succ, i64_w, i32_w]; rfl)
              refine done_ (by kernel_rfl) ?_
              obtain ⟨⟨hc0, hc1, hc2, hc3⟩, hf0, hf1, hf2, hf3⟩ := Zk4 BE
              go_wp2_with (first | (go_at_call 47; (with_reducible refine (block_writer_num.calls n a2 b2 _ gw _ xs _ HN2.out HV.out HL2.out).mono ?_); rintro e w5 ⟨rfl, v1, hv, hk⟩; clear hc0 hc1 hc2 hc3 hf0 hf1 hf2 hf3; have n0_ := Aside0.mk (Wr.below HV.out hk HB.out); have n1_ := Aside0.mk (Wr.kept HV.out hk ge _ _ BE.out (by decide) (by decide)); clear HB HV BE hk; have HB := n0_; have BE := n1_; have HV := Aside0.mk hv; clear n0_ n1_ hv; obtain ⟨⟨hc0, hc1, hc2, hc3⟩, hf0, hf1, hf2, hf3⟩ := Zk4 BE) | (go_at_call 49; (with_reducible refine (block_writer_text.calls tl a3 b3 _ gw _ _ _ HN3.out HV.out HL3.out).mono ?_); rintro e w5 ⟨rfl, v1, hv, hk⟩; clear hc0 hc1 hc2 hc3 hf0 hf1 hf2 hf3; have n0_ := Aside0.mk (Wr.below HV.out hk HB.out); have n1_ := Aside0.mk (Wr.kept HV.out hk ge _ _ BE.out (by decide) (by decide)); clear HB HV BE hk; have HB := n0_; have BE := n1_; have HV := Aside0.mk hv; clear n0_ n1_ hv; obtain ⟨⟨hc0, hc1, hc2, hc3⟩, hf0, hf1, hf2, hf3⟩ := Zk4 BE) | (go_at_call 47; (with_reducible refine (block_writer_num.calls x1 a4 b4 _ gw _ _ _ HN4.out HV.out HL4.out).mono ?_); rintro e w5 ⟨rfl, v1, hv, hk⟩; clear hc0 hc1 hc2 hc3 hf0 hf1 hf2 hf3; have n0_ := Aside0.mk (Wr.below HV.out hk HB.out); have n1_ := Aside0.mk (Wr.kept HV.out hk ge _ _ BE.out (by decide) (by decide)); clear HB HV BE hk; have HB := n0_; have BE := n1_; have HV := Aside0.mk hv; clear n0_ n1_ hv; obtain ⟨⟨hc0, hc1, hc2, hc3⟩, hf0, hf1, hf2, hf3⟩ := Zk4 BE) | (go_at_call 47; (with_reducible refine (block_writer_num.calls 1 a5 b5 _ gw _ _ _ HN5.out HV.out HL5.out).mono ?_); rintro e w5 ⟨rfl, v1, hv, hk⟩; clear hc0 hc1 hc2 hc3 hf0 hf1 hf2 hf3; have n0_ := Aside0.mk (Wr.below HV.out hk HB.out); have n1_ := Aside0.mk (Wr.kept HV.out hk ge _ _ BE.out (by decide) (by decide)); clear HB HV BE hk; have HB := n0_; have BE := n1_; have HV := Aside0.mk hv; clear n0_ n1_ hv; obtain ⟨⟨hc0, hc1, hc2, hc3⟩, hf0, hf1, hf2, hf3⟩ := Zk4 BE))
              go_roundg m
              case measure => omega
              case rel => exact ⟨i + 1, _, _, (by go_num), ⟨by have := HI.out; omega⟩, HY1, HV, HB⟩
            | false =>
              rw [if_neg (by simp)] at hzs
              obtain ⟨y4, hy4, hzs⟩ := Option.bind_eq_some_iff.1 hzs
              obtain ⟨a5, b5, hn5, hl5, rfl⟩ := wnum_some hy4
              obtain ⟨a6, b6, hn6, hl6, rfl⟩ := wtext_some hzs
              have HN5 := Aside0.mk hn5; have HL5 := Aside0.mk hl5; have HN6 := Aside0.mk hn6; have HL6 := Aside0.mk hl6
              clear hn5 hl5 hn6 hl6 hzs hy4
              have hsl := HSL.out
              go_wp2_with (first | ((with_reducible refine gate_dst (N := 6) rfl ?_); refine box_event ?hg (N := 6) ?hd (cs := #[.string (⟨#[]⟩ : ByteArray), .int .i64 0, .bool false, .string (⟨#[]⟩ : ByteArray)]) (t := 36) ?hr ?_; (case hd => rfl); (case hg => rfl); (case hr => first | (go_simp; done) | (go_simp; rfl)); intro ge hg w4 hbox hb; have n0_ := Aside0.mk (Yv HB hb); have n1_ := Aside0.mk (Wr.far HV.out hb); have BE := Aside0.mk hbox; have GE := Aside0.mk (Yg HB hg); clear HB HV hb hbox hg; have HB := n0_; have HV := n1_; clear n0_ n1_; obtain ⟨⟨hc0, hc1, hc2, hc3⟩, hf0, hf1, hf2, hf3⟩ := Zk4 BE))
              obtain ⟨n0_, n1_, n2_⟩ := ent_set x0 x1 false x3 HB.out GE.out BE.out HV.out; clear hc0 hc1 hc2 hc3 hf0 hf1 hf2 hf3; clear GE BE HB HV; generalize ((((w4.setCell ⟨ge, 0, none⟩ (.string x0)).setCell ⟨ge, 1, none⟩ (.int .i64 x1)).setCell ⟨ge, 2, none⟩ (.bool false)).setCell ⟨ge, 3, none⟩ (.string x3)) = wA at n0_ n1_ n2_ ⊢; have BE := Aside0.mk n0_; have HB := Aside0.mk n1_; have HV := Aside0.mk n2_; clear n0_ n1_ n2_; obtain ⟨⟨hc0, hc1, hc2, hc3⟩, hf0, hf1, hf2, hf3⟩ := Zk4 BE
              refine start_ (n := 10) (S := fun w' => w'.cell? (ad.add (j * 4)) = some (.string PK) ∧ w'.cell? ⟨ge, 0, none⟩ = some (.string x0)) (ds := []) #[false, false, false, false, false, false, false, false, false, false] (by kernel_rfl) rfl rfl ⟨hPK wA HB.out, (Zc BE.out 0).trans rfl⟩ (fun hHeld => ?_)
              have n0_ := Aside0.mk (show wA.drew.heap[ge]? = _ from BE.out); have n1_ := Aside0.mk (Yd HB.out); have n2_ := Aside0.mk (show Wr w.heap.size gw v xs wA.drew from ⟨HV.out.box, World.ownsRow.drew HV.out.row, HV.out.gwb⟩); clear BE HB HV; clear hc0 hc1 hc2 hc3 hf0 hf1 hf2 hf3
              generalize wA.drew = wB at n0_ n1_ n2_ hHeld ⊢
              have BE := n0_; have HB := n1_; have HV := n2_; clear n0_ n1_ n2_
              refine pure_ (i := 0) (N := some 31) (v := ?_) (a' := ?_) #[true, false, false, false, false, false, false, false, false, false] rfl rfl (by kernel_rfl) (fun _ _ _ h => h) (Or.inl ⟨by rfl, ?_⟩) ?_ ?_; rotate_left; (focus intro w'; go_simp; with_reducible rfl); rotate_left; (focus simp only [Act.put, List.setIfInBounds_toArray, List.set_cons_zero, List.set_cons_succ, i64_w, i32_w]; rfl)
              refine pure_ (i := 1) (N := some 32) (v := ?_) (a' := ?_) #[true, true, false, false, false, false, false, false, false, false] rfl rfl (by kernel_rfl) (fun _ _ _ h => h) (Or.inl ⟨by rfl, ?_⟩) ?_ ?_; rotate_left; (focus intro w'; go_simp; with_reducible rfl); rotate_left; (focus simp only [Act.put, List.setIfInBounds_toArray, List.set_cons_zero, List.set_cons_succ, i64_w, i32_w]; rfl)
              refine pure_ (i := 2) (N := some 33) (v := ?_) (a' := ?_) #[true, true, true, false, false, false, false, false, false, false] rfl rfl (by kernel_rfl) (fun _ _ _ h => h) (Or.inl ⟨by rfl, ?_⟩) ?_ ?_; rotate_left; (focus intro w'; go_simp; with_reducible rfl); rotate_left; (focus simp only [Act.put, List.setIfInBounds_toArray, List.set_cons_zero, List.set_cons_succ, i64_w, i32_w]; rfl)
              refine pure_ (i := 3) (N := some 34) (v := ?_) (a' := ?_) #[true, true, true, true, false, false, false, false, false, false] rfl rfl (by kernel_rfl) (fun _ _ _ h => h) (Or.inl ⟨by rfl, ?_⟩) ?_ ?_; rotate_left; (focus intro w'; go_simp; with_reducible rfl); rotate_left; (focus simp only [Act.put, List.setIfInBounds_toArray, List.set_cons_zero, List.set_cons_succ, i64_w, i32_w]; rfl)
              refine pure_ (i := 4) (N := some 35) (v := ?_) (a' := ?_) #[true, true, true, true, true, false, false, false, false, false] rfl rfl (by kernel_rfl) (fun _ _ _ h => h) (Or.inl ⟨by rfl, ?_⟩) ?_ ?_; rotate_left; (focus intro w'; go_simp; with_reducible rfl); rotate_left; (focus simp only [Act.put, List.setIfInBounds_toArray, List.set_cons_zero, List.set_cons_succ, i64_w, i32_w]; rfl)
              refine take_ (i := 5) (N := some 36) (v := ?_) (a' := ?_) #[true, true, true, true, true, true, false, false, false, false] rfl rfl (by kernel_rfl) (fun _ _ _ h => h) (Or.inl ⟨by rfl, ?_⟩) hHeld ?_ ?_; rotate_left; (focus rintro w' ⟨s0, s1⟩; go_simp; with_reducible rfl); rotate_left; (focus simp only [Act.put, List.setIfInBounds_toArray, List.set_cons_zero, List.set_cons_succ, i64_w, i32_w]; rfl)
              refine pure_ (i := 6) (N := some 37) (v := ?_) (a' := ?_) #[true, true, true, true, true, true, true, false, false, false] rfl rfl (by kernel_rfl) (fun _ _ _ h => h) (Or.inl ⟨by rfl, ?_⟩) ?_ ?_; rotate_left; (focus intro w'; go_simp; with_reducible rfl); rotate_left; (focus simp only [Act.put, List.setIfInBounds_toArray, List.set_cons_zero, List.set_cons_succ, i64_w, i32_w]; rfl)
              refine take_ (i := 7) (N := some 38) (v := ?_) (a' := ?_) #[true, true, true, true, true, true, true, true, false, false] rfl rfl (by kernel_rfl) (fun _ _ _ h => h) (Or.inl ⟨by rfl, ?_⟩) hHeld ?_ ?_; rotate_left; (focus rintro w' ⟨s0, s1⟩; go_simp; with_reducible rfl); rotate_left; (focus simp only [Act.put, List.setIfInBounds_toArray, List.set_cons_zero, List.set_cons_succ, i64_w, i32_w]; rfl)
              refine one_ (i := 8) (N := some 39) #[true, true, true, true, true, true, true, true, true, false] rfl rfl (by kernel_rfl) (by decide) (fun K hK => ?_)
              refine goes_ Try.func48 (by kernel_rfl) rfl #[.string PK, .string x0] (by rfl) rfl rfl (by (try simp only [List.map_toArray, List.map_cons, List.map_nil]); first | done | rfl) ?_
              with_reducible refine (block_shared.calls 1000 PK x0 n _ HSH.out).mono ?_
              rintro e wC ⟨rfl, hb⟩
              refine ⟨_, rfl, ?_⟩
              have n0_ := Aside0.mk (Zv BE hb); have n1_ := Aside0.mk (Yv HB hb); have n2_ := Aside0.mk (Wr.far HV.out hb); clear BE HB HV; have BE := n0_; have HB := n1_; have HV := n2_; clear n0_ n1_ n2_
              refine hK.out _ _ ⟨hPK wC HB.out, (Zc BE.out 0).trans rfl⟩ (fun hHeld => ?_)
              clear hb hK K
              refine norm_ (a' := ?_) ?_ ?_
              rotate_left
              · show Act.put _ (some 39) _ = _
                simp only [Act.put, List.setIfInBounds_toArray, List.set_cons_zero, List.set_cons_succ, i64_w, i32_w]
                rfl
              refine pure_ (i := 9) (N := some 7) (v := ?_) (a' := ?_) #[true, true, true, true, true, true, true, true, true, true] rfl rfl (by kernel_rfl) (fun _ _ _ h => h) (Or.inl ⟨by rfl, ?_⟩) ?_ ?_; rotate_left; (focus intro w'; go_simp; with_reducible rfl); rotate_left; (focus simp only [Act.put, List.setIfInBounds_toArray, List.set_cons_zero, List.set_cons_succ, i64_w, i32_w]; rfl)
              refine done_ (by kernel_rfl) ?_
              obtain ⟨⟨hc0, hc1, hc2, hc3⟩, hf0, hf1, hf2, hf3⟩ := Zk4 BE
              go_wp2_with (first | (go_at_call 47; (with_reducible refine (block_writer_num.calls n a2 b2 _ gw _ xs _ HN2.out HV.out HL2.out).mono ?_); rintro e w5 ⟨rfl, v1, hv, hk⟩; clear hc0 hc1 hc2 hc3 hf0 hf1 hf2 hf3; have n0_ := Aside0.mk (Wr.below HV.out hk HB.out); have n1_ := Aside0.mk (Wr.kept HV.out hk ge _ _ BE.out (by decide) (by decide)); clear HB HV BE hk; have HB := n0_; have BE := n1_; have HV := Aside0.mk hv; clear n0_ n1_ hv; obtain ⟨⟨hc0, hc1, hc2, hc3⟩, hf0, hf1, hf2, hf3⟩ := Zk4 BE) | (go_at_call 49; (with_reducible refine (block_writer_text.calls tl a3 b3 _ gw _ _ _ HN3.out HV.out HL3.out).mono ?_); rintro e w5 ⟨rfl, v1, hv, hk⟩; clear hc0 hc1 hc2 hc3 hf0 hf1 hf2 hf3; have n0_ := Aside0.mk (Wr.below HV.out hk HB.out); have n1_ := Aside0.mk (Wr.kept HV.out hk ge _ _ BE.out (by decide) (by decide)); clear HB HV BE hk; have HB := n0_; have BE := n1_; have HV := Aside0.mk hv; clear n0_ n1_ hv; obtain ⟨⟨hc0, hc1, hc2, hc3⟩, hf0, hf1, hf2, hf3⟩ := Zk4 BE) | (go_at_call 47; (with_reducible refine (block_writer_num.calls x1 a4 b4 _ gw _ _ _ HN4.out HV.out HL4.out).mono ?_); rintro e w5 ⟨rfl, v1, hv, hk⟩; clear hc0 hc1 hc2 hc3 hf0 hf1 hf2 hf3; have n0_ := Aside0.mk (Wr.below HV.out hk HB.out); have n1_ := Aside0.mk (Wr.kept HV.out hk ge _ _ BE.out (by decide) (by decide)); clear HB HV BE hk; have HB := n0_; have BE := n1_; have HV := Aside0.mk hv; clear n0_ n1_ hv; obtain ⟨⟨hc0, hc1, hc2, hc3⟩, hf0, hf1, hf2, hf3⟩ := Zk4 BE) | (go_at_call 47; (with_reducible refine (block_writer_num.calls 0 a5 b5 _ gw _ _ _ HN5.out HV.out HL5.out).mono ?_); rintro e w5 ⟨rfl, v1, hv, hk⟩; clear hc0 hc1 hc2 hc3 hf0 hf1 hf2 hf3; have n0_ := Aside0.mk (Wr.below HV.out hk HB.out); have n1_ := Aside0.mk (Wr.kept HV.out hk ge _ _ BE.out (by decide) (by decide)); clear HB HV BE hk; have HB := n0_; have BE := n1_; have HV := Aside0.mk hv; clear n0_ n1_ hv; obtain ⟨⟨hc0, hc1, hc2, hc3⟩, hf0, hf1, hf2, hf3⟩ := Zk4 BE) | (go_at_call 49; (with_reducible refine (block_writer_text.calls x3 a6 b6 _ gw _ _ _ HN6.out HV.out HL6.out).mono ?_); rintro e w5 ⟨rfl, v1, hv, hk⟩; clear hc0 hc1 hc2 hc3 hf0 hf1 hf2 hf3; have n0_ := Aside0.mk (Wr.below HV.out hk HB.out); have n1_ := Aside0.mk (Wr.kept HV.out hk ge _ _ BE.out (by decide) (by decide)); clear HB HV BE hk; have HB := n0_; have BE := n1_; have HV := Aside0.mk hv; clear n0_ n1_ hv; obtain ⟨⟨hc0, hc1, hc2, hc3⟩, hf0, hf1, hf2, hf3⟩ := Zk4 BE))
              go_roundg m
              case measure => omega
              case rel => exact ⟨i + 1, _, _, (by go_num), ⟨by have := HI.out; omega⟩, HY1, HV, HB⟩
          --END
end Go.Proofs.Ytbdkfmhkgeoeaaa.Print
