/- Contracts proved by hand: see the theorems' own lines. -/
import Derived.Test.YtbdkfmhkgeoeaaaPrint0
import Derived.Test.YtbdkfmhkgeoeaaaPrint6
import Derived.Test.YtbdkfmhkgeoeaaaPrint8
namespace Go.Proofs.Ytbdkfmhkgeoeaaa.Print
open Go.RowKit Go.Proofs.YtbdkfmhkgeoeaaaW.PrintWords Go.Proofs.YtbdkfmhkgeoeaaaW.PrintLast Go.Proofs.YtbdkfmhkgeoeaaaW.PrintMore Go.Proofs.YtbdkfmhkgeoeaaaX
set_option linter.unusedVariables false
set_option linter.unusedSimpArgs false

/-- What a writer's step leaves as it was: all but its box and its row. -/
structure WKept (gw : Nat) (v : Value) (W W' : World) : Prop where
  os : W'.os = W.os
  tape : W'.tape = W.tape
  output : W'.output = W.output
  size : W.heap.size ≤ W'.heap.size
  keep : ∀ k, k < W.heap.size → k ≠ gw → some k ≠ v.ownBlock → W'.heap[k]? = W.heap[k]?
/-- A writer: its box, its row. -/
structure Wr (base gw : Nat) (v : Value) (xs : List Int) (W : World) : Prop where
  box : W.heap[gw]? = some (.cells #[v] 83 (0, 0))
  row : W.ownsRow base 5 1 v xs.length (nums .u8 xs)
  gwb : base ≤ gw
theorem Wr.block {base gw : Nat} {v : Value} {xs : List Int} {W : World} (h : Wr base gw v xs W) : ∀ k, some k = v.ownBlock → base ≤ k ∧ ∃ cur, W.heap[k]? = some (.cells cur 5 (0, 0)) := by
  intro k hk
  rcases h.row.2 with ⟨h1, _⟩ | ⟨g, cap, cur, h1, hb, hg, _⟩
  · rw [h1] at hk; cases hk
  · rw [h1] at hk
    have : k = g := by simpa [Value.ownBlock] using hk
    subst this
    exact ⟨hb, cur, hg⟩
theorem Wr.kept {base gw : Nat} {v : Value} {xs : List Int} {W W' : World} (h : Wr base gw v xs W) (hk : WKept gw v W W') (k : Nat) (cs : Array Value) (t : TypeId) (hb : W.heap[k]? = some (.cells cs t (0, 0))) (h1 : t ≠ 83) (h2 : t ≠ 5) : W'.heap[k]? = some (.cells cs t (0, 0)) := by
  rw [hk.keep k (Array.getElem?_eq_some_iff.1 hb).1 (fun e => ?_) (fun e => ?_)]
  · exact hb
  · subst e
    have := hb.symm.trans h.box
    injection this with this
    injection this with _ this
    exact h1 this
  · obtain ⟨_, cur, hc⟩ := h.block k e
    have := hb.symm.trans hc
    injection this with this
    injection this with _ this
    exact h2 this
theorem Wr.below {w : World} {gw : Nat} {v : Value} {xs : List Int} {W W' : World} (h : Wr w.heap.size gw v xs W) (hk : WKept gw v W W') (hB : Below w.heap.size w W) : Below w.heap.size w W' :=
  ⟨hk.os.trans hB.os, hk.tape.trans hB.tape, hk.output.trans hB.output, Nat.le_trans hB.size hk.size, fun k hl => by
    rw [hk.keep k (Nat.lt_of_lt_of_le hl hB.size) (fun e => ?_) (fun e => ?_)]
    · exact hB.block k hl
    · have := h.gwb; omega
    · have := (h.block k e).1; omega⟩
theorem Wr.far {base gw : Nat} {v : Value} {xs : List Int} {W : World} (h : Wr base gw v xs W) {W' : World} (hb : Below W.heap.size W W') : Wr base gw v xs W' :=
  ⟨(hb.block gw (Array.getElem?_eq_some_iff.1 h.box).1).trans h.box, World.ownsRow.kept (row := none) h.row ⟨hb.os, hb.tape, hb.output, hb.size, fun k hk _ => hb.block k hk⟩ (by cases v.ownBlock <;> simp), h.gwb⟩

theorem own_slice {W : World} {base e size n : Nat} {v : Value} {xs : List Value} (h : W.ownsRow base e size v n xs) : ∃ A m c, v = .slice A m c := by
  rcases h.2 with ⟨h1, _⟩ | ⟨g, cap, cur, h1, _⟩
  · exact ⟨_, _, _, h1⟩
  · exact ⟨_, _, _, h1⟩
theorem Wr.wrote {base gw : Nat} {v v1 : Value} {xs ys : List Int} {w w1 w2 : World} (h : Wr base gw v xs w) (hb : Below w.heap.size w w1) (hg : w1.grownBy w2 v.ownBlock) (ho : w2.ownsRow base 5 1 v1 ys.length (nums .u8 ys)) :
    Wr base gw v1 ys (w2.setCell ⟨gw, 0, none⟩ v1) ∧ WKept gw v w (w2.setCell ⟨gw, 0, none⟩ v1) := by
  have hx := Wr.far h hb
  have hlt := (Array.getElem?_eq_some_iff.1 h.box).1
  have hlt1 := (Array.getElem?_eq_some_iff.1 hx.box).1
  have hne : some gw ≠ v.ownBlock := fun e => by
    obtain ⟨_, cur, hc⟩ := hx.block gw e
    have := hc.symm.trans hx.box
    injection this with this
    injection this with _ this
    exact absurd this (by decide)
  have h2 : w2.heap[gw]? = some (.cells #[v] 83 (0, 0)) := (hg.block gw hlt1 hne).trans hx.box
  have hne2 : ∀ k, v1.ownBlock = some k → k ≠ gw := by
    intro k hk e
    subst e
    rcases ho.2 with ⟨h1, _⟩ | ⟨g, cap, cur, h1, hb', hg', _⟩
    · rw [h1] at hk; cases hk
    · rw [h1] at hk
      have : k = g := by simpa [Value.ownBlock] using hk.symm
      subst this
      have := hg'.symm.trans h2
      injection this with this
      injection this with _ this
      exact absurd this (by decide)
  refine ⟨⟨?_, ownsRow_setCell_other ho (a := ⟨gw, 0, none⟩) (fun e => hne2 _ e rfl) v1, h.gwb⟩, ⟨?_, ?_, ?_, ?_, ?_⟩⟩
  · exact blk_put (cs := #[v]) h2 0 v1 rfl
  · exact hg.os.trans hb.os
  · exact hg.tape.trans hb.tape
  · exact hg.output.trans hb.output
  · exact Nat.le_trans hb.size (Nat.le_trans hg.size (by rw [World.size_setCell]; exact Nat.le_refl _))
  · intro k hk h1 h3
    rw [Below.heap_setCell w2 ⟨gw, 0, none⟩ v1 k h1, hg.block k (Nat.lt_of_lt_of_le hk hb.size) h3, hb.block k hk]

set_option maxHeartbeats 4000000 in
set_option maxRecDepth 100000 in
theorem block_writer_num.calls (n : Int) (r1 : ByteArray) (r2 : Option Int) (base gw : Nat) (v : Value) (xs : List Int) (w : World) (h : pack_Num.f 1000 n = some (r1, r2)) (hw : Wr base gw v xs w) (hl : xs.length + r1.size ≤ 140737488355328) :
    Calls Try.prog 47 #[.pointer (some ⟨gw, 0, none⟩), .int .i64 n] w fun e w' => e = .returned (.tuple #[]) ∧ ∃ v', Wr base gw v' (xs ++ bytesOf r1) w' ∧ WKept gw v w w' := by
  have HN := Aside0.mk h
  have HW := Aside0.mk hw
  have HL := Aside0.mk hl
  clear h hw hl
  go_enter Try.func47, Try.ntmps47
  go_wp2_with (first | (go_at_call 50; (with_reducible refine (pack_Num.calls 1000 n r1 r2 _ HN.out).mono ?_); rintro e w1 ⟨rfl, hb⟩; have HX := Aside0.mk (HW.out.far hb); have HBX := Aside0.mk HX.out.box; have HB := Aside0.mk hb; obtain ⟨hc, hf⟩ := Zk1 HBX; clear hb) | ((with_reducible refine gate_builtin (b := .append) (xs := #[.tmp 14, .tmp 15]) rfl ?_); at_builtin; refine print_append_str (w0 := w1) base rfl (.tmp 14) (.tmp 15) 83 9 5 rfl Try.underlying83 Try.underlying9 info5 v xs r1 rfl rfl HX.out.row (Below.refl _ _) (by have := (Array.getElem?_eq_some_iff.1 HBX.out).1; have := HX.out.gwb; omega) HL.out ?_; intro v1 w2 ho hb2 hg; obtain ⟨A_, m_, c_, rfl⟩ := own_slice ho; have HR := Aside0.mk (Wr.wrote HW.out HB.out hg ho); have HBX2 := Aside0.mk (show w2.heap[gw]? = some (.cells #[v] 83 (0, 0)) from (hg.block gw (Array.getElem?_eq_some_iff.1 HBX.out).1 (fun e => by obtain ⟨_, cur, hc⟩ := HX.out.block gw e; have := hc.symm.trans HX.out.box; injection this with this; injection this with _ this; exact absurd this (by decide))).trans HBX.out); clear hc hf; obtain ⟨hc, hf⟩ := Zk1 HBX2))
  refine bodyPost_end (results_none rfl _ _ _) rfl ?_
  exact ⟨rfl, _, HR.out.1, HR.out.2⟩

set_option maxHeartbeats 4000000 in
set_option maxRecDepth 100000 in
theorem block_writer_text.calls (s : ByteArray) (r1 : ByteArray) (r2 : Option Int) (base gw : Nat) (v : Value) (xs : List Int) (w : World) (h : pack_Text.f 1000 s = some (r1, r2)) (hw : Wr base gw v xs w) (hl : xs.length + r1.size ≤ 140737488355328) :
    Calls Try.prog 49 #[.pointer (some ⟨gw, 0, none⟩), .string s] w fun e w' => e = .returned (.tuple #[]) ∧ ∃ v', Wr base gw v' (xs ++ bytesOf r1) w' ∧ WKept gw v w w' := by
  have HN := Aside0.mk h
  have HW := Aside0.mk hw
  have HL := Aside0.mk hl
  clear h hw hl
  go_enter Try.func49, Try.ntmps49
  go_wp2_with (first | (go_at_call 43; (with_reducible refine (pack_Text.calls 1000 s r1 r2 _ HN.out).mono ?_); rintro e w1 ⟨rfl, hb⟩; have HX := Aside0.mk (HW.out.far hb); have HBX := Aside0.mk HX.out.box; have HB := Aside0.mk hb; obtain ⟨hc, hf⟩ := Zk1 HBX; clear hb) | ((with_reducible refine gate_builtin (b := .append) (xs := #[.tmp 14, .tmp 15]) rfl ?_); at_builtin; refine print_append_str (w0 := w1) base rfl (.tmp 14) (.tmp 15) 83 9 5 rfl Try.underlying83 Try.underlying9 info5 v xs r1 rfl rfl HX.out.row (Below.refl _ _) (by have := (Array.getElem?_eq_some_iff.1 HBX.out).1; have := HX.out.gwb; omega) HL.out ?_; intro v1 w2 ho hb2 hg; obtain ⟨A_, m_, c_, rfl⟩ := own_slice ho; have HR := Aside0.mk (Wr.wrote HW.out HB.out hg ho); have HBX2 := Aside0.mk (show w2.heap[gw]? = some (.cells #[v] 83 (0, 0)) from (hg.block gw (Array.getElem?_eq_some_iff.1 HBX.out).1 (fun e => by obtain ⟨_, cur, hc⟩ := HX.out.block gw e; have := hc.symm.trans HX.out.box; injection this with this; injection this with _ this; exact absurd this (by decide))).trans HBX.out); clear hc hf; obtain ⟨hc, hf⟩ := Zk1 HBX2))
  refine bodyPost_end (results_none rfl _ _ _) rfl ?_
  exact ⟨rfl, _, HR.out.1, HR.out.2⟩
end Go.Proofs.Ytbdkfmhkgeoeaaa.Print
