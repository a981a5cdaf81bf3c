/- Contracts proved by hand: see the theorems' own lines. -/
import Derived.Test.YtbdkfmhkgeoeaaaHPackReadNum
import Derived.Test.YtbdkfmhkgeoeaaaPrint0
import Derived.Test.YtbdkfmhkgeoeaaaPrint10
import Derived.WalkLawsBesides
namespace Go.Proofs.Ytbdkfmhkgeoeaaa.Print
open Go.RowKit Go.Proofs.YtbdkfmhkgeoeaaaW.PrintWords Go.Proofs.YtbdkfmhkgeoeaaaW.PrintLast Go.Proofs.YtbdkfmhkgeoeaaaW.PrintMore Go.Proofs.YtbdkfmhkgeoeaaaX
set_option linter.unusedVariables false
set_option linter.unusedSimpArgs false

set_option maxHeartbeats 1000000 in
theorem block_must.calls_true (w : World) : Calls Try.prog 65 #[.bool true] w fun e w' => e = .returned (.tuple #[]) ∧ Below w.heap.size w w' := by
  go_enter Try.func65, Try.ntmps65
  go_wp2
  refine bodyPost_end (results_none rfl _ _ _) rfl ?_
  exact ⟨rfl, Below.refl _ _⟩
set_option maxHeartbeats 1000000 in
theorem block_must.calls_false (w : World) : Calls Try.prog 65 #[.bool false] w fun e w' => e = .panicked [{ v := .iface 99 (.agg #[]), recovered := false }] ∧ Below w.heap.size w w' := by
  go_enter Try.func65, Try.ntmps65
  go_wp2
  exact ⟨rfl, rfl, Below.refl _ _⟩
/-- All but one box is as it was. -/
structure BoxKept (g : Nat) (W W' : World) : Prop where
  os : W'.os = W.os
  tape : W'.tape = W.tape
  output : W'.output = W.output
  size : W.heap.size ≤ W'.heap.size
  keep : ∀ k, k < W.heap.size → k ≠ g → W'.heap[k]? = W.heap[k]?
theorem BoxKept.of_below {g : Nat} {W W' : World} (h : Below W.heap.size W W') : BoxKept g W W' := ⟨h.os, h.tape, h.output, h.size, fun k hk _ => h.block k hk⟩
theorem BoxKept.trans {g : Nat} {A B C : World} (h : BoxKept g A B) (k : BoxKept g B C) : BoxKept g A C :=
  ⟨k.os.trans h.os, k.tape.trans h.tape, k.output.trans h.output, Nat.le_trans h.size k.size, fun j hj hne => (k.keep j (Nat.lt_of_lt_of_le hj h.size) hne).trans (h.keep j hj hne)⟩
theorem BoxKept.set {g : Nat} (W : World) (u : Value) : BoxKept g W (W.setCell ⟨g, 0, none⟩ u) :=
  ⟨rfl, rfl, rfl, by rw [World.size_setCell]; exact Nat.le_refl _, fun k _ hne => Below.heap_setCell W ⟨g, 0, none⟩ u k hne⟩
theorem BoxKept.below {g : Nat} {w W W' : World} (h : BoxKept g W W') (hB : Below w.heap.size w W) (hg : w.heap.size ≤ g) : Below w.heap.size w W' :=
  ⟨h.os.trans hB.os, h.tape.trans hB.tape, h.output.trans hB.output, Nat.le_trans hB.size h.size, fun k hk => (h.keep k (Nat.lt_of_lt_of_le hk hB.size) (by omega)).trans (hB.block k hk)⟩
theorem BoxKept.blk {g k : Nat} {W W' : World} {o : Obj} (h : BoxKept g W W') (hb : W.heap[k]? = some o) (hne : k ≠ g) : W'.heap[k]? = some o := (h.keep k (Array.getElem?_eq_some_iff.1 hb).1 hne).trans hb
def RBox (g : Nat) (s : ByteArray) (W : World) : Prop := W.heap[g]? = some (.cells #[.string s] 101 (0, 0))

set_option maxHeartbeats 4000000 in
set_option maxRecDepth 100000 in
theorem block_reader_num.calls_ok (g : Nat) (s : ByteArray) (n : Int) (rest : ByteArray) (w : World) (h : pack_ReadNum.f s = some (n, rest, none)) (hb : RBox g s w) :
    Calls Try.prog 64 #[.pointer (some ⟨g, 0, none⟩)] w fun e w' => e = .returned (.int .i64 n) ∧ RBox g rest w' ∧ BoxKept g w w' := by
  have H := Aside0.mk h
  have HX := Aside0.mk hb
  have HB := Aside0.mk (BoxKept.of_below (g := g) (Below.refl w.heap.size w))
  have BX := HX.out
  unfold RBox at BX
  have BX := Aside0.mk BX
  obtain ⟨hc, hf⟩ := Zk1 BX
  clear h hb HX
  go_enter Try.func64, Try.ntmps64
  go_wp2_with (first | (go_at_call 80; (with_reducible refine (pack_ReadNum.calls s n rest none _ H.out).mono ?_); rintro e w1 ⟨rfl, hb⟩; have n0_ := Aside0.mk (Zv BX hb); have n1_ := Aside0.mk (HB.out.trans (BoxKept.of_below hb)); clear BX HB hb hc hf; have BX := n0_; have HB := n1_; clear n0_ n1_; obtain ⟨hc, hf⟩ := Zk1 BX; simp only [errW_none]) | (go_at_call 65; refine (block_must.calls_true _).mono ?_; rintro e w2 ⟨rfl, hb⟩; have n0_ := Aside0.mk (Zv BX hb); have n1_ := Aside0.mk (HB.out.trans (BoxKept.of_below hb)); clear BX HB hb hc hf; have BX := n0_; have HB := n1_; clear n0_ n1_; obtain ⟨hc, hf⟩ := Zk1 BX))
  refine bodyPost_ret (results_tmp rfl _ _ _) rfl ?_
  exact ⟨rfl, blk_put (cs := #[.string s]) BX.out 0 _ rfl, HB.out.trans (BoxKept.set _ _)⟩
set_option maxHeartbeats 4000000 in
set_option maxRecDepth 100000 in
theorem block_reader_num.calls_bad (g : Nat) (s : ByteArray) (n : Int) (rest : ByteArray) (c : Int) (w : World) (h : pack_ReadNum.f s = some (n, rest, some c)) (hb : RBox g s w) :
    Calls Try.prog 64 #[.pointer (some ⟨g, 0, none⟩)] w fun e w' => e = .panicked [{ v := .iface 99 (.agg #[]), recovered := false }] ∧ BoxKept g w w' := by
  have H := Aside0.mk h
  have HX := Aside0.mk hb
  have HB := Aside0.mk (BoxKept.of_below (g := g) (Below.refl w.heap.size w))
  have BX := HX.out
  unfold RBox at BX
  have BX := Aside0.mk BX
  obtain ⟨hc, hf⟩ := Zk1 BX
  clear h hb HX
  go_enter Try.func64, Try.ntmps64
  go_wp2_with (first | (go_at_call 80; (with_reducible refine (pack_ReadNum.calls s n rest (some c) _ H.out).mono ?_); rintro e w1 ⟨rfl, hb⟩; have n0_ := Aside0.mk (Zv BX hb); have n1_ := Aside0.mk (HB.out.trans (BoxKept.of_below hb)); clear BX HB hb hc hf; have BX := n0_; have HB := n1_; clear n0_ n1_; obtain ⟨hc, hf⟩ := Zk1 BX; simp only [errW_some]) | (go_at_call 65; refine (block_must.calls_false _).mono ?_; rintro e w2 ⟨rfl, hb⟩; have n0_ := Aside0.mk (Zv BX hb); have n1_ := Aside0.mk (HB.out.trans (BoxKept.of_below hb)); clear BX HB hb hc hf; have BX := n0_; have HB := n1_; clear n0_ n1_; obtain ⟨hc, hf⟩ := Zk1 BX))
  exact ⟨rfl, rfl, HB.out⟩
set_option maxHeartbeats 4000000 in
set_option maxRecDepth 100000 in
theorem block_reader_text.calls_ok (g : Nat) (s : ByteArray) (n : ByteArray) (rest : ByteArray) (w : World) (h : pack_ReadText.f s = some (n, rest, none)) (hb : RBox g s w) :
    Calls Try.prog 81 #[.pointer (some ⟨g, 0, none⟩)] w fun e w' => e = .returned (.string n) ∧ RBox g rest w' ∧ BoxKept g w w' := by
  have H := Aside0.mk h
  have HX := Aside0.mk hb
  have HB := Aside0.mk (BoxKept.of_below (g := g) (Below.refl w.heap.size w))
  have BX := HX.out
  unfold RBox at BX
  have BX := Aside0.mk BX
  obtain ⟨hc, hf⟩ := Zk1 BX
  clear h hb HX
  go_enter Try.func81, Try.ntmps81
  go_wp2_with (first | (go_at_call 84; (with_reducible refine (pack_ReadText.calls s n rest none _ H.out).mono ?_); rintro e w1 ⟨rfl, hb⟩; have n0_ := Aside0.mk (Zv BX hb); have n1_ := Aside0.mk (HB.out.trans (BoxKept.of_below hb)); clear BX HB hb hc hf; have BX := n0_; have HB := n1_; clear n0_ n1_; obtain ⟨hc, hf⟩ := Zk1 BX; simp only [errW_none]) | (go_at_call 65; refine (block_must.calls_true _).mono ?_; rintro e w2 ⟨rfl, hb⟩; have n0_ := Aside0.mk (Zv BX hb); have n1_ := Aside0.mk (HB.out.trans (BoxKept.of_below hb)); clear BX HB hb hc hf; have BX := n0_; have HB := n1_; clear n0_ n1_; obtain ⟨hc, hf⟩ := Zk1 BX))
  refine bodyPost_ret (results_tmp rfl _ _ _) rfl ?_
  exact ⟨rfl, blk_put (cs := #[.string s]) BX.out 0 _ rfl, HB.out.trans (BoxKept.set _ _)⟩
set_option maxHeartbeats 4000000 in
set_option maxRecDepth 100000 in
theorem block_reader_text.calls_bad (g : Nat) (s : ByteArray) (n : ByteArray) (rest : ByteArray) (c : Int) (w : World) (h : pack_ReadText.f s = some (n, rest, some c)) (hb : RBox g s w) :
    Calls Try.prog 81 #[.pointer (some ⟨g, 0, none⟩)] w fun e w' => e = .panicked [{ v := .iface 99 (.agg #[]), recovered := false }] ∧ BoxKept g w w' := by
  have H := Aside0.mk h
  have HX := Aside0.mk hb
  have HB := Aside0.mk (BoxKept.of_below (g := g) (Below.refl w.heap.size w))
  have BX := HX.out
  unfold RBox at BX
  have BX := Aside0.mk BX
  obtain ⟨hc, hf⟩ := Zk1 BX
  clear h hb HX
  go_enter Try.func81, Try.ntmps81
  go_wp2_with (first | (go_at_call 84; (with_reducible refine (pack_ReadText.calls s n rest (some c) _ H.out).mono ?_); rintro e w1 ⟨rfl, hb⟩; have n0_ := Aside0.mk (Zv BX hb); have n1_ := Aside0.mk (HB.out.trans (BoxKept.of_below hb)); clear BX HB hb hc hf; have BX := n0_; have HB := n1_; clear n0_ n1_; obtain ⟨hc, hf⟩ := Zk1 BX; simp only [errW_some]) | (go_at_call 65; refine (block_must.calls_false _).mono ?_; rintro e w2 ⟨rfl, hb⟩; have n0_ := Aside0.mk (Zv BX hb); have n1_ := Aside0.mk (HB.out.trans (BoxKept.of_below hb)); clear BX HB hb hc hf; have BX := n0_; have HB := n1_; clear n0_ n1_; obtain ⟨hc, hf⟩ := Zk1 BX))
  exact ⟨rfl, rfl, HB.out⟩
end Go.Proofs.Ytbdkfmhkgeoeaaa.Print
