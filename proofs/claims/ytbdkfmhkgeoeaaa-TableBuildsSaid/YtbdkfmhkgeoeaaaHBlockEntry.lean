/- Contracts proved by hand: see the theorems' own lines. -/
import Derived.Test.YtbdkfmhkgeoeaaaHBlockReader
import Derived.Test.YtbdkfmhkgeoeaaaPrint0
namespace Go.Proofs.Ytbdkfmhkgeoeaaa.Print
open Go.RowKit Go.Proofs.YtbdkfmhkgeoeaaaW.PrintWords Go.Proofs.YtbdkfmhkgeoeaaaW.PrintLast Go.Proofs.YtbdkfmhkgeoeaaaW.PrintMore Go.Proofs.YtbdkfmhkgeoeaaaX
set_option linter.unusedVariables false
set_option linter.unusedSimpArgs false

theorem goesP_ {P : Program} {ops : Array Oper} {Q : Exit → Act → World → Prop} {oi : Oper} {N : Option Tmp} {a : Act} {w : World} {K : Act → World → Prop} {f : FuncId} {fn : Func} {as_ : Array Operand} {ts : Array TypeId} (hf : P.funcs[f]? = some fn) (hname : (fn.name == "runtime.NumGoroutine") = false) (hb : fn.body.isSome = true) (args : Array Value)
    (hw : Region.wanted oi (yielded ops a.tmps) = true) (hN : oi.dst = N) (hop : oi.op = .call { callee := .value (.func f), args := as_, argTypes := ts }) (hargs : as_.map a.eval = args)
    (h : Calls P f args w fun e w' => ∃ chain, e = .panicked chain ∧ Q (.panic chain) a w') : if Region.wanted oi (yielded ops a.tmps) = true then Oper.wp P oi a w K Q else K (a.put N undef) w := by
  have hrun : (execOp a.eval oi).run P w = .ok (.enter f args) w := by
    have he := enters_ hf hname hb args w
    unfold execOp
    simp [hop, resolve, Deferred.ofValue, invoke, Act.eval, hargs, he]
  rw [if_pos hw]
  unfold Oper.wp
  rw [hrun, Oper.upon_enter]
  refine h.mono fun e w'' hh => ?_
  obtain ⟨chain, rfl, hk⟩ := hh
  exact hk
theorem BoxKept.set_new {g ge j : Nat} {w W : World} (h : BoxKept g w W) (hge : w.heap.size ≤ ge) (u : Value) : BoxKept g w (W.setCell ⟨ge, j, none⟩ u) :=
  ⟨h.os, h.tape, h.output, Nat.le_trans h.size (by rw [World.size_setCell]; exact Nat.le_refl _), fun k hk hne => (Below.heap_setCell W ⟨ge, j, none⟩ u k (show k ≠ ge by omega)).trans (h.keep k hk hne)⟩
theorem BoxKept.ne_of {g ge : Nat} {w : World} (hg : g < w.heap.size) (h : w.heap.size ≤ ge) : ge ≠ g ∧ g ≠ ge := ⟨by omega, by omega⟩
/-- What is the next entry, behind a key; inner none: none is; outer none: nothing is told. -/
def decEntry (s last : ByteArray) : Option (Option (S36 × ByteArray)) :=
  (pack_ReadNum.f s).bind fun r1 => if r1.2.2.isNone = true then
    (if r1.1 < 0 then none else if ¬ r1.1 ≤ (last.size : Int) then some none else
      (pack_ReadText.f r1.2.1).bind fun r2 => if r2.2.2.isNone = true then
        (if (last.extract 0 r1.1.toNat).size + r2.1.size ≤ 9223372036854775807 then
          (pack_ReadNum.f r2.2.1).bind fun r3 => if r3.2.2.isNone = true then
            ((pack_ReadNum.f r3.2.1).bind fun r4 => if r4.2.2.isNone = true then
              (if r4.1 = 0 then ((pack_ReadText.f r4.2.1).bind fun r5 => if r5.2.2.isNone = true then some (some (⟨last.extract 0 r1.1.toNat ++ r2.1, r3.1, false, r5.1⟩, r5.2.1)) else some none)
               else if r4.1 = 1 then some (some (⟨last.extract 0 r1.1.toNat ++ r2.1, r3.1, true, ⟨#[]⟩⟩, r4.2.1)) else some none)
             else some none)
          else some none
         else none)
       else some none)
   else some none
def entV (x : S36) : Value := .agg #[.string x.f0, .int .i64 x.f1, .bool x.f2, .string x.f3]
def entPost (g : Nat) (w : World) (r : Option (S36 × ByteArray)) (e : Ending) (w' : World) : Prop := (match r with
  | some (x, rest) => e = .returned (entV x) ∧ RBox g rest w'
  | none => e = .panicked [{ v := .iface 99 (.agg #[]), recovered := false }]) ∧ BoxKept g w w'
theorem str_to (s : ByteArray) (n : Int) (h0 : 0 ≤ n) (h1 : n ≤ (s.size : Int)) : ∀ W : World, (Instr.slice 9 (.string s) none (some (.int .i64 n)) none).run Try.prog W = .ok (.string (s.extract 0 n.toNat)) W := by
  intro W
  have p : (0 ≤ n) = True := eq_true h0
  have q : (n ≤ (s.size : Int)) = True := eq_true h1
  go_simp

set_option maxHeartbeats 16000000 in
set_option maxRecDepth 100000 in
theorem block_reader_entry.calls (g : Nat) (s last : ByteArray) (r : Option (S36 × ByteArray)) (w : World) (h : decEntry s last = some r) (hb : RBox g s w) :
    Calls Try.prog 66 #[.pointer (some ⟨g, 0, none⟩), .string last] w (entPost g w r) := by
  have hgl := Aside0.mk (Array.getElem?_eq_some_iff.1 hb).1
  have BX := Aside0.mk hb
  have HB := Aside0.mk (BoxKept.of_below (g := g) (Below.refl w.heap.size w))
  clear hb
  unfold decEntry at h
  obtain ⟨⟨n, s1, H1E⟩, H1_, h⟩ := Option.bind_eq_some_iff.1 h
  have H1 := Aside0.mk H1_; clear H1_
  simp only at h
  cases H1E with
  | some c =>
    rw [if_neg (show ¬ (some c : Option Int).isNone = true by simp)] at h
    obtain rfl := Option.some.inj h
    clear h
    go_enter Try.func66, Try.ntmps66
    go_wp2_with (first | ((with_reducible refine gate_dst (N := 4) rfl ?_); refine box_event ?hg (N := 4) ?hd (cs := #[.string (⟨#[]⟩ : ByteArray), .int .i64 0, .bool false, .string (⟨#[]⟩ : ByteArray)]) (t := 36) ?hr ?_; (case hd => rfl); (case hg => rfl); (case hr => first | (go_simp; done) | (go_simp; rfl)); intro ge hg w4 hbox hb; have GE := Aside0.mk (show w.heap.size ≤ ge from hg ▸ HB.out.size); have n0_ := Aside0.mk (HB.out.trans (BoxKept.of_below hb)); have n1_ := Aside0.mk (show RBox g s w4 from (hb.block g (Array.getElem?_eq_some_iff.1 BX.out).1).trans BX.out); have BE := Aside0.mk hbox; clear HB BX hb hbox hg; have HB := n0_; have BX := n1_; clear n0_ n1_; obtain ⟨⟨hc0, hc1, hc2, hc3⟩, hf0, hf1, hf2, hf3⟩ := Zk4 BE) | (go_at_call 64; (with_reducible refine (block_reader_num.calls_bad g _ n s1 c _ H1.out BX.out).mono ?_); rintro e w9 ⟨rfl, hk⟩; have n1_ := Aside0.mk (HB.out.trans hk); clear HB; have HB := n1_; clear n1_))
    exact ⟨rfl, rfl, HB.out⟩
  | none =>
    rw [if_pos (show (none : Option Int).isNone = true from rfl)] at h
    by_cases h0 : n < 0
    · rw [if_pos h0] at h; cases h
    rw [if_neg h0] at h
    replace h0 : 0 ≤ n := by omega
    by_cases h1 : ¬ n ≤ (last.size : Int)
    · rw [if_pos h1] at h
      obtain rfl := Option.some.inj h
      clear h
      have h1b : decide (n ≤ (last.size : Int)) = false := decide_eq_false h1
      clear h1
      go_enter Try.func66, Try.ntmps66
      go_wp2_with (first | ((with_reducible refine gate_dst (N := 4) rfl ?_); refine box_event ?hg (N := 4) ?hd (cs := #[.string (⟨#[]⟩ : ByteArray), .int .i64 0, .bool false, .string (⟨#[]⟩ : ByteArray)]) (t := 36) ?hr ?_; (case hd => rfl); (case hg => rfl); (case hr => first | (go_simp; done) | (go_simp; rfl)); intro ge hg w4 hbox hb; have GE := Aside0.mk (show w.heap.size ≤ ge from hg ▸ HB.out.size); have n0_ := Aside0.mk (HB.out.trans (BoxKept.of_below hb)); have n1_ := Aside0.mk (show RBox g s w4 from (hb.block g (Array.getElem?_eq_some_iff.1 BX.out).1).trans BX.out); have BE := Aside0.mk hbox; clear HB BX hb hbox hg; have HB := n0_; have BX := n1_; clear n0_ n1_; obtain ⟨⟨hc0, hc1, hc2, hc3⟩, hf0, hf1, hf2, hf3⟩ := Zk4 BE) | (go_at_call 64; (with_reducible refine (block_reader_num.calls_ok g _ n s1 _ H1.out BX.out).mono ?_); rintro e w6 ⟨rfl, hx, hk⟩; have n0_ := Aside0.mk (hk.blk BE.out (BoxKept.ne_of hgl.out GE.out).1); have n1_ := Aside0.mk (HB.out.trans hk); clear BE HB BX hk hc0 hc1 hc2 hc3 hf0 hf1 hf2 hf3; have BE := n0_; have HB := n1_; have BX := Aside0.mk hx; clear n0_ n1_ hx; obtain ⟨⟨hc0, hc1, hc2, hc3⟩, hf0, hf1, hf2, hf3⟩ := Zk4 BE) | (go_at_call 65; refine (block_must.calls_false _).mono ?_; rintro e w9 ⟨rfl, hb⟩; have n1_ := Aside0.mk (HB.out.trans (BoxKept.of_below hb)); clear HB; have HB := n1_; clear n1_))
      exact ⟨rfl, rfl, HB.out⟩
    rw [if_neg h1] at h
    replace h1 : n ≤ (last.size : Int) := by omega
    have h1b : decide (n ≤ (last.size : Int)) = true := decide_eq_true h1
    obtain ⟨⟨tl, s2, H2E⟩, H2_, h⟩ := Option.bind_eq_some_iff.1 h
    have H2 := Aside0.mk H2_; clear H2_
    simp only at h
    cases H2E with
    | some c =>
      rw [if_neg (show ¬ (some c : Option Int).isNone = true by simp)] at h
      obtain rfl := Option.some.inj h
      clear h
      have hsl := str_to last n h0 h1
      go_enter Try.func66, Try.ntmps66
      go_wp2_with (first | ((with_reducible refine gate_dst (N := 4) rfl ?_); refine box_event ?hg (N := 4) ?hd (cs := #[.string (⟨#[]⟩ : ByteArray), .int .i64 0, .bool false, .string (⟨#[]⟩ : ByteArray)]) (t := 36) ?hr ?_; (case hd => rfl); (case hg => rfl); (case hr => first | (go_simp; done) | (go_simp; rfl)); intro ge hg w4 hbox hb; have GE := Aside0.mk (show w.heap.size ≤ ge from hg ▸ HB.out.size); have n0_ := Aside0.mk (HB.out.trans (BoxKept.of_below hb)); have n1_ := Aside0.mk (show RBox g s w4 from (hb.block g (Array.getElem?_eq_some_iff.1 BX.out).1).trans BX.out); have BE := Aside0.mk hbox; clear HB BX hb hbox hg; have HB := n0_; have BX := n1_; clear n0_ n1_; obtain ⟨⟨hc0, hc1, hc2, hc3⟩, hf0, hf1, hf2, hf3⟩ := Zk4 BE) | (go_at_call 64; (with_reducible refine (block_reader_num.calls_ok g _ n s1 _ H1.out BX.out).mono ?_); rintro e w6 ⟨rfl, hx, hk⟩; have n0_ := Aside0.mk (hk.blk BE.out (BoxKept.ne_of hgl.out GE.out).1); have n1_ := Aside0.mk (HB.out.trans hk); clear BE HB BX hk hc0 hc1 hc2 hc3 hf0 hf1 hf2 hf3; have BE := n0_; have HB := n1_; have BX := Aside0.mk hx; clear n0_ n1_ hx; obtain ⟨⟨hc0, hc1, hc2, hc3⟩, hf0, hf1, hf2, hf3⟩ := Zk4 BE) | (go_at_call 65; refine (block_must.calls_true _).mono ?_; rintro e w5 ⟨rfl, hb⟩; have hk := BoxKept.of_below (g := g) hb; have hx := (show RBox g _ w5 from (hb.block g (Array.getElem?_eq_some_iff.1 BX.out).1).trans BX.out); clear hb; have n0_ := Aside0.mk (hk.blk BE.out (BoxKept.ne_of hgl.out GE.out).1); have n1_ := Aside0.mk (HB.out.trans hk); clear BE HB BX hk hc0 hc1 hc2 hc3 hf0 hf1 hf2 hf3; have BE := n0_; have HB := n1_; have BX := Aside0.mk hx; clear n0_ n1_ hx; obtain ⟨⟨hc0, hc1, hc2, hc3⟩, hf0, hf1, hf2, hf3⟩ := Zk4 BE))
      refine start_ (n := 12) (S := fun _ => True) (ds := []) #[false, false, false, false, false, false, false, false, false, false, false, false] (by kernel_rfl) rfl rfl trivial (fun hHeld => ?_)
      have n0_ := Aside0.mk (show w5.drew.heap[ge]? = _ from BE.out); have n1_ := Aside0.mk (show RBox g _ w5.drew from BX.out); have n2_ := Aside0.mk (show BoxKept g w w5.drew from ⟨HB.out.os, HB.out.tape, HB.out.output, HB.out.size, HB.out.keep⟩)
      clear hc0 hc1 hc2 hc3 hf0 hf1 hf2 hf3
      clear BE BX HB
      generalize w5.drew = wB at n0_ n1_ n2_ ⊢
      have BE := n0_; have BX := n1_; have HB := n2_; clear n0_ n1_ n2_
      obtain ⟨⟨hc0, hc1, hc2, hc3⟩, hf0, hf1, hf2, hf3⟩ := Zk4 BE
      refine pure_ (i := 0) (N := some 13) (v := ?_) (a' := ?_) #[true, false, false, false, false, false, false, false, false, false, false, false] rfl rfl (by kernel_rfl) (fun _ _ _ h => h) (Or.inl ⟨by rfl, ?_⟩) ?_ ?_; rotate_left; (focus intro w'; go_simp; with_reducible rfl); rotate_left; (focus simp only [Act.put, List.setIfInBounds_toArray, List.set_cons_zero, List.set_cons_succ, i64_w, i32_w]; rfl)
      refine pure_ (i := 1) (N := some 14) (v := ?_) (a' := ?_) #[true, true, false, false, false, false, false, false, false, false, false, false] rfl rfl (by kernel_rfl) (fun _ _ _ h => h) (Or.inl ⟨by rfl, ?_⟩) ?_ ?_; rotate_left; (focus intro w'; go_simp; with_reducible rfl); rotate_left; (focus simp only [Act.put, List.setIfInBounds_toArray, List.set_cons_zero, List.set_cons_succ, i64_w, i32_w]; rfl)
      refine pure_ (i := 2) (N := some 15) (v := ?_) (a' := ?_) #[true, true, true, false, false, false, false, false, false, false, false, false] rfl rfl (by kernel_rfl) (fun _ _ _ h => h) (Or.inl ⟨by rfl, ?_⟩) ?_ ?_; rotate_left; (focus intro w'; go_simp; with_reducible rfl); rotate_left; (focus simp only [Act.put, List.setIfInBounds_toArray, List.set_cons_zero, List.set_cons_succ, i64_w, i32_w]; rfl)
      refine pure_ (i := 3) (N := some 16) (v := ?_) (a' := ?_) #[true, true, true, true, false, false, false, false, false, false, false, false] rfl rfl (by kernel_rfl) (fun _ _ _ h => h) (Or.inl ⟨by rfl, ?_⟩) ?_ ?_; rotate_left; (focus intro w'; go_simp; with_reducible rfl); rotate_left; (focus simp only [Act.put, List.setIfInBounds_toArray, List.set_cons_zero, List.set_cons_succ, i64_w, i32_w]; rfl)
      refine pure_ (i := 6) (N := some 19) (v := ?_) (a' := ?_) #[true, true, true, true, false, false, true, false, false, false, false, false] rfl rfl (by kernel_rfl) (fun _ _ _ h => h) (Or.inl ⟨by rfl, ?_⟩) ?_ ?_; rotate_left; (focus intro w'; go_simp; with_reducible rfl); rotate_left; (focus simp only [Act.put, List.setIfInBounds_toArray, List.set_cons_zero, List.set_cons_succ, i64_w, i32_w]; rfl)
      refine one_ (i := 4) (N := some 17) #[true, true, true, true, true, false, true, false, false, false, false, false] rfl rfl (by kernel_rfl) (by decide) (fun K hK => ?_)
      refine goesP_ Try.func81 (by kernel_rfl) rfl #[.pointer (some ⟨g, 0, none⟩)] (by rfl) rfl rfl (by (try simp only [List.map_toArray, List.map_cons, List.map_nil]); first | done | rfl) ?_
      with_reducible refine (block_reader_text.calls_bad g _ tl s2 c _ H2.out BX.out).mono ?_
      rintro e wC ⟨rfl, hk⟩
      exact ⟨_, rfl, rfl, rfl, HB.out.trans hk⟩
    | none =>
      rw [if_pos (show (none : Option Int).isNone = true from rfl)] at h
      by_cases hz : (last.extract 0 n.toNat).size + tl.size ≤ 9223372036854775807
      rotate_left
      · rw [if_neg hz] at h; cases h
      rw [if_pos hz] at h
      have hsl := str_to last n h0 h1
      have hzb : (9223372036854775807 < (last.extract 0 n.toNat).size + tl.size) = False := eq_false (by omega)
      have hKEY : Aside0 (last.extract 0 n.toNat ++ tl = last.extract 0 n.toNat ++ tl) := ⟨rfl⟩
      generalize last.extract 0 n.toNat = hd at *
      obtain ⟨KEY, hKE⟩ : ∃ K, hd ++ tl = K := ⟨_, rfl⟩
      rw [hKE] at h
      obtain ⟨⟨q, s3, H3E⟩, H3_, h⟩ := Option.bind_eq_some_iff.1 h
      have H3 := Aside0.mk H3_; clear H3_
      simp only at h
      cases H3E with
      | some c =>
        rw [if_neg (show ¬ (some c : Option Int).isNone = true by simp)] at h
        obtain rfl := Option.some.inj h
        clear h
        go_enter Try.func66, Try.ntmps66
        go_wp2_with (first | ((with_reducible refine gate_dst (N := 4) rfl ?_); refine box_event ?hg (N := 4) ?hd (cs := #[.string (⟨#[]⟩ : ByteArray), .int .i64 0, .bool false, .string (⟨#[]⟩ : ByteArray)]) (t := 36) ?hr ?_; (case hd => rfl); (case hg => rfl); (case hr => first | (go_simp; done) | (go_simp; rfl)); intro ge hg w4 hbox hb; have GE := Aside0.mk (show w.heap.size ≤ ge from hg ▸ HB.out.size); have n0_ := Aside0.mk (HB.out.trans (BoxKept.of_below hb)); have n1_ := Aside0.mk (show RBox g s w4 from (hb.block g (Array.getElem?_eq_some_iff.1 BX.out).1).trans BX.out); have BE := Aside0.mk hbox; clear HB BX hb hbox hg; have HB := n0_; have BX := n1_; clear n0_ n1_; obtain ⟨⟨hc0, hc1, hc2, hc3⟩, hf0, hf1, hf2, hf3⟩ := Zk4 BE) | (go_at_call 64; (with_reducible refine (block_reader_num.calls_ok g _ n s1 _ H1.out BX.out).mono ?_); rintro e w6 ⟨rfl, hx, hk⟩; have n0_ := Aside0.mk (hk.blk BE.out (BoxKept.ne_of hgl.out GE.out).1); have n1_ := Aside0.mk (HB.out.trans hk); clear BE HB BX hk hc0 hc1 hc2 hc3 hf0 hf1 hf2 hf3; have BE := n0_; have HB := n1_; have BX := Aside0.mk hx; clear n0_ n1_ hx; obtain ⟨⟨hc0, hc1, hc2, hc3⟩, hf0, hf1, hf2, hf3⟩ := Zk4 BE) | (go_at_call 65; refine (block_must.calls_true _).mono ?_; rintro e w5 ⟨rfl, hb⟩; have hk := BoxKept.of_below (g := g) hb; have hx := (show RBox g _ w5 from (hb.block g (Array.getElem?_eq_some_iff.1 BX.out).1).trans BX.out); clear hb; have n0_ := Aside0.mk (hk.blk BE.out (BoxKept.ne_of hgl.out GE.out).1); have n1_ := Aside0.mk (HB.out.trans hk); clear BE HB BX hk hc0 hc1 hc2 hc3 hf0 hf1 hf2 hf3; have BE := n0_; have HB := n1_; have BX := Aside0.mk hx; clear n0_ n1_ hx; obtain ⟨⟨hc0, hc1, hc2, hc3⟩, hf0, hf1, hf2, hf3⟩ := Zk4 BE))
        refine start_ (n := 12) (S := fun _ => True) (ds := []) #[false, false, false, false, false, false, false, false, false, false, false, false] (by kernel_rfl) rfl rfl trivial (fun hHeld => ?_)
        have n0_ := Aside0.mk (show w5.drew.heap[ge]? = _ from BE.out); have n1_ := Aside0.mk (show RBox g _ w5.drew from BX.out); have n2_ := Aside0.mk (show BoxKept g w w5.drew from ⟨HB.out.os, HB.out.tape, HB.out.output, HB.out.size, HB.out.keep⟩)
        clear hc0 hc1 hc2 hc3 hf0 hf1 hf2 hf3
        clear BE BX HB
        generalize w5.drew = wB at n0_ n1_ n2_ ⊢
        have BE := n0_; have BX := n1_; have HB := n2_; clear n0_ n1_ n2_
        obtain ⟨⟨hc0, hc1, hc2, hc3⟩, hf0, hf1, hf2, hf3⟩ := Zk4 BE
        refine pure_ (i := 0) (N := some 13) (v := ?_) (a' := ?_) #[true, false, false, false, false, false, false, false, false, false, false, false] rfl rfl (by kernel_rfl) (fun _ _ _ h => h) (Or.inl ⟨by rfl, ?_⟩) ?_ ?_; rotate_left; (focus intro w'; go_simp; with_reducible rfl); rotate_left; (focus simp only [Act.put, List.setIfInBounds_toArray, List.set_cons_zero, List.set_cons_succ, i64_w, i32_w]; rfl)
        refine pure_ (i := 1) (N := some 14) (v := ?_) (a' := ?_) #[true, true, false, false, false, false, false, false, false, false, false, false] rfl rfl (by kernel_rfl) (fun _ _ _ h => h) (Or.inl ⟨by rfl, ?_⟩) ?_ ?_; rotate_left; (focus intro w'; go_simp; with_reducible rfl); rotate_left; (focus simp only [Act.put, List.setIfInBounds_toArray, List.set_cons_zero, List.set_cons_succ, i64_w, i32_w]; rfl)
        refine pure_ (i := 2) (N := some 15) (v := ?_) (a' := ?_) #[true, true, true, false, false, false, false, false, false, false, false, false] rfl rfl (by kernel_rfl) (fun _ _ _ h => h) (Or.inl ⟨by rfl, ?_⟩) ?_ ?_; rotate_left; (focus intro w'; go_simp; with_reducible rfl); rotate_left; (focus simp only [Act.put, List.setIfInBounds_toArray, List.set_cons_zero, List.set_cons_succ, i64_w, i32_w]; rfl)
        refine pure_ (i := 3) (N := some 16) (v := ?_) (a' := ?_) #[true, true, true, true, false, false, false, false, false, false, false, false] rfl rfl (by kernel_rfl) (fun _ _ _ h => h) (Or.inl ⟨by rfl, ?_⟩) ?_ ?_; rotate_left; (focus intro w'; go_simp; with_reducible rfl); rotate_left; (focus simp only [Act.put, List.setIfInBounds_toArray, List.set_cons_zero, List.set_cons_succ, i64_w, i32_w]; rfl)
        refine pure_ (i := 6) (N := some 19) (v := ?_) (a' := ?_) #[true, true, true, true, false, false, true, false, false, false, false, false] rfl rfl (by kernel_rfl) (fun _ _ _ h => h) (Or.inl ⟨by rfl, ?_⟩) ?_ ?_; rotate_left; (focus intro w'; go_simp; with_reducible rfl); rotate_left; (focus simp only [Act.put, List.setIfInBounds_toArray, List.set_cons_zero, List.set_cons_succ, i64_w, i32_w]; rfl)
        refine one_ (i := 4) (N := some 17) #[true, true, true, true, true, false, true, false, false, false, false, false] rfl rfl (by kernel_rfl) (by decide) (fun K hK => ?_)
        refine goes_ Try.func81 (by kernel_rfl) rfl #[.pointer (some ⟨g, 0, none⟩)] (by rfl) rfl rfl (by (try simp only [List.map_toArray, List.map_cons, List.map_nil]); first | done | rfl) ?_
        with_reducible refine (block_reader_text.calls_ok g _ tl s2 _ H2.out BX.out).mono ?_
        rintro e wC ⟨rfl, hx, hk⟩
        refine ⟨_, rfl, ?_⟩
        have n0_ := Aside0.mk (hk.blk BE.out (BoxKept.ne_of hgl.out GE.out).1)
        have n1_ := Aside0.mk (HB.out.trans hk)
        clear BE HB BX hk hc0 hc1 hc2 hc3 hf0 hf1 hf2 hf3
        have BE := n0_
        have HB := n1_
        have BX := Aside0.mk hx
        clear n0_ n1_ hx
        obtain ⟨⟨hc0, hc1, hc2, hc3⟩, hf0, hf1, hf2, hf3⟩ := Zk4 BE
        refine hK.out _ _ trivial (fun hHeld => ?_)
        clear hK K
        refine norm_ (a' := ?_) ?_ ?_
        rotate_left
        · show Act.put _ (some 17) _ = _
          simp only [Act.put, List.setIfInBounds_toArray, List.set_cons_zero, List.set_cons_succ, i64_w, i32_w]
          rfl
        refine pure_ (i := 5) (N := some 18) (v := ?_) (a' := ?_) #[true, true, true, true, true, true, true, false, false, false, false, false] rfl rfl (by kernel_rfl) (fun _ _ _ h => h) (Or.inl ⟨by rfl, ?_⟩) ?_ ?_; rotate_left; (focus intro w'; go_simp; with_reducible rfl); rotate_left; (focus simp only [Act.put, List.setIfInBounds_toArray, List.set_cons_zero, List.set_cons_succ, i64_w, i32_w]; rfl)
        refine pure_ (i := 8) (N := some 21) (v := ?_) (a' := ?_) #[true, true, true, true, true, true, true, false, true, false, false, false] rfl rfl (by kernel_rfl) (fun _ _ _ h => h) (Or.inl ⟨by rfl, ?_⟩) ?_ ?_; rotate_left; (focus intro w'; go_simp; with_reducible rfl); rotate_left; (focus simp only [Act.put, List.setIfInBounds_toArray, List.set_cons_zero, List.set_cons_succ, i64_w, i32_w]; rfl)
        refine one_ (i := 7) (N := some 20) #[true, true, true, true, true, true, true, true, true, false, false, false] rfl rfl (by kernel_rfl) (by decide) (fun K hK => ?_)
        refine goesP_ Try.func64 (by kernel_rfl) rfl #[.pointer (some ⟨g, 0, none⟩)] (by rfl) rfl rfl (by (try simp only [List.map_toArray, List.map_cons, List.map_nil]); first | done | rfl) ?_
        with_reducible refine (block_reader_num.calls_bad g _ q s3 c _ H3.out BX.out).mono ?_
        rintro e wC ⟨rfl, hk⟩
        exact ⟨_, rfl, rfl, rfl, HB.out.trans hk⟩
      | none =>
        rw [if_pos (show (none : Option Int).isNone = true from rfl)] at h
        obtain ⟨⟨d, s4, H4E⟩, H4_, h⟩ := Option.bind_eq_some_iff.1 h
        have H4 := Aside0.mk H4_; clear H4_
        simp only at h
        cases H4E with
        | some c =>
          rw [if_neg (show ¬ (some c : Option Int).isNone = true by simp)] at h
          obtain rfl := Option.some.inj h
          clear h
          go_enter Try.func66, Try.ntmps66
          go_wp2_with (first | ((with_reducible refine gate_dst (N := 4) rfl ?_); refine box_event ?hg (N := 4) ?hd (cs := #[.string (⟨#[]⟩ : ByteArray), .int .i64 0, .bool false, .string (⟨#[]⟩ : ByteArray)]) (t := 36) ?hr ?_; (case hd => rfl); (case hg => rfl); (case hr => first | (go_simp; done) | (go_simp; rfl)); intro ge hg w4 hbox hb; have GE := Aside0.mk (show w.heap.size ≤ ge from hg ▸ HB.out.size); have n0_ := Aside0.mk (HB.out.trans (BoxKept.of_below hb)); have n1_ := Aside0.mk (show RBox g s w4 from (hb.block g (Array.getElem?_eq_some_iff.1 BX.out).1).trans BX.out); have BE := Aside0.mk hbox; clear HB BX hb hbox hg; have HB := n0_; have BX := n1_; clear n0_ n1_; obtain ⟨⟨hc0, hc1, hc2, hc3⟩, hf0, hf1, hf2, hf3⟩ := Zk4 BE) | (go_at_call 64; (with_reducible refine (block_reader_num.calls_ok g _ n s1 _ H1.out BX.out).mono ?_); rintro e w6 ⟨rfl, hx, hk⟩; have n0_ := Aside0.mk (hk.blk BE.out (BoxKept.ne_of hgl.out GE.out).1); have n1_ := Aside0.mk (HB.out.trans hk); clear BE HB BX hk hc0 hc1 hc2 hc3 hf0 hf1 hf2 hf3; have BE := n0_; have HB := n1_; have BX := Aside0.mk hx; clear n0_ n1_ hx; obtain ⟨⟨hc0, hc1, hc2, hc3⟩, hf0, hf1, hf2, hf3⟩ := Zk4 BE) | (go_at_call 65; refine (block_must.calls_true _).mono ?_; rintro e w5 ⟨rfl, hb⟩; have hk := BoxKept.of_below (g := g) hb; have hx := (show RBox g _ w5 from (hb.block g (Array.getElem?_eq_some_iff.1 BX.out).1).trans BX.out); clear hb; have n0_ := Aside0.mk (hk.blk BE.out (BoxKept.ne_of hgl.out GE.out).1); have n1_ := Aside0.mk (HB.out.trans hk); clear BE HB BX hk hc0 hc1 hc2 hc3 hf0 hf1 hf2 hf3; have BE := n0_; have HB := n1_; have BX := Aside0.mk hx; clear n0_ n1_ hx; obtain ⟨⟨hc0, hc1, hc2, hc3⟩, hf0, hf1, hf2, hf3⟩ := Zk4 BE))
          refine start_ (n := 12) (S := fun _ => True) (ds := []) #[false, false, false, false, false, false, false, false, false, false, false, false] (by kernel_rfl) rfl rfl trivial (fun hHeld => ?_)
          have n0_ := Aside0.mk (show w5.drew.heap[ge]? = _ from BE.out); have n1_ := Aside0.mk (show RBox g _ w5.drew from BX.out); have n2_ := Aside0.mk (show BoxKept g w w5.drew from ⟨HB.out.os, HB.out.tape, HB.out.output, HB.out.size, HB.out.keep⟩)
          clear hc0 hc1 hc2 hc3 hf0 hf1 hf2 hf3
          clear BE BX HB
          generalize w5.drew = wB at n0_ n1_ n2_ ⊢
          have BE := n0_; have BX := n1_; have HB := n2_; clear n0_ n1_ n2_
          obtain ⟨⟨hc0, hc1, hc2, hc3⟩, hf0, hf1, hf2, hf3⟩ := Zk4 BE
          refine pure_ (i := 0) (N := some 13) (v := ?_) (a' := ?_) #[true, false, false, false, false, false, false, false, false, false, false, false] rfl rfl (by kernel_rfl) (fun _ _ _ h => h) (Or.inl ⟨by rfl, ?_⟩) ?_ ?_; rotate_left; (focus intro w'; go_simp; with_reducible rfl); rotate_left; (focus simp only [Act.put, List.setIfInBounds_toArray, List.set_cons_zero, List.set_cons_succ, i64_w, i32_w]; rfl)
          refine pure_ (i := 1) (N := some 14) (v := ?_) (a' := ?_) #[true, true, false, false, false, false, false, false, false, false, false, false] rfl rfl (by kernel_rfl) (fun _ _ _ h => h) (Or.inl ⟨by rfl, ?_⟩) ?_ ?_; rotate_left; (focus intro w'; go_simp; with_reducible rfl); rotate_left; (focus simp only [Act.put, List.setIfInBounds_toArray, List.set_cons_zero, List.set_cons_succ, i64_w, i32_w]; rfl)
          refine pure_ (i := 2) (N := some 15) (v := ?_) (a' := ?_) #[true, true, true, false, false, false, false, false, false, false, false, false] rfl rfl (by kernel_rfl) (fun _ _ _ h => h) (Or.inl ⟨by rfl, ?_⟩) ?_ ?_; rotate_left; (focus intro w'; go_simp; with_reducible rfl); rotate_left; (focus simp only [Act.put, List.setIfInBounds_toArray, List.set_cons_zero, List.set_cons_succ, i64_w, i32_w]; rfl)
          refine pure_ (i := 3) (N := some 16) (v := ?_) (a' := ?_) #[true, true, true, true, false, false, false, false, false, false, false, false] rfl rfl (by kernel_rfl) (fun _ _ _ h => h) (Or.inl ⟨by rfl, ?_⟩) ?_ ?_; rotate_left; (focus intro w'; go_simp; with_reducible rfl); rotate_left; (focus simp only [Act.put, List.setIfInBounds_toArray, List.set_cons_zero, List.set_cons_succ, i64_w, i32_w]; rfl)
          refine pure_ (i := 6) (N := some 19) (v := ?_) (a' := ?_) #[true, true, true, true, false, false, true, false, false, false, false, false] rfl rfl (by kernel_rfl) (fun _ _ _ h => h) (Or.inl ⟨by rfl, ?_⟩) ?_ ?_; rotate_left; (focus intro w'; go_simp; with_reducible rfl); rotate_left; (focus simp only [Act.put, List.setIfInBounds_toArray, List.set_cons_zero, List.set_cons_succ, i64_w, i32_w]; rfl)
          refine one_ (i := 4) (N := some 17) #[true, true, true, true, true, false, true, false, false, false, false, false] rfl rfl (by kernel_rfl) (by decide) (fun K hK => ?_)
          refine goes_ Try.func81 (by kernel_rfl) rfl #[.pointer (some ⟨g, 0, none⟩)] (by rfl) rfl rfl (by (try simp only [List.map_toArray, List.map_cons, List.map_nil]); first | done | rfl) ?_
          with_reducible refine (block_reader_text.calls_ok g _ tl s2 _ H2.out BX.out).mono ?_
          rintro e wC ⟨rfl, hx, hk⟩
          refine ⟨_, rfl, ?_⟩
          have n0_ := Aside0.mk (hk.blk BE.out (BoxKept.ne_of hgl.out GE.out).1)
          have n1_ := Aside0.mk (HB.out.trans hk)
          clear BE HB BX hk hc0 hc1 hc2 hc3 hf0 hf1 hf2 hf3
          have BE := n0_
          have HB := n1_
          have BX := Aside0.mk hx
          clear n0_ n1_ hx
          obtain ⟨⟨hc0, hc1, hc2, hc3⟩, hf0, hf1, hf2, hf3⟩ := Zk4 BE
          refine hK.out _ _ trivial (fun hHeld => ?_)
          clear hK K
          refine norm_ (a' := ?_) ?_ ?_
          rotate_left
          · show Act.put _ (some 17) _ = _
            simp only [Act.put, List.setIfInBounds_toArray, List.set_cons_zero, List.set_cons_succ, i64_w, i32_w]
            rfl
          refine pure_ (i := 5) (N := some 18) (v := ?_) (a' := ?_) #[true, true, true, true, true, true, true, false, false, false, false, false] rfl rfl (by kernel_rfl) (fun _ _ _ h => h) (Or.inl ⟨by rfl, ?_⟩) ?_ ?_; rotate_left; (focus intro w'; go_simp; with_reducible rfl); rotate_left; (focus simp only [Act.put, List.setIfInBounds_toArray, List.set_cons_zero, List.set_cons_succ, i64_w, i32_w]; rfl)
          refine pure_ (i := 8) (N := some 21) (v := ?_) (a' := ?_) #[true, true, true, true, true, true, true, false, true, false, false, false] rfl rfl (by kernel_rfl) (fun _ _ _ h => h) (Or.inl ⟨by rfl, ?_⟩) ?_ ?_; rotate_left; (focus intro w'; go_simp; with_reducible rfl); rotate_left; (focus simp only [Act.put, List.setIfInBounds_toArray, List.set_cons_zero, List.set_cons_succ, i64_w, i32_w]; rfl)
          refine one_ (i := 7) (N := some 20) #[true, true, true, true, true, true, true, true, true, false, false, false] rfl rfl (by kernel_rfl) (by decide) (fun K hK => ?_)
          refine goes_ Try.func64 (by kernel_rfl) rfl #[.pointer (some ⟨g, 0, none⟩)] (by rfl) rfl rfl (by (try simp only [List.map_toArray, List.map_cons, List.map_nil]); first | done | rfl) ?_
          with_reducible refine (block_reader_num.calls_ok g _ q s3 _ H3.out BX.out).mono ?_
          rintro e wC ⟨rfl, hx, hk⟩
          refine ⟨_, rfl, ?_⟩
          have n0_ := Aside0.mk (hk.blk BE.out (BoxKept.ne_of hgl.out GE.out).1)
          have n1_ := Aside0.mk (HB.out.trans hk)
          clear BE HB BX hk hc0 hc1 hc2 hc3 hf0 hf1 hf2 hf3
          have BE := n0_
          have HB := n1_
          have BX := Aside0.mk hx
          clear n0_ n1_ hx
          obtain ⟨⟨hc0, hc1, hc2, hc3⟩, hf0, hf1, hf2, hf3⟩ := Zk4 BE
          refine hK.out _ _ trivial (fun hHeld => ?_)
          clear hK K
          refine norm_ (a' := ?_) ?_ ?_
          rotate_left
          · show Act.put _ (some 20) _ = _
            simp only [Act.put, List.setIfInBounds_toArray, List.set_cons_zero, List.set_cons_succ, i64_w, i32_w]
            rfl
          refine one_ (i := 9) (N := none) #[true, true, true, true, true, true, true, true, true, true, false, false] rfl rfl (by kernel_rfl) (by decide) (fun K hK => ?_)
          refine skip_ (w1 := ?_) (by rfl) rfl ?_ ?_
          rotate_left
          · go_simp
            rfl
          refine hK.out _ _ trivial (fun hHeld => ?_)
          clear hK K
          have n0_ := Aside0.mk (show RBox g _ _ from (Below.heap_setCell _ ⟨ge, 0, none⟩ (.string KEY) g (BoxKept.ne_of hgl.out GE.out).2).trans BX.out); have n1_ := Aside0.mk (blk_put (cs := #[.string (⟨#[]⟩ : ByteArray), .int .i64 0, .bool false, .string (⟨#[]⟩ : ByteArray)]) BE.out 0 (.string KEY) rfl); have n2_ := Aside0.mk (HB.out.set_new (j := 0) GE.out (.string KEY))
          clear hc0 hc1 hc2 hc3 hf0 hf1 hf2 hf3
          clear BX BE HB
          have BX := n0_; have BE := n1_; have HB := n2_; clear n0_ n1_ n2_
          generalize World.setCell _ _ _ = wS at BX BE HB ⊢
          replace BE := Aside0.mk (show wS.heap[ge]? = some (.cells #[.string KEY, .int .i64 0, .bool false, .string (⟨#[]⟩ : ByteArray)] 36 (0, 0)) from BE.out)
          obtain ⟨⟨hc0, hc1, hc2, hc3⟩, hf0, hf1, hf2, hf3⟩ := Zk4 BE
          refine norm_ (a' := ?_) ?_ ?_
          rotate_left
          · show Act.put _ none undef = _
            simp only [Act.put]
            rfl
          refine pure_ (i := 10) (N := some 22) (v := ?_) (a' := ?_) #[true, true, true, true, true, true, true, true, true, true, true, false] rfl rfl (by kernel_rfl) (fun _ _ _ h => h) (Or.inl ⟨by rfl, ?_⟩) ?_ ?_; rotate_left; (focus intro w'; go_simp; with_reducible rfl); rotate_left; (focus simp only [Act.put, List.setIfInBounds_toArray, List.set_cons_zero, List.set_cons_succ, i64_w, i32_w]; rfl)
          refine one_ (i := 11) (N := none) #[true, true, true, true, true, true, true, true, true, true, true, true] rfl rfl (by kernel_rfl) (by decide) (fun K hK => ?_)
          refine skip_ (w1 := ?_) (by rfl) rfl ?_ ?_
          rotate_left
          · go_simp
            rfl
          refine hK.out _ _ trivial (fun hHeld => ?_)
          clear hK K
          have n0_ := Aside0.mk (show RBox g _ _ from (Below.heap_setCell _ ⟨ge, 1, none⟩ (.int .i64 q) g (BoxKept.ne_of hgl.out GE.out).2).trans BX.out); have n1_ := Aside0.mk (blk_put (cs := #[.string KEY, .int .i64 0, .bool false, .string (⟨#[]⟩ : ByteArray)]) BE.out 1 (.int .i64 q) rfl); have n2_ := Aside0.mk (HB.out.set_new (j := 1) GE.out (.int .i64 q))
          clear hc0 hc1 hc2 hc3 hf0 hf1 hf2 hf3
          clear BX BE HB
          have BX := n0_; have BE := n1_; have HB := n2_; clear n0_ n1_ n2_
          generalize World.setCell _ _ _ = wS at BX BE HB ⊢
          replace BE := Aside0.mk (show wS.heap[ge]? = some (.cells #[.string KEY, .int .i64 q, .bool false, .string (⟨#[]⟩ : ByteArray)] 36 (0, 0)) from BE.out)
          obtain ⟨⟨hc0, hc1, hc2, hc3⟩, hf0, hf1, hf2, hf3⟩ := Zk4 BE
          refine norm_ (a' := ?_) ?_ ?_
          rotate_left
          · show Act.put _ none undef = _
            simp only [Act.put]
            rfl
          refine done_ (by kernel_rfl) ?_
          go_wp2_with (first | (go_at_call 64; (with_reducible refine (block_reader_num.calls_bad g _ d s4 c _ H4.out BX.out).mono ?_); rintro e w9 ⟨rfl, hk⟩; have n1_ := Aside0.mk (HB.out.trans hk); clear HB; have HB := n1_; clear n1_))
          exact ⟨rfl, rfl, HB.out⟩
        | none =>
          rw [if_pos (show (none : Option Int).isNone = true from rfl)] at h
          by_cases d0 : d = 0
          · rw [if_pos d0] at h
            subst d0
            obtain ⟨⟨v, s5, H5E⟩, H5_, h⟩ := Option.bind_eq_some_iff.1 h
            have H5 := Aside0.mk H5_; clear H5_
            simp only at h
            cases H5E with
            | some c =>
              rw [if_neg (show ¬ (some c : Option Int).isNone = true by simp)] at h
              obtain rfl := Option.some.inj h
              clear h
              go_enter Try.func66, Try.ntmps66
              go_wp2_with (first | ((with_reducible refine gate_dst (N := 4) rfl ?_); refine box_event ?hg (N := 4) ?hd (cs := #[.string (⟨#[]⟩ : ByteArray), .int .i64 0, .bool false, .string (⟨#[]⟩ : ByteArray)]) (t := 36) ?hr ?_; (case hd => rfl); (case hg => rfl); (case hr => first | (go_simp; done) | (go_simp; rfl)); intro ge hg w4 hbox hb; have GE := Aside0.mk (show w.heap.size ≤ ge from hg ▸ HB.out.size); have n0_ := Aside0.mk (HB.out.trans (BoxKept.of_below hb)); have n1_ := Aside0.mk (show RBox g s w4 from (hb.block g (Array.getElem?_eq_some_iff.1 BX.out).1).trans BX.out); have BE := Aside0.mk hbox; clear HB BX hb hbox hg; have HB := n0_; have BX := n1_; clear n0_ n1_; obtain ⟨⟨hc0, hc1, hc2, hc3⟩, hf0, hf1, hf2, hf3⟩ := Zk4 BE) | (go_at_call 64; (with_reducible refine (block_reader_num.calls_ok g _ n s1 _ H1.out BX.out).mono ?_); rintro e w6 ⟨rfl, hx, hk⟩; have n0_ := Aside0.mk (hk.blk BE.out (BoxKept.ne_of hgl.out GE.out).1); have n1_ := Aside0.mk (HB.out.trans hk); clear BE HB BX hk hc0 hc1 hc2 hc3 hf0 hf1 hf2 hf3; have BE := n0_; have HB := n1_; have BX := Aside0.mk hx; clear n0_ n1_ hx; obtain ⟨⟨hc0, hc1, hc2, hc3⟩, hf0, hf1, hf2, hf3⟩ := Zk4 BE) | (go_at_call 65; refine (block_must.calls_true _).mono ?_; rintro e w5 ⟨rfl, hb⟩; have hk := BoxKept.of_below (g := g) hb; have hx := (show RBox g _ w5 from (hb.block g (Array.getElem?_eq_some_iff.1 BX.out).1).trans BX.out); clear hb; have n0_ := Aside0.mk (hk.blk BE.out (BoxKept.ne_of hgl.out GE.out).1); have n1_ := Aside0.mk (HB.out.trans hk); clear BE HB BX hk hc0 hc1 hc2 hc3 hf0 hf1 hf2 hf3; have BE := n0_; have HB := n1_; have BX := Aside0.mk hx; clear n0_ n1_ hx; obtain ⟨⟨hc0, hc1, hc2, hc3⟩, hf0, hf1, hf2, hf3⟩ := Zk4 BE))
              refine start_ (n := 12) (S := fun _ => True) (ds := []) #[false, false, false, false, false, false, false, false, false, false, false, false] (by kernel_rfl) rfl rfl trivial (fun hHeld => ?_)
              have n0_ := Aside0.mk (show w5.drew.heap[ge]? = _ from BE.out); have n1_ := Aside0.mk (show RBox g _ w5.drew from BX.out); have n2_ := Aside0.mk (show BoxKept g w w5.drew from ⟨HB.out.os, HB.out.tape, HB.out.output, HB.out.size, HB.out.keep⟩)
              clear hc0 hc1 hc2 hc3 hf0 hf1 hf2 hf3
              clear BE BX HB
              generalize w5.drew = wB at n0_ n1_ n2_ ⊢
              have BE := n0_; have BX := n1_; have HB := n2_; clear n0_ n1_ n2_
              obtain ⟨⟨hc0, hc1, hc2, hc3⟩, hf0, hf1, hf2, hf3⟩ := Zk4 BE
              refine pure_ (i := 0) (N := some 13) (v := ?_) (a' := ?_) #[true, false, false, false, false, false, false, false, false, false, false, false] rfl rfl (by kernel_rfl) (fun _ _ _ h => h) (Or.inl ⟨by rfl, ?_⟩) ?_ ?_; rotate_left; (focus intro w'; go_simp; with_reducible rfl); rotate_left; (focus simp only [Act.put, List.setIfInBounds_toArray, List.set_cons_zero, List.set_cons_succ, i64_w, i32_w]; rfl)
              refine pure_ (i := 1) (N := some 14) (v := ?_) (a' := ?_) #[true, true, false, false, false, false, false, false, false, false, false, false] rfl rfl (by kernel_rfl) (fun _ _ _ h => h) (Or.inl ⟨by rfl, ?_⟩) ?_ ?_; rotate_left; (focus intro w'; go_simp; with_reducible rfl); rotate_left; (focus simp only [Act.put, List.setIfInBounds_toArray, List.set_cons_zero, List.set_cons_succ, i64_w, i32_w]; rfl)
              refine pure_ (i := 2) (N := some 15) (v := ?_) (a' := ?_) #[true, true, true, false, false, false, false, false, false, false, false, false] rfl rfl (by kernel_rfl) (fun _ _ _ h => h) (Or.inl ⟨by rfl, ?_⟩) ?_ ?_; rotate_left; (focus intro w'; go_simp; with_reducible rfl); rotate_left; (focus simp only [Act.put, List.setIfInBounds_toArray, List.set_cons_zero, List.set_cons_succ, i64_w, i32_w]; rfl)
              refine pure_ (i := 3) (N := some 16) (v := ?_) (a' := ?_) #[true, true, true, true, false, false, false, false, false, false, false, false] rfl rfl (by kernel_rfl) (fun _ _ _ h => h) (Or.inl ⟨by rfl, ?_⟩) ?_ ?_; rotate_left; (focus intro w'; go_simp; with_reducible rfl); rotate_left; (focus simp only [Act.put, List.setIfInBounds_toArray, List.set_cons_zero, List.set_cons_succ, i64_w, i32_w]; rfl)
              refine pure_ (i := 6) (N := some 19) (v := ?_) (a' := ?_) #[true, true, true, true, false, false, true, false, false, false, false, false] rfl rfl (by kernel_rfl) (fun _ _ _ h => h) (Or.inl ⟨by rfl, ?_⟩) ?_ ?_; rotate_left; (focus intro w'; go_simp; with_reducible rfl); rotate_left; (focus simp only [Act.put, List.setIfInBounds_toArray, List.set_cons_zero, List.set_cons_succ, i64_w, i32_w]; rfl)
              refine one_ (i := 4) (N := some 17) #[true, true, true, true, true, false, true, false, false, false, false, false] rfl rfl (by kernel_rfl) (by decide) (fun K hK => ?_)
              refine goes_ Try.func81 (by kernel_rfl) rfl #[.pointer (some ⟨g, 0, none⟩)] (by rfl) rfl rfl (by (try simp only [List.map_toArray, List.map_cons, List.map_nil]); first | done | rfl) ?_
              with_reducible refine (block_reader_text.calls_ok g _ tl s2 _ H2.out BX.out).mono ?_
              rintro e wC ⟨rfl, hx, hk⟩
              refine ⟨_, rfl, ?_⟩
              have n0_ := Aside0.mk (hk.blk BE.out (BoxKept.ne_of hgl.out GE.out).1)
              have n1_ := Aside0.mk (HB.out.trans hk)
              clear BE HB BX hk hc0 hc1 hc2 hc3 hf0 hf1 hf2 hf3
              have BE := n0_
              have HB := n1_
              have BX := Aside0.mk hx
              clear n0_ n1_ hx
              obtain ⟨⟨hc0, hc1, hc2, hc3⟩, hf0, hf1, hf2, hf3⟩ := Zk4 BE
              refine hK.out _ _ trivial (fun hHeld => ?_)
              clear hK K
              refine norm_ (a' := ?_) ?_ ?_
              rotate_left
              · show Act.put _ (some 17) _ = _
                simp only [Act.put, List.setIfInBounds_toArray, List.set_cons_zero, List.set_cons_succ, i64_w, i32_w]
                rfl
              refine pure_ (i := 5) (N := some 18) (v := ?_) (a' := ?_) #[true, true, true, true, true, true, true, false, false, false, false, false] rfl rfl (by kernel_rfl) (fun _ _ _ h => h) (Or.inl ⟨by rfl, ?_⟩) ?_ ?_; rotate_left; (focus intro w'; go_simp; with_reducible rfl); rotate_left; (focus simp only [Act.put, List.setIfInBounds_toArray, List.set_cons_zero, List.set_cons_succ, i64_w, i32_w]; rfl)
              refine pure_ (i := 8) (N := some 21) (v := ?_) (a' := ?_) #[true, true, true, true, true, true, true, false, true, false, false, false] rfl rfl (by kernel_rfl) (fun _ _ _ h => h) (Or.inl ⟨by rfl, ?_⟩) ?_ ?_; rotate_left; (focus intro w'; go_simp; with_reducible rfl); rotate_left; (focus simp only [Act.put, List.setIfInBounds_toArray, List.set_cons_zero, List.set_cons_succ, i64_w, i32_w]; rfl)
              refine one_ (i := 7) (N := some 20) #[true, true, true, true, true, true, true, true, true, false, false, false] rfl rfl (by kernel_rfl) (by decide) (fun K hK => ?_)
              refine goes_ Try.func64 (by kernel_rfl) rfl #[.pointer (some ⟨g, 0, none⟩)] (by rfl) rfl rfl (by (try simp only [List.map_toArray, List.map_cons, List.map_nil]); first | done | rfl) ?_
              with_reducible refine (block_reader_num.calls_ok g _ q s3 _ H3.out BX.out).mono ?_
              rintro e wC ⟨rfl, hx, hk⟩
              refine ⟨_, rfl, ?_⟩
              have n0_ := Aside0.mk (hk.blk BE.out (BoxKept.ne_of hgl.out GE.out).1)
              have n1_ := Aside0.mk (HB.out.trans hk)
              clear BE HB BX hk hc0 hc1 hc2 hc3 hf0 hf1 hf2 hf3
              have BE := n0_
              have HB := n1_
              have BX := Aside0.mk hx
              clear n0_ n1_ hx
              obtain ⟨⟨hc0, hc1, hc2, hc3⟩, hf0, hf1, hf2, hf3⟩ := Zk4 BE
              refine hK.out _ _ trivial (fun hHeld => ?_)
              clear hK K
              refine norm_ (a' := ?_) ?_ ?_
              rotate_left
              · show Act.put _ (some 20) _ = _
                simp only [Act.put, List.setIfInBounds_toArray, List.set_cons_zero, List.set_cons_succ, i64_w, i32_w]
                rfl
              refine one_ (i := 9) (N := none) #[true, true, true, true, true, true, true, true, true, true, false, false] rfl rfl (by kernel_rfl) (by decide) (fun K hK => ?_)
              refine skip_ (w1 := ?_) (by rfl) rfl ?_ ?_
              rotate_left
              · go_simp
                rfl
              refine hK.out _ _ trivial (fun hHeld => ?_)
              clear hK K
              have n0_ := Aside0.mk (show RBox g _ _ from (Below.heap_setCell _ ⟨ge, 0, none⟩ (.string KEY) g (BoxKept.ne_of hgl.out GE.out).2).trans BX.out); have n1_ := Aside0.mk (blk_put (cs := #[.string (⟨#[]⟩ : ByteArray), .int .i64 0, .bool false, .string (⟨#[]⟩ : ByteArray)]) BE.out 0 (.string KEY) rfl); have n2_ := Aside0.mk (HB.out.set_new (j := 0) GE.out (.string KEY))
              clear hc0 hc1 hc2 hc3 hf0 hf1 hf2 hf3
              clear BX BE HB
              have BX := n0_; have BE := n1_; have HB := n2_; clear n0_ n1_ n2_
              generalize World.setCell _ _ _ = wS at BX BE HB ⊢
              replace BE := Aside0.mk (show wS.heap[ge]? = some (.cells #[.string KEY, .int .i64 0, .bool false, .string (⟨#[]⟩ : ByteArray)] 36 (0, 0)) from BE.out)
              obtain ⟨⟨hc0, hc1, hc2, hc3⟩, hf0, hf1, hf2, hf3⟩ := Zk4 BE
              refine norm_ (a' := ?_) ?_ ?_
              rotate_left
              · show Act.put _ none undef = _
                simp only [Act.put]
                rfl
              refine pure_ (i := 10) (N := some 22) (v := ?_) (a' := ?_) #[true, true, true, true, true, true, true, true, true, true, true, false] rfl rfl (by kernel_rfl) (fun _ _ _ h => h) (Or.inl ⟨by rfl, ?_⟩) ?_ ?_; rotate_left; (focus intro w'; go_simp; with_reducible rfl); rotate_left; (focus simp only [Act.put, List.setIfInBounds_toArray, List.set_cons_zero, List.set_cons_succ, i64_w, i32_w]; rfl)
              refine one_ (i := 11) (N := none) #[true, true, true, true, true, true, true, true, true, true, true, true] rfl rfl (by kernel_rfl) (by decide) (fun K hK => ?_)
              refine skip_ (w1 := ?_) (by rfl) rfl ?_ ?_
              rotate_left
              · go_simp
                rfl
              refine hK.out _ _ trivial (fun hHeld => ?_)
              clear hK K
              have n0_ := Aside0.mk (show RBox g _ _ from (Below.heap_setCell _ ⟨ge, 1, none⟩ (.int .i64 q) g (BoxKept.ne_of hgl.out GE.out).2).trans BX.out); have n1_ := Aside0.mk (blk_put (cs := #[.string KEY, .int .i64 0, .bool false, .string (⟨#[]⟩ : ByteArray)]) BE.out 1 (.int .i64 q) rfl); have n2_ := Aside0.mk (HB.out.set_new (j := 1) GE.out (.int .i64 q))
              clear hc0 hc1 hc2 hc3 hf0 hf1 hf2 hf3
              clear BX BE HB
              have BX := n0_; have BE := n1_; have HB := n2_; clear n0_ n1_ n2_
              generalize World.setCell _ _ _ = wS at BX BE HB ⊢
              replace BE := Aside0.mk (show wS.heap[ge]? = some (.cells #[.string KEY, .int .i64 q, .bool false, .string (⟨#[]⟩ : ByteArray)] 36 (0, 0)) from BE.out)
              obtain ⟨⟨hc0, hc1, hc2, hc3⟩, hf0, hf1, hf2, hf3⟩ := Zk4 BE
              refine norm_ (a' := ?_) ?_ ?_
              rotate_left
              · show Act.put _ none undef = _
                simp only [Act.put]
                rfl
              refine done_ (by kernel_rfl) ?_
              go_wp2_with (first | (go_at_call 64; (with_reducible refine (block_reader_num.calls_ok g _ 0 s4 _ H4.out BX.out).mono ?_); rintro e w7 ⟨rfl, hx, hk⟩; have n0_ := Aside0.mk (hk.blk BE.out (BoxKept.ne_of hgl.out GE.out).1); have n1_ := Aside0.mk (HB.out.trans hk); clear BE HB BX hk hc0 hc1 hc2 hc3 hf0 hf1 hf2 hf3; have BE := n0_; have HB := n1_; have BX := Aside0.mk hx; clear n0_ n1_ hx; obtain ⟨⟨hc0, hc1, hc2, hc3⟩, hf0, hf1, hf2, hf3⟩ := Zk4 BE) | (go_at_call 81; (with_reducible refine (block_reader_text.calls_bad g _ v s5 c _ H5.out BX.out).mono ?_); rintro e w9 ⟨rfl, hk⟩; have n1_ := Aside0.mk (HB.out.trans hk); clear HB; have HB := n1_; clear n1_))
              exact ⟨rfl, rfl, HB.out⟩
            | none =>
              rw [if_pos (show (none : Option Int).isNone = true from rfl)] at h
              obtain rfl := Option.some.inj h
              clear h
              go_enter Try.func66, Try.ntmps66
              go_wp2_with (first | ((with_reducible refine gate_dst (N := 4) rfl ?_); refine box_event ?hg (N := 4) ?hd (cs := #[.string (⟨#[]⟩ : ByteArray), .int .i64 0, .bool false, .string (⟨#[]⟩ : ByteArray)]) (t := 36) ?hr ?_; (case hd => rfl); (case hg => rfl); (case hr => first | (go_simp; done) | (go_simp; rfl)); intro ge hg w4 hbox hb; have GE := Aside0.mk (show w.heap.size ≤ ge from hg ▸ HB.out.size); have n0_ := Aside0.mk (HB.out.trans (BoxKept.of_below hb)); have n1_ := Aside0.mk (show RBox g s w4 from (hb.block g (Array.getElem?_eq_some_iff.1 BX.out).1).trans BX.out); have BE := Aside0.mk hbox; clear HB BX hb hbox hg; have HB := n0_; have BX := n1_; clear n0_ n1_; obtain ⟨⟨hc0, hc1, hc2, hc3⟩, hf0, hf1, hf2, hf3⟩ := Zk4 BE) | (go_at_call 64; (with_reducible refine (block_reader_num.calls_ok g _ n s1 _ H1.out BX.out).mono ?_); rintro e w6 ⟨rfl, hx, hk⟩; have n0_ := Aside0.mk (hk.blk BE.out (BoxKept.ne_of hgl.out GE.out).1); have n1_ := Aside0.mk (HB.out.trans hk); clear BE HB BX hk hc0 hc1 hc2 hc3 hf0 hf1 hf2 hf3; have BE := n0_; have HB := n1_; have BX := Aside0.mk hx; clear n0_ n1_ hx; obtain ⟨⟨hc0, hc1, hc2, hc3⟩, hf0, hf1, hf2, hf3⟩ := Zk4 BE) | (go_at_call 65; refine (block_must.calls_true _).mono ?_; rintro e w5 ⟨rfl, hb⟩; have hk := BoxKept.of_below (g := g) hb; have hx := (show RBox g _ w5 from (hb.block g (Array.getElem?_eq_some_iff.1 BX.out).1).trans BX.out); clear hb; have n0_ := Aside0.mk (hk.blk BE.out (BoxKept.ne_of hgl.out GE.out).1); have n1_ := Aside0.mk (HB.out.trans hk); clear BE HB BX hk hc0 hc1 hc2 hc3 hf0 hf1 hf2 hf3; have BE := n0_; have HB := n1_; have BX := Aside0.mk hx; clear n0_ n1_ hx; obtain ⟨⟨hc0, hc1, hc2, hc3⟩, hf0, hf1, hf2, hf3⟩ := Zk4 BE))
              refine start_ (n := 12) (S := fun _ => True) (ds := []) #[false, false, false, false, false, false, false, false, false, false, false, false] (by kernel_rfl) rfl rfl trivial (fun hHeld => ?_)
              have n0_ := Aside0.mk (show w5.drew.heap[ge]? = _ from BE.out); have n1_ := Aside0.mk (show RBox g _ w5.drew from BX.out); have n2_ := Aside0.mk (show BoxKept g w w5.drew from ⟨HB.out.os, HB.out.tape, HB.out.output, HB.out.size, HB.out.keep⟩)
              clear hc0 hc1 hc2 hc3 hf0 hf1 hf2 hf3
              clear BE BX HB
              generalize w5.drew = wB at n0_ n1_ n2_ ⊢
              have BE := n0_; have BX := n1_; have HB := n2_; clear n0_ n1_ n2_
              obtain ⟨⟨hc0, hc1, hc2, hc3⟩, hf0, hf1, hf2, hf3⟩ := Zk4 BE
              refine pure_ (i := 0) (N := some 13) (v := ?_) (a' := ?_) #[true, false, false, false, false, false, false, false, false, false, false, false] rfl rfl (by kernel_rfl) (fun _ _ _ h => h) (Or.inl ⟨by rfl, ?_⟩) ?_ ?_; rotate_left; (focus intro w'; go_simp; with_reducible rfl); rotate_left; (focus simp only [Act.put, List.setIfInBounds_toArray, List.set_cons_zero, List.set_cons_succ, i64_w, i32_w]; rfl)
              refine pure_ (i := 1) (N := some 14) (v := ?_) (a' := ?_) #[true, true, false, false, false, false, false, false, false, false, false, false] rfl rfl (by kernel_rfl) (fun _ _ _ h => h) (Or.inl ⟨by rfl, ?_⟩) ?_ ?_; rotate_left; (focus intro w'; go_simp; with_reducible rfl); rotate_left; (focus simp only [Act.put, List.setIfInBounds_toArray, List.set_cons_zero, List.set_cons_succ, i64_w, i32_w]; rfl)
              refine pure_ (i := 2) (N := some 15) (v := ?_) (a' := ?_) #[true, true, true, false, false, false, false, false, false, false, false, false] rfl rfl (by kernel_rfl) (fun _ _ _ h => h) (Or.inl ⟨by rfl, ?_⟩) ?_ ?_; rotate_left; (focus intro w'; go_simp; with_reducible rfl); rotate_left; (focus simp only [Act.put, List.setIfInBounds_toArray, List.set_cons_zero, List.set_cons_succ, i64_w, i32_w]; rfl)
              refine pure_ (i := 3) (N := some 16) (v := ?_) (a' := ?_) #[true, true, true, true, false, false, false, false, false, false, false, false] rfl rfl (by kernel_rfl) (fun _ _ _ h => h) (Or.inl ⟨by rfl, ?_⟩) ?_ ?_; rotate_left; (focus intro w'; go_simp; with_reducible rfl); rotate_left; (focus simp only [Act.put, List.setIfInBounds_toArray, List.set_cons_zero, List.set_cons_succ, i64_w, i32_w]; rfl)
              refine pure_ (i := 6) (N := some 19) (v := ?_) (a' := ?_) #[true, true, true, true, false, false, true, false, false, false, false, false] rfl rfl (by kernel_rfl) (fun _ _ _ h => h) (Or.inl ⟨by rfl, ?_⟩) ?_ ?_; rotate_left; (focus intro w'; go_simp; with_reducible rfl); rotate_left; (focus simp only [Act.put, List.setIfInBounds_toArray, List.set_cons_zero, List.set_cons_succ, i64_w, i32_w]; rfl)
              refine one_ (i := 4) (N := some 17) #[true, true, true, true, true, false, true, false, false, false, false, false] rfl rfl (by kernel_rfl) (by decide) (fun K hK => ?_)
              refine goes_ Try.func81 (by kernel_rfl) rfl #[.pointer (some ⟨g, 0, none⟩)] (by rfl) rfl rfl (by (try simp only [List.map_toArray, List.map_cons, List.map_nil]); first | done | rfl) ?_
              with_reducible refine (block_reader_text.calls_ok g _ tl s2 _ H2.out BX.out).mono ?_
              rintro e wC ⟨rfl, hx, hk⟩
              refine ⟨_, rfl, ?_⟩
              have n0_ := Aside0.mk (hk.blk BE.out (BoxKept.ne_of hgl.out GE.out).1)
              have n1_ := Aside0.mk (HB.out.trans hk)
              clear BE HB BX hk hc0 hc1 hc2 hc3 hf0 hf1 hf2 hf3
              have BE := n0_
              have HB := n1_
              have BX := Aside0.mk hx
              clear n0_ n1_ hx
              obtain ⟨⟨hc0, hc1, hc2, hc3⟩, hf0, hf1, hf2, hf3⟩ := Zk4 BE
              refine hK.out _ _ trivial (fun hHeld => ?_)
              clear hK K
              refine norm_ (a' := ?_) ?_ ?_
              rotate_left
              · show Act.put _ (some 17) _ = _
                simp only [Act.put, List.setIfInBounds_toArray, List.set_cons_zero, List.set_cons_succ, i64_w, i32_w]
                rfl
              refine pure_ (i := 5) (N := some 18) (v := ?_) (a' := ?_) #[true, true, true, true, true, true, true, false, false, false, false, false] rfl rfl (by kernel_rfl) (fun _ _ _ h => h) (Or.inl ⟨by rfl, ?_⟩) ?_ ?_; rotate_left; (focus intro w'; go_simp; with_reducible rfl); rotate_left; (focus simp only [Act.put, List.setIfInBounds_toArray, List.set_cons_zero, List.set_cons_succ, i64_w, i32_w]; rfl)
              refine pure_ (i := 8) (N := some 21) (v := ?_) (a' := ?_) #[true, true, true, true, true, true, true, false, true, false, false, false] rfl rfl (by kernel_rfl) (fun _ _ _ h => h) (Or.inl ⟨by rfl, ?_⟩) ?_ ?_; rotate_left; (focus intro w'; go_simp; with_reducible rfl); rotate_left; (focus simp only [Act.put, List.setIfInBounds_toArray, List.set_cons_zero, List.set_cons_succ, i64_w, i32_w]; rfl)
              refine one_ (i := 7) (N := some 20) #[true, true, true, true, true, true, true, true, true, false, false, false] rfl rfl (by kernel_rfl) (by decide) (fun K hK => ?_)
              refine goes_ Try.func64 (by kernel_rfl) rfl #[.pointer (some ⟨g, 0, none⟩)] (by rfl) rfl rfl (by (try simp only [List.map_toArray, List.map_cons, List.map_nil]); first | done | rfl) ?_
              with_reducible refine (block_reader_num.calls_ok g _ q s3 _ H3.out BX.out).mono ?_
              rintro e wC ⟨rfl, hx, hk⟩
              refine ⟨_, rfl, ?_⟩
              have n0_ := Aside0.mk (hk.blk BE.out (BoxKept.ne_of hgl.out GE.out).1)
              have n1_ := Aside0.mk (HB.out.trans hk)
              clear BE HB BX hk hc0 hc1 hc2 hc3 hf0 hf1 hf2 hf3
              have BE := n0_
              have HB := n1_
              have BX := Aside0.mk hx
              clear n0_ n1_ hx
              obtain ⟨⟨hc0, hc1, hc2, hc3⟩, hf0, hf1, hf2, hf3⟩ := Zk4 BE
              refine hK.out _ _ trivial (fun hHeld => ?_)
              clear hK K
              refine norm_ (a' := ?_) ?_ ?_
              rotate_left
              · show Act.put _ (some 20) _ = _
                simp only [Act.put, List.setIfInBounds_toArray, List.set_cons_zero, List.set_cons_succ, i64_w, i32_w]
                rfl
              refine one_ (i := 9) (N := none) #[true, true, true, true, true, true, true, true, true, true, false, false] rfl rfl (by kernel_rfl) (by decide) (fun K hK => ?_)
              refine skip_ (w1 := ?_) (by rfl) rfl ?_ ?_
              rotate_left
              · go_simp
                rfl
              refine hK.out _ _ trivial (fun hHeld => ?_)
              clear hK K
              have n0_ := Aside0.mk (show RBox g _ _ from (Below.heap_setCell _ ⟨ge, 0, none⟩ (.string KEY) g (BoxKept.ne_of hgl.out GE.out).2).trans BX.out); have n1_ := Aside0.mk (blk_put (cs := #[.string (⟨#[]⟩ : ByteArray), .int .i64 0, .bool false, .string (⟨#[]⟩ : ByteArray)]) BE.out 0 (.string KEY) rfl); have n2_ := Aside0.mk (HB.out.set_new (j := 0) GE.out (.string KEY))
              clear hc0 hc1 hc2 hc3 hf0 hf1 hf2 hf3
              clear BX BE HB
              have BX := n0_; have BE := n1_; have HB := n2_; clear n0_ n1_ n2_
              generalize World.setCell _ _ _ = wS at BX BE HB ⊢
              replace BE := Aside0.mk (show wS.heap[ge]? = some (.cells #[.string KEY, .int .i64 0, .bool false, .string (⟨#[]⟩ : ByteArray)] 36 (0, 0)) from BE.out)
              obtain ⟨⟨hc0, hc1, hc2, hc3⟩, hf0, hf1, hf2, hf3⟩ := Zk4 BE
              refine norm_ (a' := ?_) ?_ ?_
              rotate_left
              · show Act.put _ none undef = _
                simp only [Act.put]
                rfl
              refine pure_ (i := 10) (N := some 22) (v := ?_) (a' := ?_) #[true, true, true, true, true, true, true, true, true, true, true, false] rfl rfl (by kernel_rfl) (fun _ _ _ h => h) (Or.inl ⟨by rfl, ?_⟩) ?_ ?_; rotate_left; (focus intro w'; go_simp; with_reducible rfl); rotate_left; (focus simp only [Act.put, List.setIfInBounds_toArray, List.set_cons_zero, List.set_cons_succ, i64_w, i32_w]; rfl)
              refine one_ (i := 11) (N := none) #[true, true, true, true, true, true, true, true, true, true, true, true] rfl rfl (by kernel_rfl) (by decide) (fun K hK => ?_)
              refine skip_ (w1 := ?_) (by rfl) rfl ?_ ?_
              rotate_left
              · go_simp
                rfl
              refine hK.out _ _ trivial (fun hHeld => ?_)
              clear hK K
              have n0_ := Aside0.mk (show RBox g _ _ from (Below.heap_setCell _ ⟨ge, 1, none⟩ (.int .i64 q) g (BoxKept.ne_of hgl.out GE.out).2).trans BX.out); have n1_ := Aside0.mk (blk_put (cs := #[.string KEY, .int .i64 0, .bool false, .string (⟨#[]⟩ : ByteArray)]) BE.out 1 (.int .i64 q) rfl); have n2_ := Aside0.mk (HB.out.set_new (j := 1) GE.out (.int .i64 q))
              clear hc0 hc1 hc2 hc3 hf0 hf1 hf2 hf3
              clear BX BE HB
              have BX := n0_; have BE := n1_; have HB := n2_; clear n0_ n1_ n2_
              generalize World.setCell _ _ _ = wS at BX BE HB ⊢
              replace BE := Aside0.mk (show wS.heap[ge]? = some (.cells #[.string KEY, .int .i64 q, .bool false, .string (⟨#[]⟩ : ByteArray)] 36 (0, 0)) from BE.out)
              obtain ⟨⟨hc0, hc1, hc2, hc3⟩, hf0, hf1, hf2, hf3⟩ := Zk4 BE
              refine norm_ (a' := ?_) ?_ ?_
              rotate_left
              · show Act.put _ none undef = _
                simp only [Act.put]
                rfl
              refine done_ (by kernel_rfl) ?_
              go_wp2_with (first | (go_at_call 64; (with_reducible refine (block_reader_num.calls_ok g _ 0 s4 _ H4.out BX.out).mono ?_); rintro e w7 ⟨rfl, hx, hk⟩; have n0_ := Aside0.mk (hk.blk BE.out (BoxKept.ne_of hgl.out GE.out).1); have n1_ := Aside0.mk (HB.out.trans hk); clear BE HB BX hk hc0 hc1 hc2 hc3 hf0 hf1 hf2 hf3; have BE := n0_; have HB := n1_; have BX := Aside0.mk hx; clear n0_ n1_ hx; obtain ⟨⟨hc0, hc1, hc2, hc3⟩, hf0, hf1, hf2, hf3⟩ := Zk4 BE) | (go_at_call 81; (with_reducible refine (block_reader_text.calls_ok g _ v s5 _ H5.out BX.out).mono ?_); rintro e w8 ⟨rfl, hx, hk⟩; have n0_ := Aside0.mk (hk.blk BE.out (BoxKept.ne_of hgl.out GE.out).1); have n1_ := Aside0.mk (HB.out.trans hk); clear BE HB BX hk hc0 hc1 hc2 hc3 hf0 hf1 hf2 hf3; have BE := n0_; have HB := n1_; have BX := Aside0.mk hx; clear n0_ n1_ hx; obtain ⟨⟨hc0, hc1, hc2, hc3⟩, hf0, hf1, hf2, hf3⟩ := Zk4 BE))
              have b0 := blk_put (cs := #[.string KEY, .int .i64 q, .bool false, .string (⟨#[]⟩ : ByteArray)]) BE.out 3 (.string v) rfl
              have b1 := blk_put (cs := #[.string KEY, .int .i64 q, .bool false, .string v]) b0 0 (.string KEY) rfl
              have b2 := blk_put (cs := #[.string KEY, .int .i64 q, .bool false, .string v]) b1 1 (.int .i64 q) rfl
              have b3 := blk_put (cs := #[.string KEY, .int .i64 q, .bool false, .string v]) b2 2 (.bool false) rfl
              have b4 := blk_put (cs := #[.string KEY, .int .i64 q, .bool false, .string v]) b3 3 (.string v) rfl
              refine bodyPost_ret (results_cell_row rfl _ _ ge 36 #[.string KEY, .int .i64 q, .bool false, .string v] (0, 0) _ rfl b4 Try.underlying36 rfl (by kernel_rfl)) rfl ?_
              refine ⟨⟨rfl, ?_⟩, ?_⟩
              · exact (Below.heap_setCell _ _ _ g (BoxKept.ne_of hgl.out GE.out).2).trans ((Below.heap_setCell _ _ _ g (BoxKept.ne_of hgl.out GE.out).2).trans ((Below.heap_setCell _ _ _ g (BoxKept.ne_of hgl.out GE.out).2).trans ((Below.heap_setCell _ _ _ g (BoxKept.ne_of hgl.out GE.out).2).trans ((Below.heap_setCell _ _ _ g (BoxKept.ne_of hgl.out GE.out).2).trans BX.out))))
              · exact ((((HB.out.set_new GE.out _).set_new GE.out _).set_new GE.out _).set_new GE.out _).set_new GE.out _
          · rw [if_neg d0] at h
            have d0b : (d == 0) = false := beq_eq_false_iff_ne.mpr d0
            by_cases d1 : d = 1
            · rw [if_pos d1] at h
              subst d1
              obtain rfl := Option.some.inj h
              clear h
              go_enter Try.func66, Try.ntmps66
              go_wp2_with (first | ((with_reducible refine gate_dst (N := 4) rfl ?_); refine box_event ?hg (N := 4) ?hd (cs := #[.string (⟨#[]⟩ : ByteArray), .int .i64 0, .bool false, .string (⟨#[]⟩ : ByteArray)]) (t := 36) ?hr ?_; (case hd => rfl); (case hg => rfl); (case hr => first | (go_simp; done) | (go_simp; rfl)); intro ge hg w4 hbox hb; have GE := Aside0.mk (show w.heap.size ≤ ge from hg ▸ HB.out.size); have n0_ := Aside0.mk (HB.out.trans (BoxKept.of_below hb)); have n1_ := Aside0.mk (show RBox g s w4 from (hb.block g (Array.getElem?_eq_some_iff.1 BX.out).1).trans BX.out); have BE := Aside0.mk hbox; clear HB BX hb hbox hg; have HB := n0_; have BX := n1_; clear n0_ n1_; obtain ⟨⟨hc0, hc1, hc2, hc3⟩, hf0, hf1, hf2, hf3⟩ := Zk4 BE) | (go_at_call 64; (with_reducible refine (block_reader_num.calls_ok g _ n s1 _ H1.out BX.out).mono ?_); rintro e w6 ⟨rfl, hx, hk⟩; have n0_ := Aside0.mk (hk.blk BE.out (BoxKept.ne_of hgl.out GE.out).1); have n1_ := Aside0.mk (HB.out.trans hk); clear BE HB BX hk hc0 hc1 hc2 hc3 hf0 hf1 hf2 hf3; have BE := n0_; have HB := n1_; have BX := Aside0.mk hx; clear n0_ n1_ hx; obtain ⟨⟨hc0, hc1, hc2, hc3⟩, hf0, hf1, hf2, hf3⟩ := Zk4 BE) | (go_at_call 65; refine (block_must.calls_true _).mono ?_; rintro e w5 ⟨rfl, hb⟩; have hk := BoxKept.of_below (g := g) hb; have hx := (show RBox g _ w5 from (hb.block g (Array.getElem?_eq_some_iff.1 BX.out).1).trans BX.out); clear hb; have n0_ := Aside0.mk (hk.blk BE.out (BoxKept.ne_of hgl.out GE.out).1); have n1_ := Aside0.mk (HB.out.trans hk); clear BE HB BX hk hc0 hc1 hc2 hc3 hf0 hf1 hf2 hf3; have BE := n0_; have HB := n1_; have BX := Aside0.mk hx; clear n0_ n1_ hx; obtain ⟨⟨hc0, hc1, hc2, hc3⟩, hf0, hf1, hf2, hf3⟩ := Zk4 BE))
              refine start_ (n := 12) (S := fun _ => True) (ds := []) #[false, false, false, false, false, false, false, false, false, false, false, false] (by kernel_rfl) rfl rfl trivial (fun hHeld => ?_)
              have n0_ := Aside0.mk (show w5.drew.heap[ge]? = _ from BE.out); have n1_ := Aside0.mk (show RBox g _ w5.drew from BX.out); have n2_ := Aside0.mk (show BoxKept g w w5.drew from ⟨HB.out.os, HB.out.tape, HB.out.output, HB.out.size, HB.out.keep⟩)
              clear hc0 hc1 hc2 hc3 hf0 hf1 hf2 hf3
              clear BE BX HB
              generalize w5.drew = wB at n0_ n1_ n2_ ⊢
              have BE := n0_; have BX := n1_; have HB := n2_; clear n0_ n1_ n2_
              obtain ⟨⟨hc0, hc1, hc2, hc3⟩, hf0, hf1, hf2, hf3⟩ := Zk4 BE
              refine pure_ (i := 0) (N := some 13) (v := ?_) (a' := ?_) #[true, false, false, false, false, false, false, false, false, false, false, false] rfl rfl (by kernel_rfl) (fun _ _ _ h => h) (Or.inl ⟨by rfl, ?_⟩) ?_ ?_; rotate_left; (focus intro w'; go_simp; with_reducible rfl); rotate_left; (focus simp only [Act.put, List.setIfInBounds_toArray, List.set_cons_zero, List.set_cons_succ, i64_w, i32_w]; rfl)
              refine pure_ (i := 1) (N := some 14) (v := ?_) (a' := ?_) #[true, true, false, false, false, false, false, false, false, false, false, false] rfl rfl (by kernel_rfl) (fun _ _ _ h => h) (Or.inl ⟨by rfl, ?_⟩) ?_ ?_; rotate_left; (focus intro w'; go_simp; with_reducible rfl); rotate_left; (focus simp only [Act.put, List.setIfInBounds_toArray, List.set_cons_zero, List.set_cons_succ, i64_w, i32_w]; rfl)
              refine pure_ (i := 2) (N := some 15) (v := ?_) (a' := ?_) #[true, true, true, false, false, false, false, false, false, false, false, false] rfl rfl (by kernel_rfl) (fun _ _ _ h => h) (Or.inl ⟨by rfl, ?_⟩) ?_ ?_; rotate_left; (focus intro w'; go_simp; with_reducible rfl); rotate_left; (focus simp only [Act.put, List.setIfInBounds_toArray, List.set_cons_zero, List.set_cons_succ, i64_w, i32_w]; rfl)
              refine pure_ (i := 3) (N := some 16) (v := ?_) (a' := ?_) #[true, true, true, true, false, false, false, false, false, false, false, false] rfl rfl (by kernel_rfl) (fun _ _ _ h => h) (Or.inl ⟨by rfl, ?_⟩) ?_ ?_; rotate_left; (focus intro w'; go_simp; with_reducible rfl); rotate_left; (focus simp only [Act.put, List.setIfInBounds_toArray, List.set_cons_zero, List.set_cons_succ, i64_w, i32_w]; rfl)
              refine pure_ (i := 6) (N := some 19) (v := ?_) (a' := ?_) #[true, true, true, true, false, false, true, false, false, false, false, false] rfl rfl (by kernel_rfl) (fun _ _ _ h => h) (Or.inl ⟨by rfl, ?_⟩) ?_ ?_; rotate_left; (focus intro w'; go_simp; with_reducible rfl); rotate_left; (focus simp only [Act.put, List.setIfInBounds_toArray, List.set_cons_zero, List.set_cons_succ, i64_w, i32_w]; rfl)
              refine one_ (i := 4) (N := some 17) #[true, true, true, true, true, false, true, false, false, false, false, false] rfl rfl (by kernel_rfl) (by decide) (fun K hK => ?_)
              refine goes_ Try.func81 (by kernel_rfl) rfl #[.pointer (some ⟨g, 0, none⟩)] (by rfl) rfl rfl (by (try simp only [List.map_toArray, List.map_cons, List.map_nil]); first | done | rfl) ?_
              with_reducible refine (block_reader_text.calls_ok g _ tl s2 _ H2.out BX.out).mono ?_
              rintro e wC ⟨rfl, hx, hk⟩
              refine ⟨_, rfl, ?_⟩
              have n0_ := Aside0.mk (hk.blk BE.out (BoxKept.ne_of hgl.out GE.out).1)
              have n1_ := Aside0.mk (HB.out.trans hk)
              clear BE HB BX hk hc0 hc1 hc2 hc3 hf0 hf1 hf2 hf3
              have BE := n0_
              have HB := n1_
              have BX := Aside0.mk hx
              clear n0_ n1_ hx
              obtain ⟨⟨hc0, hc1, hc2, hc3⟩, hf0, hf1, hf2, hf3⟩ := Zk4 BE
              refine hK.out _ _ trivial (fun hHeld => ?_)
              clear hK K
              refine norm_ (a' := ?_) ?_ ?_
              rotate_left
              · show Act.put _ (some 17) _ = _
                simp only [Act.put, List.setIfInBounds_toArray, List.set_cons_zero, List.set_cons_succ, i64_w, i32_w]
                rfl
              refine pure_ (i := 5) (N := some 18) (v := ?_) (a' := ?_) #[true, true, true, true, true, true, true, false, false, false, false, false] rfl rfl (by kernel_rfl) (fun _ _ _ h => h) (Or.inl ⟨by rfl, ?_⟩) ?_ ?_; rotate_left; (focus intro w'; go_simp; with_reducible rfl); rotate_left; (focus simp only [Act.put, List.setIfInBounds_toArray, List.set_cons_zero, List.set_cons_succ, i64_w, i32_w]; rfl)
              refine pure_ (i := 8) (N := some 21) (v := ?_) (a' := ?_) #[true, true, true, true, true, true, true, false, true, false, false, false] rfl rfl (by kernel_rfl) (fun _ _ _ h => h) (Or.inl ⟨by rfl, ?_⟩) ?_ ?_; rotate_left; (focus intro w'; go_simp; with_reducible rfl); rotate_left; (focus simp only [Act.put, List.setIfInBounds_toArray, List.set_cons_zero, List.set_cons_succ, i64_w, i32_w]; rfl)
              refine one_ (i := 7) (N := some 20) #[true, true, true, true, true, true, true, true, true, false, false, false] rfl rfl (by kernel_rfl) (by decide) (fun K hK => ?_)
              refine goes_ Try.func64 (by kernel_rfl) rfl #[.pointer (some ⟨g, 0, none⟩)] (by rfl) rfl rfl (by (try simp only [List.map_toArray, List.map_cons, List.map_nil]); first | done | rfl) ?_
              with_reducible refine (block_reader_num.calls_ok g _ q s3 _ H3.out BX.out).mono ?_
              rintro e wC ⟨rfl, hx, hk⟩
              refine ⟨_, rfl, ?_⟩
              have n0_ := Aside0.mk (hk.blk BE.out (BoxKept.ne_of hgl.out GE.out).1)
              have n1_ := Aside0.mk (HB.out.trans hk)
              clear BE HB BX hk hc0 hc1 hc2 hc3 hf0 hf1 hf2 hf3
              have BE := n0_
              have HB := n1_
              have BX := Aside0.mk hx
              clear n0_ n1_ hx
              obtain ⟨⟨hc0, hc1, hc2, hc3⟩, hf0, hf1, hf2, hf3⟩ := Zk4 BE
              refine hK.out _ _ trivial (fun hHeld => ?_)
              clear hK K
              refine norm_ (a' := ?_) ?_ ?_
              rotate_left
              · show Act.put _ (some 20) _ = _
                simp only [Act.put, List.setIfInBounds_toArray, List.set_cons_zero, List.set_cons_succ, i64_w, i32_w]
                rfl
              refine one_ (i := 9) (N := none) #[true, true, true, true, true, true, true, true, true, true, false, false] rfl rfl (by kernel_rfl) (by decide) (fun K hK => ?_)
              refine skip_ (w1 := ?_) (by rfl) rfl ?_ ?_
              rotate_left
              · go_simp
                rfl
              refine hK.out _ _ trivial (fun hHeld => ?_)
              clear hK K
              have n0_ := Aside0.mk (show RBox g _ _ from (Below.heap_setCell _ ⟨ge, 0, none⟩ (.string KEY) g (BoxKept.ne_of hgl.out GE.out).2).trans BX.out); have n1_ := Aside0.mk (blk_put (cs := #[.string (⟨#[]⟩ : ByteArray), .int .i64 0, .bool false, .string (⟨#[]⟩ : ByteArray)]) BE.out 0 (.string KEY) rfl); have n2_ := Aside0.mk (HB.out.set_new (j := 0) GE.out (.string KEY))
              clear hc0 hc1 hc2 hc3 hf0 hf1 hf2 hf3
              clear BX BE HB
              have BX := n0_; have BE := n1_; have HB := n2_; clear n0_ n1_ n2_
              generalize World.setCell _ _ _ = wS at BX BE HB ⊢
              replace BE := Aside0.mk (show wS.heap[ge]? = some (.cells #[.string KEY, .int .i64 0, .bool false, .string (⟨#[]⟩ : ByteArray)] 36 (0, 0)) from BE.out)
              obtain ⟨⟨hc0, hc1, hc2, hc3⟩, hf0, hf1, hf2, hf3⟩ := Zk4 BE
              refine norm_ (a' := ?_) ?_ ?_
              rotate_left
              · show Act.put _ none undef = _
                simp only [Act.put]
                rfl
              refine pure_ (i := 10) (N := some 22) (v := ?_) (a' := ?_) #[true, true, true, true, true, true, true, true, true, true, true, false] rfl rfl (by kernel_rfl) (fun _ _ _ h => h) (Or.inl ⟨by rfl, ?_⟩) ?_ ?_; rotate_left; (focus intro w'; go_simp; with_reducible rfl); rotate_left; (focus simp only [Act.put, List.setIfInBounds_toArray, List.set_cons_zero, List.set_cons_succ, i64_w, i32_w]; rfl)
              refine one_ (i := 11) (N := none) #[true, true, true, true, true, true, true, true, true, true, true, true] rfl rfl (by kernel_rfl) (by decide) (fun K hK => ?_)
              refine skip_ (w1 := ?_) (by rfl) rfl ?_ ?_
              rotate_left
              · go_simp
                rfl
              refine hK.out _ _ trivial (fun hHeld => ?_)
              clear hK K
              have n0_ := Aside0.mk (show RBox g _ _ from (Below.heap_setCell _ ⟨ge, 1, none⟩ (.int .i64 q) g (BoxKept.ne_of hgl.out GE.out).2).trans BX.out); have n1_ := Aside0.mk (blk_put (cs := #[.string KEY, .int .i64 0, .bool false, .string (⟨#[]⟩ : ByteArray)]) BE.out 1 (.int .i64 q) rfl); have n2_ := Aside0.mk (HB.out.set_new (j := 1) GE.out (.int .i64 q))
              clear hc0 hc1 hc2 hc3 hf0 hf1 hf2 hf3
              clear BX BE HB
              have BX := n0_; have BE := n1_; have HB := n2_; clear n0_ n1_ n2_
              generalize World.setCell _ _ _ = wS at BX BE HB ⊢
              replace BE := Aside0.mk (show wS.heap[ge]? = some (.cells #[.string KEY, .int .i64 q, .bool false, .string (⟨#[]⟩ : ByteArray)] 36 (0, 0)) from BE.out)
              obtain ⟨⟨hc0, hc1, hc2, hc3⟩, hf0, hf1, hf2, hf3⟩ := Zk4 BE
              refine norm_ (a' := ?_) ?_ ?_
              rotate_left
              · show Act.put _ none undef = _
                simp only [Act.put]
                rfl
              refine done_ (by kernel_rfl) ?_
              go_wp2_with (first | (go_at_call 64; (with_reducible refine (block_reader_num.calls_ok g _ 1 s4 _ H4.out BX.out).mono ?_); rintro e w7 ⟨rfl, hx, hk⟩; have n0_ := Aside0.mk (hk.blk BE.out (BoxKept.ne_of hgl.out GE.out).1); have n1_ := Aside0.mk (HB.out.trans hk); clear BE HB BX hk hc0 hc1 hc2 hc3 hf0 hf1 hf2 hf3; have BE := n0_; have HB := n1_; have BX := Aside0.mk hx; clear n0_ n1_ hx; obtain ⟨⟨hc0, hc1, hc2, hc3⟩, hf0, hf1, hf2, hf3⟩ := Zk4 BE))
              have b0 := blk_put (cs := #[.string KEY, .int .i64 q, .bool false, .string (⟨#[]⟩ : ByteArray)]) BE.out 2 (.bool true) rfl
              have b1 := blk_put (cs := #[.string KEY, .int .i64 q, .bool true, .string (⟨#[]⟩ : ByteArray)]) b0 0 (.string KEY) rfl
              have b2 := blk_put (cs := #[.string KEY, .int .i64 q, .bool true, .string (⟨#[]⟩ : ByteArray)]) b1 1 (.int .i64 q) rfl
              have b3 := blk_put (cs := #[.string KEY, .int .i64 q, .bool true, .string (⟨#[]⟩ : ByteArray)]) b2 2 (.bool true) rfl
              have b4 := blk_put (cs := #[.string KEY, .int .i64 q, .bool true, .string (⟨#[]⟩ : ByteArray)]) b3 3 (.string (⟨#[]⟩ : ByteArray)) rfl
              refine bodyPost_ret (results_cell_row rfl _ _ ge 36 #[.string KEY, .int .i64 q, .bool true, .string (⟨#[]⟩ : ByteArray)] (0, 0) _ rfl b4 Try.underlying36 rfl (by kernel_rfl)) rfl ?_
              refine ⟨⟨rfl, ?_⟩, ?_⟩
              · exact (Below.heap_setCell _ _ _ g (BoxKept.ne_of hgl.out GE.out).2).trans ((Below.heap_setCell _ _ _ g (BoxKept.ne_of hgl.out GE.out).2).trans ((Below.heap_setCell _ _ _ g (BoxKept.ne_of hgl.out GE.out).2).trans ((Below.heap_setCell _ _ _ g (BoxKept.ne_of hgl.out GE.out).2).trans ((Below.heap_setCell _ _ _ g (BoxKept.ne_of hgl.out GE.out).2).trans BX.out))))
              · exact ((((HB.out.set_new GE.out _).set_new GE.out _).set_new GE.out _).set_new GE.out _).set_new GE.out _
            · rw [if_neg d1] at h
              have d1b : (d == 1) = false := beq_eq_false_iff_ne.mpr d1
              obtain rfl := Option.some.inj h
              clear h
              go_enter Try.func66, Try.ntmps66
              go_wp2_with (first | ((with_reducible refine gate_dst (N := 4) rfl ?_); refine box_event ?hg (N := 4) ?hd (cs := #[.string (⟨#[]⟩ : ByteArray), .int .i64 0, .bool false, .string (⟨#[]⟩ : ByteArray)]) (t := 36) ?hr ?_; (case hd => rfl); (case hg => rfl); (case hr => first | (go_simp; done) | (go_simp; rfl)); intro ge hg w4 hbox hb; have GE := Aside0.mk (show w.heap.size ≤ ge from hg ▸ HB.out.size); have n0_ := Aside0.mk (HB.out.trans (BoxKept.of_below hb)); have n1_ := Aside0.mk (show RBox g s w4 from (hb.block g (Array.getElem?_eq_some_iff.1 BX.out).1).trans BX.out); have BE := Aside0.mk hbox; clear HB BX hb hbox hg; have HB := n0_; have BX := n1_; clear n0_ n1_; obtain ⟨⟨hc0, hc1, hc2, hc3⟩, hf0, hf1, hf2, hf3⟩ := Zk4 BE) | (go_at_call 64; (with_reducible refine (block_reader_num.calls_ok g _ n s1 _ H1.out BX.out).mono ?_); rintro e w6 ⟨rfl, hx, hk⟩; have n0_ := Aside0.mk (hk.blk BE.out (BoxKept.ne_of hgl.out GE.out).1); have n1_ := Aside0.mk (HB.out.trans hk); clear BE HB BX hk hc0 hc1 hc2 hc3 hf0 hf1 hf2 hf3; have BE := n0_; have HB := n1_; have BX := Aside0.mk hx; clear n0_ n1_ hx; obtain ⟨⟨hc0, hc1, hc2, hc3⟩, hf0, hf1, hf2, hf3⟩ := Zk4 BE) | (go_at_call 65; refine (block_must.calls_true _).mono ?_; rintro e w5 ⟨rfl, hb⟩; have hk := BoxKept.of_below (g := g) hb; have hx := (show RBox g _ w5 from (hb.block g (Array.getElem?_eq_some_iff.1 BX.out).1).trans BX.out); clear hb; have n0_ := Aside0.mk (hk.blk BE.out (BoxKept.ne_of hgl.out GE.out).1); have n1_ := Aside0.mk (HB.out.trans hk); clear BE HB BX hk hc0 hc1 hc2 hc3 hf0 hf1 hf2 hf3; have BE := n0_; have HB := n1_; have BX := Aside0.mk hx; clear n0_ n1_ hx; obtain ⟨⟨hc0, hc1, hc2, hc3⟩, hf0, hf1, hf2, hf3⟩ := Zk4 BE))
              refine start_ (n := 12) (S := fun _ => True) (ds := []) #[false, false, false, false, false, false, false, false, false, false, false, false] (by kernel_rfl) rfl rfl trivial (fun hHeld => ?_)
              have n0_ := Aside0.mk (show w5.drew.heap[ge]? = _ from BE.out); have n1_ := Aside0.mk (show RBox g _ w5.drew from BX.out); have n2_ := Aside0.mk (show BoxKept g w w5.drew from ⟨HB.out.os, HB.out.tape, HB.out.output, HB.out.size, HB.out.keep⟩)
              clear hc0 hc1 hc2 hc3 hf0 hf1 hf2 hf3
              clear BE BX HB
              generalize w5.drew = wB at n0_ n1_ n2_ ⊢
              have BE := n0_; have BX := n1_; have HB := n2_; clear n0_ n1_ n2_
              obtain ⟨⟨hc0, hc1, hc2, hc3⟩, hf0, hf1, hf2, hf3⟩ := Zk4 BE
              refine pure_ (i := 0) (N := some 13) (v := ?_) (a' := ?_) #[true, false, false, false, false, false, false, false, false, false, false, false] rfl rfl (by kernel_rfl) (fun _ _ _ h => h) (Or.inl ⟨by rfl, ?_⟩) ?_ ?_; rotate_left; (focus intro w'; go_simp; with_reducible rfl); rotate_left; (focus simp only [Act.put, List.setIfInBounds_toArray, List.set_cons_zero, List.set_cons_succ, i64_w, i32_w]; rfl)
              refine pure_ (i := 1) (N := some 14) (v := ?_) (a' := ?_) #[true, true, false, false, false, false, false, false, false, false, false, false] rfl rfl (by kernel_rfl) (fun _ _ _ h => h) (Or.inl ⟨by rfl, ?_⟩) ?_ ?_; rotate_left; (focus intro w'; go_simp; with_reducible rfl); rotate_left; (focus simp only [Act.put, List.setIfInBounds_toArray, List.set_cons_zero, List.set_cons_succ, i64_w, i32_w]; rfl)
              refine pure_ (i := 2) (N := some 15) (v := ?_) (a' := ?_) #[true, true, true, false, false, false, false, false, false, false, false, false] rfl rfl (by kernel_rfl) (fun _ _ _ h => h) (Or.inl ⟨by rfl, ?_⟩) ?_ ?_; rotate_left; (focus intro w'; go_simp; with_reducible rfl); rotate_left; (focus simp only [Act.put, List.setIfInBounds_toArray, List.set_cons_zero, List.set_cons_succ, i64_w, i32_w]; rfl)
              refine pure_ (i := 3) (N := some 16) (v := ?_) (a' := ?_) #[true, true, true, true, false, false, false, false, false, false, false, false] rfl rfl (by kernel_rfl) (fun _ _ _ h => h) (Or.inl ⟨by rfl, ?_⟩) ?_ ?_; rotate_left; (focus intro w'; go_simp; with_reducible rfl); rotate_left; (focus simp only [Act.put, List.setIfInBounds_toArray, List.set_cons_zero, List.set_cons_succ, i64_w, i32_w]; rfl)
              refine pure_ (i := 6) (N := some 19) (v := ?_) (a' := ?_) #[true, true, true, true, false, false, true, false, false, false, false, false] rfl rfl (by kernel_rfl) (fun _ _ _ h => h) (Or.inl ⟨by rfl, ?_⟩) ?_ ?_; rotate_left; (focus intro w'; go_simp; with_reducible rfl); rotate_left; (focus simp only [Act.put, List.setIfInBounds_toArray, List.set_cons_zero, List.set_cons_succ, i64_w, i32_w]; rfl)
              refine one_ (i := 4) (N := some 17) #[true, true, true, true, true, false, true, false, false, false, false, false] rfl rfl (by kernel_rfl) (by decide) (fun K hK => ?_)
              refine goes_ Try.func81 (by kernel_rfl) rfl #[.pointer (some ⟨g, 0, none⟩)] (by rfl) rfl rfl (by (try simp only [List.map_toArray, List.map_cons, List.map_nil]); first | done | rfl) ?_
              with_reducible refine (block_reader_text.calls_ok g _ tl s2 _ H2.out BX.out).mono ?_
              rintro e wC ⟨rfl, hx, hk⟩
              refine ⟨_, rfl, ?_⟩
              have n0_ := Aside0.mk (hk.blk BE.out (BoxKept.ne_of hgl.out GE.out).1)
              have n1_ := Aside0.mk (HB.out.trans hk)
              clear BE HB BX hk hc0 hc1 hc2 hc3 hf0 hf1 hf2 hf3
              have BE := n0_
              have HB := n1_
              have BX := Aside0.mk hx
              clear n0_ n1_ hx
              obtain ⟨⟨hc0, hc1, hc2, hc3⟩, hf0, hf1, hf2, hf3⟩ := Zk4 BE
              refine hK.out _ _ trivial (fun hHeld => ?_)
              clear hK K
              refine norm_ (a' := ?_) ?_ ?_
              rotate_left
              · show Act.put _ (some 17) _ = _
                simp only [Act.put, List.setIfInBounds_toArray, List.set_cons_zero, List.set_cons_succ, i64_w, i32_w]
                rfl
              refine pure_ (i := 5) (N := some 18) (v := ?_) (a' := ?_) #[true, true, true, true, true, true, true, false, false, false, false, false] rfl rfl (by kernel_rfl) (fun _ _ _ h => h) (Or.inl ⟨by rfl, ?_⟩) ?_ ?_; rotate_left; (focus intro w'; go_simp; with_reducible rfl); rotate_left; (focus simp only [Act.put, List.setIfInBounds_toArray, List.set_cons_zero, List.set_cons_succ, i64_w, i32_w]; rfl)
              refine pure_ (i := 8) (N := some 21) (v := ?_) (a' := ?_) #[true, true, true, true, true, true, true, false, true, false, false, false] rfl rfl (by kernel_rfl) (fun _ _ _ h => h) (Or.inl ⟨by rfl, ?_⟩) ?_ ?_; rotate_left; (focus intro w'; go_simp; with_reducible rfl); rotate_left; (focus simp only [Act.put, List.setIfInBounds_toArray, List.set_cons_zero, List.set_cons_succ, i64_w, i32_w]; rfl)
              refine one_ (i := 7) (N := some 20) #[true, true, true, true, true, true, true, true, true, false, false, false] rfl rfl (by kernel_rfl) (by decide) (fun K hK => ?_)
              refine goes_ Try.func64 (by kernel_rfl) rfl #[.pointer (some ⟨g, 0, none⟩)] (by rfl) rfl rfl (by (try simp only [List.map_toArray, List.map_cons, List.map_nil]); first | done | rfl) ?_
              with_reducible refine (block_reader_num.calls_ok g _ q s3 _ H3.out BX.out).mono ?_
              rintro e wC ⟨rfl, hx, hk⟩
              refine ⟨_, rfl, ?_⟩
              have n0_ := Aside0.mk (hk.blk BE.out (BoxKept.ne_of hgl.out GE.out).1)
              have n1_ := Aside0.mk (HB.out.trans hk)
              clear BE HB BX hk hc0 hc1 hc2 hc3 hf0 hf1 hf2 hf3
              have BE := n0_
              have HB := n1_
              have BX := Aside0.mk hx
              clear n0_ n1_ hx
              obtain ⟨⟨hc0, hc1, hc2, hc3⟩, hf0, hf1, hf2, hf3⟩ := Zk4 BE
              refine hK.out _ _ trivial (fun hHeld => ?_)
              clear hK K
              refine norm_ (a' := ?_) ?_ ?_
              rotate_left
              · show Act.put _ (some 20) _ = _
                simp only [Act.put, List.setIfInBounds_toArray, List.set_cons_zero, List.set_cons_succ, i64_w, i32_w]
                rfl
              refine one_ (i := 9) (N := none) #[true, true, true, true, true, true, true, true, true, true, false, false] rfl rfl (by kernel_rfl) (by decide) (fun K hK => ?_)
              refine skip_ (w1 := ?_) (by rfl) rfl ?_ ?_
              rotate_left
              · go_simp
                rfl
              refine hK.out _ _ trivial (fun hHeld => ?_)
              clear hK K
              have n0_ := Aside0.mk (show RBox g _ _ from (Below.heap_setCell _ ⟨ge, 0, none⟩ (.string KEY) g (BoxKept.ne_of hgl.out GE.out).2).trans BX.out); have n1_ := Aside0.mk (blk_put (cs := #[.string (⟨#[]⟩ : ByteArray), .int .i64 0, .bool false, .string (⟨#[]⟩ : ByteArray)]) BE.out 0 (.string KEY) rfl); have n2_ := Aside0.mk (HB.out.set_new (j := 0) GE.out (.string KEY))
              clear hc0 hc1 hc2 hc3 hf0 hf1 hf2 hf3
              clear BX BE HB
              have BX := n0_; have BE := n1_; have HB := n2_; clear n0_ n1_ n2_
              generalize World.setCell _ _ _ = wS at BX BE HB ⊢
              replace BE := Aside0.mk (show wS.heap[ge]? = some (.cells #[.string KEY, .int .i64 0, .bool false, .string (⟨#[]⟩ : ByteArray)] 36 (0, 0)) from BE.out)
              obtain ⟨⟨hc0, hc1, hc2, hc3⟩, hf0, hf1, hf2, hf3⟩ := Zk4 BE
              refine norm_ (a' := ?_) ?_ ?_
              rotate_left
              · show Act.put _ none undef = _
                simp only [Act.put]
                rfl
              refine pure_ (i := 10) (N := some 22) (v := ?_) (a' := ?_) #[true, true, true, true, true, true, true, true, true, true, true, false] rfl rfl (by kernel_rfl) (fun _ _ _ h => h) (Or.inl ⟨by rfl, ?_⟩) ?_ ?_; rotate_left; (focus intro w'; go_simp; with_reducible rfl); rotate_left; (focus simp only [Act.put, List.setIfInBounds_toArray, List.set_cons_zero, List.set_cons_succ, i64_w, i32_w]; rfl)
              refine one_ (i := 11) (N := none) #[true, true, true, true, true, true, true, true, true, true, true, true] rfl rfl (by kernel_rfl) (by decide) (fun K hK => ?_)
              refine skip_ (w1 := ?_) (by rfl) rfl ?_ ?_
              rotate_left
              · go_simp
                rfl
              refine hK.out _ _ trivial (fun hHeld => ?_)
              clear hK K
              have n0_ := Aside0.mk (show RBox g _ _ from (Below.heap_setCell _ ⟨ge, 1, none⟩ (.int .i64 q) g (BoxKept.ne_of hgl.out GE.out).2).trans BX.out); have n1_ := Aside0.mk (blk_put (cs := #[.string KEY, .int .i64 0, .bool false, .string (⟨#[]⟩ : ByteArray)]) BE.out 1 (.int .i64 q) rfl); have n2_ := Aside0.mk (HB.out.set_new (j := 1) GE.out (.int .i64 q))
              clear hc0 hc1 hc2 hc3 hf0 hf1 hf2 hf3
              clear BX BE HB
              have BX := n0_; have BE := n1_; have HB := n2_; clear n0_ n1_ n2_
              generalize World.setCell _ _ _ = wS at BX BE HB ⊢
              replace BE := Aside0.mk (show wS.heap[ge]? = some (.cells #[.string KEY, .int .i64 q, .bool false, .string (⟨#[]⟩ : ByteArray)] 36 (0, 0)) from BE.out)
              obtain ⟨⟨hc0, hc1, hc2, hc3⟩, hf0, hf1, hf2, hf3⟩ := Zk4 BE
              refine norm_ (a' := ?_) ?_ ?_
              rotate_left
              · show Act.put _ none undef = _
                simp only [Act.put]
                rfl
              refine done_ (by kernel_rfl) ?_
              go_wp2_with (first | (go_at_call 64; (with_reducible refine (block_reader_num.calls_ok g _ d s4 _ H4.out BX.out).mono ?_); rintro e w7 ⟨rfl, hx, hk⟩; have n0_ := Aside0.mk (hk.blk BE.out (BoxKept.ne_of hgl.out GE.out).1); have n1_ := Aside0.mk (HB.out.trans hk); clear BE HB BX hk hc0 hc1 hc2 hc3 hf0 hf1 hf2 hf3; have BE := n0_; have HB := n1_; have BX := Aside0.mk hx; clear n0_ n1_ hx; obtain ⟨⟨hc0, hc1, hc2, hc3⟩, hf0, hf1, hf2, hf3⟩ := Zk4 BE))
              exact ⟨rfl, rfl, HB.out⟩
end Go.Proofs.Ytbdkfmhkgeoeaaa.Print
