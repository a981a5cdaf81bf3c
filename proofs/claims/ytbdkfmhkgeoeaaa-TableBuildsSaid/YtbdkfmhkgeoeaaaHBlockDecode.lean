/- Contracts proved by hand: see the theorems' own lines. -/
import Derived.Test.YtbdkfmhkgeoeaaaHBlockCatch
import Derived.Test.YtbdkfmhkgeoeaaaHBlockEncode
import Derived.Test.YtbdkfmhkgeoeaaaHBlockEntry
import Derived.Test.YtbdkfmhkgeoeaaaPrint0
namespace Go.Proofs.Ytbdkfmhkgeoeaaa.Print
open Go.RowKit Go.Proofs.YtbdkfmhkgeoeaaaW.PrintWords Go.Proofs.YtbdkfmhkgeoeaaaW.PrintLast Go.Proofs.YtbdkfmhkgeoeaaaW.PrintMore Go.Proofs.YtbdkfmhkgeoeaaaX
set_option linter.unusedVariables false
set_option linter.unusedSimpArgs false

/-- So many entries; inner none: there are none; outer none: nothing is told. -/
def decLoop : Nat → ByteArray → ByteArray → List S36 → Option (Option (List S36))
  | 0, _, _, acc => some (some acc)
  | m + 1, s, last, acc => (decEntry s last).bind fun r => match r with
    | none => some none
    | some (e, rest) => if acc.length < 1000 then decLoop m rest e.f0 (acc ++ [e]) else none
def block_Decode.f (b : ByteArray) : Option (List S36 × Option Int) :=
  (pack_ReadNum.f b).bind fun r => if r.2.2.isNone = true then
    (if r.1 ≤ 200 then (decLoop r.1.toNat r.2.1 ⟨#[]⟩ []).bind fun d => match d with
      | none => some ([], some 3)
      | some l => (block_Encode.f l).bind fun q => if q.2.isNone = true ∧ q.1.toList = b.toList then some (l, none) else some ([], some 3)
     else some ([], some 3))
   else some ([], some 3)
theorem row_box {W W' : World} {base g t : Nat} {v : Value} {xs : List S36} {cs : Array Value} (h : Kd.R k36 36 W base (fun _ => True) v xs) (hb : W.heap[g]? = some (.cells cs t (0, 0))) (ht : ∀ q, q ∈ 36 :: (k36 : Kd S36).E → q ≠ t) (hk : BoxKept g W W') : Kd.R k36 36 W' base (fun _ => True) v xs :=
  Kd.R_mono (Kd.R_step (Kd.R_types h hb ht) (fun k ho hlt => hk.keep k hlt ho.2)) (fun _ _ => trivial)
theorem results_cc {tmps : Array Value} {W : World} {gl gx : Nat} {v u : Value} (h1 : tmps.getD 2 undef = .pointer (some ⟨gl, 0, none⟩)) (h2 : tmps.getD 3 undef = .pointer (some ⟨gx, 0, none⟩)) (hl : W.cell? ⟨gl, 0, none⟩ = some v) (hx : W.cell? ⟨gx, 0, none⟩ = some u) :
    (results Try.f35 tmps).run Try.prog W = .ok (.tuple #[v, u]) W := by
  have h1' : tmps[2]?.getD undef = .pointer (some ⟨gl, 0, none⟩) := by simpa using h1
  have h2' : tmps[3]?.getD undef = .pointer (some ⟨gx, 0, none⟩) := by simpa using h2
  simp [results, Try.results35, h1', h2', asAddr, go_sem, hl, hx]
theorem leaves_congr {P : Program} {fn : Func} {t1 t2 : Array Value} {R : Ending → World → Prop} (h : ∀ w, (results fn t1).run P w = (results fn t2).run P w) : ∀ (ds : List Deferred) (u : FrameMode) (w : World), Leaves P fn t1 R ds u w → Leaves P fn t2 R ds u w
  | [], .returning, w, ⟨v, hv, hR⟩ => ⟨v, (h w).symm.trans hv, hR⟩
  | [], .panicking _, _, hh => hh
  | [], .run, _, hh => hh
  | d :: ds, u, w, ⟨h1, fv, cap, f, args, e1, e2, hc⟩ => ⟨h1, fv, cap, f, args, e1, e2, hc.mono (fun e u' w' hh => by
      cases e with
      | returned v => exact leaves_congr h ds _ _ hh
      | panicked c => exact leaves_congr h ds _ _ hh
      | outgrown => exact hh)⟩
theorem results_put (N : Nat) (h2 : N ≠ 2) (h3 : N ≠ 3) (tmps : Array Value) (v : Value) (w : World) : (results Try.f35 (tmps.setIfInBounds N v)).run Try.prog w = (results Try.f35 tmps).run Try.prog w := by
  have e2 : (tmps.setIfInBounds N v)[2]? = tmps[2]? := by rw [Array.getElem?_setIfInBounds_ne h2]
  have e3 : (tmps.setIfInBounds N v)[3]? = tmps[3]? := by rw [Array.getElem?_setIfInBounds_ne h3]
  simp [results, Try.results35, e2, e3]
theorem decode_hQ {R : Ending → World → Prop} (N : Nat) (h2 : N ≠ 2) (h3 : N ≠ 3) (v : Value) (c : List PanicEntry) (a : Act) (w : World) (h : bodyPostD Try.prog Try.f35 R (.panic c) (a.put (some N) v) w) : bodyPostD Try.prog Try.f35 R (.panic c) a w :=
  leaves_congr (fun W => results_put N h2 h3 a.tmps v W) a.defers _ w h
/-- The door, behind a reader's panic. -/
theorem decode_door_bad {w W : World} {gl gx : Nat} {v u : Value} {tmps : Array Value} (hB : Below w.heap.size w W) (GL : w.heap.size ≤ gl) (GX : w.heap.size ≤ gx) (hl : W.heap[gl]? = some (.cells #[v] 22 (0, 0))) (hx : W.heap[gx]? = some (.cells #[u] 25 (0, 0))) (hv : ∃ A m c, v = .slice A m c) (hne : gl ≠ gx)
    (h1 : tmps.getD 2 undef = .pointer (some ⟨gl, 0, none⟩)) (h2 : tmps.getD 3 undef = .pointer (some ⟨gx, 0, none⟩)) :
    bodyPostD Try.prog Try.f35 (fun e w' => ∃ v_ : Value, e = .returned (.tuple #[v_, errW (some 3)]) ∧ Kd.R k36 36 w' w.heap.size (fun _ => True) v_ [] ∧ Below w.heap.size w w') (.panic [{ v := .iface 99 (.agg #[]), recovered := false }]) { tmps := tmps, defers := [{ target := .fn (.func 63) #[.pointer (some ⟨gl, 0, none⟩), .pointer (some ⟨gx, 0, none⟩)], args := #[] }] } W := by
  refine leaves_cons (f := 63) (args := #[.pointer (some ⟨gl, 0, none⟩), .pointer (some ⟨gx, 0, none⟩)]) (by simp) (by simp [go_sem]) ?_
  refine (decode_catch gl gx v u [] W hl hx hv hne).mono ?_
  rintro e u' w'' ⟨rfl, rfl, rfl⟩
  have bl : (((W.alloc (.cells #[] 99)).setCell ⟨gl, 0, none⟩ (.slice none 0 0)).setCell ⟨gx, 0, none⟩ (.iface 48 (.int .i64 3))).heap[gl]? = some (.cells #[.slice none 0 0] 22 (0, 0)) :=
    (Below.heap_setCell _ ⟨gx, 0, none⟩ _ gl hne).trans (blk_put (cs := #[v]) (blk_alloc hl _) 0 _ rfl)
  have bx : (((W.alloc (.cells #[] 99)).setCell ⟨gl, 0, none⟩ (.slice none 0 0)).setCell ⟨gx, 0, none⟩ (.iface 48 (.int .i64 3))).heap[gx]? = some (.cells #[.iface 48 (.int .i64 3)] 25 (0, 0)) :=
    blk_put (cs := #[u]) ((Below.heap_setCell _ ⟨gl, 0, none⟩ _ gx hne.symm).trans (blk_alloc hx _)) 0 _ rfl
  have hr := results_cc h1 h2 ((blk_cell bl 0).trans rfl) ((blk_cell bx 0).trans rfl)
  have hBB : Below w.heap.size w (((W.alloc (.cells #[] 99)).setCell ⟨gl, 0, none⟩ (.slice none 0 0)).setCell ⟨gx, 0, none⟩ (.iface 48 (.int .i64 3))) := below_set (below_set (below_alloc hB _) GL) GX
  exact ⟨_, hr, _, rfl, Kd.R_nil _ _ _ _ _, hBB⟩
/-- The door, where the body returns. -/
theorem decode_door_ok {w W : World} {gl gx : Nat} {v : Value} {tmps : Array Value} {r1 : List S36} {r2 : Option Int} (hB : Below w.heap.size w W) (hl : W.heap[gl]? = some (.cells #[v] 22 (0, 0))) (hx : W.heap[gx]? = some (.cells #[errW r2] 25 (0, 0))) (hR : Kd.R k36 36 W w.heap.size (fun _ => True) v r1)
    (h1 : tmps.getD 2 undef = .pointer (some ⟨gl, 0, none⟩)) (h2 : tmps.getD 3 undef = .pointer (some ⟨gx, 0, none⟩)) :
    bodyPostD Try.prog Try.f35 (fun e w' => ∃ v_ : Value, e = .returned (.tuple #[v_, errW r2]) ∧ Kd.R k36 36 w' w.heap.size (fun _ => True) v_ r1 ∧ Below w.heap.size w w') .ret { tmps := tmps, defers := [{ target := .fn (.func 63) #[.pointer (some ⟨gl, 0, none⟩), .pointer (some ⟨gx, 0, none⟩)], args := #[] }] } W := by
  refine leaves_cons (f := 63) (args := #[.pointer (some ⟨gl, 0, none⟩), .pointer (some ⟨gx, 0, none⟩)]) (by simp) (by simp [go_sem]) ?_
  refine (decode_idle gl gx W).mono ?_
  rintro e u' w'' ⟨rfl, rfl, rfl⟩
  have hr := results_cc h1 h2 ((blk_cell hl 0).trans rfl) ((blk_cell hx 0).trans rfl)
  exact ⟨_, hr, _, rfl, hR, hB⟩

set_option maxHeartbeats 16000000 in
set_option maxRecDepth 100000 in
theorem block_Decode.calls (b : ByteArray) (r1 : List S36) (r2 : Option Int) (w : World) (h : block_Decode.f b = some (r1, r2)) :
    Calls Try.prog 35 #[.string b] w (fun e w' => ∃ v_ : Value, e = .returned (.tuple #[v_, errW r2]) ∧ Kd.R k36 36 w' w.heap.size (fun _ => True) v_ r1 ∧ Below w.heap.size w w') := by
  have HB := Aside0.mk (Below.refl w.heap.size w)
  have hmf : ∀ (fn : Fn) (first cap : Array Value) (w : World), (Instr.makeFunc fn first cap).run Try.prog w = .ok (.func fn first cap) w := fun _ _ _ _ => rfl
  unfold block_Decode.f at h
  obtain ⟨⟨n, s1, E1⟩, H1_, h⟩ := Option.bind_eq_some_iff.1 h
  have H1 := Aside0.mk H1_; clear H1_
  simp only at h
  cases E1 with
  | some c =>
    rw [if_neg (show ¬ (some c : Option Int).isNone = true by simp)] at h
    obtain ⟨rfl, rfl⟩ := Prod.mk.inj (Option.some.inj h)
    clear h
    go_enter_defers Try.func35, Try.ntmps35
    go_wp2_with (first | ((with_reducible refine gate_dst (N := 2) rfl ?_); refine box_event ?hg (N := 2) ?hd (cs := #[.slice none 0 0]) (t := 22) ?hr ?_; (case hd => rfl); (case hg => rfl); (case hr => first | (go_simp; done) | (go_simp; rfl)); intro gl hg w2 hbox hb; have BL := Aside0.mk hbox; have GL := Aside0.mk (Yg HB hg); have n0_ := Aside0.mk (Yv HB hb); clear HB hb hbox hg; have HB := n0_; clear n0_) | ((with_reducible refine gate_dst (N := 3) rfl ?_); refine box_event ?hg (N := 3) ?hd (cs := #[.nilIface]) (t := 25) ?hr ?_; (case hd => rfl); (case hg => rfl); (case hr => first | (go_simp; done) | (go_simp; rfl)); intro gx hg w3 hbox hb; have NLX := Aside0.mk (Zl BL hg); have BX := Aside0.mk hbox; have GX := Aside0.mk (Yg HB hg); have n0_ := Aside0.mk (Yv HB hb); have n1_ := Aside0.mk (Zv BL hb); clear HB BL hb hbox hg; have HB := n0_; have BL := n1_; clear n0_ n1_) | ((with_reducible refine gate_dst (N := 4) rfl ?_); refine box_event ?hg (N := 4) ?hd (cs := #[.string (⟨#[]⟩ : ByteArray)]) (t := 101) ?hr ?_; (case hd => rfl); (case hg => rfl); (case hr => first | (go_simp; done) | (go_simp; rfl)); intro gr hg w4 hbox hb; have NLR := Aside0.mk (Zl BL hg); have NXR := Aside0.mk (Zl BX hg); have BR := Aside0.mk hbox; have GR := Aside0.mk (Yg HB hg); have n0_ := Aside0.mk (Yv HB hb); have n1_ := Aside0.mk (Zv BL hb); have n2_ := Aside0.mk (Zv BX hb); clear HB BL BX hb hbox hg; have HB := n0_; have BL := n1_; have BX := n2_; clear n0_ n1_ n2_; obtain ⟨hcr, hfr⟩ := Zk1 BR) | (go_at_call 64; have n0_ := Aside0.mk (show RBox gr b (w4.setCell ⟨gr, 0, none⟩ (.string b)) from blk_put (cs := #[.string (⟨#[]⟩ : ByteArray)]) BR.out 0 _ rfl); have n1_ := Aside0.mk ((Below.heap_setCell w4 ⟨gr, 0, none⟩ (.string b) gl NLR.out).trans BL.out); have n2_ := Aside0.mk ((Below.heap_setCell w4 ⟨gr, 0, none⟩ (.string b) gx NXR.out).trans BX.out); have n3_ := Aside0.mk (show Below w.heap.size w (w4.setCell ⟨gr, 0, none⟩ (.string b)) from below_set HB.out GR.out); clear hcr hfr BR BL BX HB; generalize w4.setCell ⟨gr, 0, none⟩ (.string b) = wR at n0_ n1_ n2_ n3_ ⊢; have BR := n0_; have BL := n1_; have BX := n2_; have HB := n3_; clear n0_ n1_ n2_ n3_; (with_reducible refine (block_reader_num.calls_bad gr b n s1 c _ H1.out BR.out).mono ?_); rintro e w9 ⟨rfl, hk⟩; have n1_ := Aside0.mk (hk.blk BL.out NLR.out); have n2_ := Aside0.mk (hk.blk BX.out NXR.out); have n3_ := Aside0.mk (hk.below HB.out GR.out); clear BL BX HB hk; have BL := n1_; have BX := n2_; have HB := n3_; clear n1_ n2_ n3_))
    exact decode_door_bad HB.out GL.out GX.out BL.out BX.out ⟨_, _, _, rfl⟩ NLX.out (by rfl) (by rfl)
  | none =>
    rw [if_pos (show (none : Option Int).isNone = true from rfl)] at h
    by_cases h2 : ¬ n ≤ 200
    · rw [if_neg h2] at h
      have h2b : decide (n ≤ 200) = false := decide_eq_false h2
      clear h2
      obtain ⟨rfl, rfl⟩ := Prod.mk.inj (Option.some.inj h)
      clear h
      go_enter_defers Try.func35, Try.ntmps35
      go_wp2_with (first | ((with_reducible refine gate_dst (N := 2) rfl ?_); refine box_event ?hg (N := 2) ?hd (cs := #[.slice none 0 0]) (t := 22) ?hr ?_; (case hd => rfl); (case hg => rfl); (case hr => first | (go_simp; done) | (go_simp; rfl)); intro gl hg w2 hbox hb; have BL := Aside0.mk hbox; have GL := Aside0.mk (Yg HB hg); have n0_ := Aside0.mk (Yv HB hb); clear HB hb hbox hg; have HB := n0_; clear n0_) | ((with_reducible refine gate_dst (N := 3) rfl ?_); refine box_event ?hg (N := 3) ?hd (cs := #[.nilIface]) (t := 25) ?hr ?_; (case hd => rfl); (case hg => rfl); (case hr => first | (go_simp; done) | (go_simp; rfl)); intro gx hg w3 hbox hb; have NLX := Aside0.mk (Zl BL hg); have BX := Aside0.mk hbox; have GX := Aside0.mk (Yg HB hg); have n0_ := Aside0.mk (Yv HB hb); have n1_ := Aside0.mk (Zv BL hb); clear HB BL hb hbox hg; have HB := n0_; have BL := n1_; clear n0_ n1_) | ((with_reducible refine gate_dst (N := 4) rfl ?_); refine box_event ?hg (N := 4) ?hd (cs := #[.string (⟨#[]⟩ : ByteArray)]) (t := 101) ?hr ?_; (case hd => rfl); (case hg => rfl); (case hr => first | (go_simp; done) | (go_simp; rfl)); intro gr hg w4 hbox hb; have NLR := Aside0.mk (Zl BL hg); have NXR := Aside0.mk (Zl BX hg); have BR := Aside0.mk hbox; have GR := Aside0.mk (Yg HB hg); have n0_ := Aside0.mk (Yv HB hb); have n1_ := Aside0.mk (Zv BL hb); have n2_ := Aside0.mk (Zv BX hb); clear HB BL BX hb hbox hg; have HB := n0_; have BL := n1_; have BX := n2_; clear n0_ n1_ n2_; obtain ⟨hcr, hfr⟩ := Zk1 BR) | (go_at_call 64; have n0_ := Aside0.mk (show RBox gr b (w4.setCell ⟨gr, 0, none⟩ (.string b)) from blk_put (cs := #[.string (⟨#[]⟩ : ByteArray)]) BR.out 0 _ rfl); have n1_ := Aside0.mk ((Below.heap_setCell w4 ⟨gr, 0, none⟩ (.string b) gl NLR.out).trans BL.out); have n2_ := Aside0.mk ((Below.heap_setCell w4 ⟨gr, 0, none⟩ (.string b) gx NXR.out).trans BX.out); have n3_ := Aside0.mk (show Below w.heap.size w (w4.setCell ⟨gr, 0, none⟩ (.string b)) from below_set HB.out GR.out); clear hcr hfr BR BL BX HB; generalize w4.setCell ⟨gr, 0, none⟩ (.string b) = wR at n0_ n1_ n2_ n3_ ⊢; have BR := n0_; have BL := n1_; have BX := n2_; have HB := n3_; clear n0_ n1_ n2_ n3_; (with_reducible refine (block_reader_num.calls_ok gr b n s1 _ H1.out BR.out).mono ?_); rintro e w5 ⟨rfl, hx, hk⟩; have n1_ := Aside0.mk (hk.blk BL.out NLR.out); have n2_ := Aside0.mk (hk.blk BX.out NXR.out); have n3_ := Aside0.mk (hk.below HB.out GR.out); clear BL BX HB hk; have BL := n1_; have BX := n2_; have HB := n3_; clear n1_ n2_ n3_; clear BR; have BR := Aside0.mk hx; clear hx) | (go_at_call 65; refine (block_must.calls_false _).mono ?_; rintro e w9 ⟨rfl, hb⟩; have n0_ := Aside0.mk (show RBox gr _ _ from (hb.block gr (Array.getElem?_eq_some_iff.1 BR.out).1).trans BR.out); have n1_ := Aside0.mk (Zv BL hb); have n2_ := Aside0.mk (Zv BX hb); have n3_ := Aside0.mk (Yv HB hb); clear BR BL BX HB hb; have BR := n0_; have BL := n1_; have BX := n2_; have HB := n3_; clear n0_ n1_ n2_ n3_))
      exact decode_door_bad HB.out GL.out GX.out BL.out BX.out ⟨_, _, _, rfl⟩ NLX.out (by rfl) (by rfl)
    rw [if_pos (by omega)] at h
    have h2b : decide (n ≤ 200) = true := decide_eq_true (by omega)
    obtain ⟨d, hd, h⟩ := Option.bind_eq_some_iff.1 h
    have HD := Aside0.mk hd; have HH := Aside0.mk h; have HN2 : Aside0 (n ≤ 200) := ⟨by omega⟩
    clear hd h h2
    go_enter_defers Try.func35, Try.ntmps35
    go_wp2_with (first | ((with_reducible refine gate_dst (N := 2) rfl ?_); refine box_event ?hg (N := 2) ?hd (cs := #[.slice none 0 0]) (t := 22) ?hr ?_; (case hd => rfl); (case hg => rfl); (case hr => first | (go_simp; done) | (go_simp; rfl)); intro gl hg w2 hbox hb; have BL := Aside0.mk hbox; have GL := Aside0.mk (Yg HB hg); have n0_ := Aside0.mk (Yv HB hb); clear HB hb hbox hg; have HB := n0_; clear n0_) | ((with_reducible refine gate_dst (N := 3) rfl ?_); refine box_event ?hg (N := 3) ?hd (cs := #[.nilIface]) (t := 25) ?hr ?_; (case hd => rfl); (case hg => rfl); (case hr => first | (go_simp; done) | (go_simp; rfl)); intro gx hg w3 hbox hb; have NLX := Aside0.mk (Zl BL hg); have BX := Aside0.mk hbox; have GX := Aside0.mk (Yg HB hg); have n0_ := Aside0.mk (Yv HB hb); have n1_ := Aside0.mk (Zv BL hb); clear HB BL hb hbox hg; have HB := n0_; have BL := n1_; clear n0_ n1_) | ((with_reducible refine gate_dst (N := 4) rfl ?_); refine box_event ?hg (N := 4) ?hd (cs := #[.string (⟨#[]⟩ : ByteArray)]) (t := 101) ?hr ?_; (case hd => rfl); (case hg => rfl); (case hr => first | (go_simp; done) | (go_simp; rfl)); intro gr hg w4 hbox hb; have NLR := Aside0.mk (Zl BL hg); have NXR := Aside0.mk (Zl BX hg); have BR := Aside0.mk hbox; have GR := Aside0.mk (Yg HB hg); have n0_ := Aside0.mk (Yv HB hb); have n1_ := Aside0.mk (Zv BL hb); have n2_ := Aside0.mk (Zv BX hb); clear HB BL BX hb hbox hg; have HB := n0_; have BL := n1_; have BX := n2_; clear n0_ n1_ n2_; obtain ⟨hcr, hfr⟩ := Zk1 BR) | (go_at_call 64; have n0_ := Aside0.mk (show RBox gr b (w4.setCell ⟨gr, 0, none⟩ (.string b)) from blk_put (cs := #[.string (⟨#[]⟩ : ByteArray)]) BR.out 0 _ rfl); have n1_ := Aside0.mk ((Below.heap_setCell w4 ⟨gr, 0, none⟩ (.string b) gl NLR.out).trans BL.out); have n2_ := Aside0.mk ((Below.heap_setCell w4 ⟨gr, 0, none⟩ (.string b) gx NXR.out).trans BX.out); have n3_ := Aside0.mk (show Below w.heap.size w (w4.setCell ⟨gr, 0, none⟩ (.string b)) from below_set HB.out GR.out); clear hcr hfr BR BL BX HB; generalize w4.setCell ⟨gr, 0, none⟩ (.string b) = wR at n0_ n1_ n2_ n3_ ⊢; have BR := n0_; have BL := n1_; have BX := n2_; have HB := n3_; clear n0_ n1_ n2_ n3_; (with_reducible refine (block_reader_num.calls_ok gr b n s1 _ H1.out BR.out).mono ?_); rintro e w5 ⟨rfl, hx, hk⟩; have n1_ := Aside0.mk (hk.blk BL.out NLR.out); have n2_ := Aside0.mk (hk.blk BX.out NXR.out); have n3_ := Aside0.mk (hk.below HB.out GR.out); clear BL BX HB hk; have BL := n1_; have BX := n2_; have HB := n3_; clear n1_ n2_ n3_; clear BR; have BR := Aside0.mk hx; clear hx) | (go_at_call 65; refine (block_must.calls_true _).mono ?_; rintro e w6 ⟨rfl, hb⟩; have n0_ := Aside0.mk (show RBox gr _ _ from (hb.block gr (Array.getElem?_eq_some_iff.1 BR.out).1).trans BR.out); have n1_ := Aside0.mk (Zv BL hb); have n2_ := Aside0.mk (Zv BX hb); have n3_ := Aside0.mk (Yv HB hb); clear BR BL BX HB hb; have BR := n0_; have BL := n1_; have BX := n2_; have HB := n3_; clear n0_ n1_ n2_ n3_))
    go_loopg [6, 17] n.toNat (fun kq v6 v17 w' => ∃ (i : Int) (s last : ByteArray) (acc : List S36) (v : Value), v6 = .string last ∧ v17 = .int .i64 i ∧ Aside0 (0 ≤ i ∧ i.toNat + kq = n.toNat) ∧ Aside0 (decLoop kq s last acc = some d) ∧ Aside0 (acc.length + kq = n.toNat) ∧ Aside0 (Kd.R k36 36 w' w.heap.size (fun _ => True) v acc) ∧ Aside0 (RBox gr s w') ∧ Aside0 (w'.heap[gl]? = some (.cells #[v] 22 (0, 0))) ∧ Aside0 (w'.heap[gx]? = some (.cells #[.nilIface] 25 (0, 0))) ∧ Aside0 (Below w.heap.size w w'))
    case atStart => exact ⟨0, s1, ⟨#[]⟩, [], .slice none 0 0, rfl, rfl, ⟨⟨Int.le_refl _, by simp⟩⟩, HD, ⟨by simp⟩, ⟨Kd.R_nil _ _ _ _ _⟩, BR, BL, BX, HB⟩
    case round =>
      clear HD BR BL BX HB
      obtain ⟨i, s, last, acc, v, rfl, rfl, HI, HD, HL, HR, BR, BL, BX, HB⟩ := hrel
      obtain ⟨Ao, co, eo⟩ := Kd.R_slice HR.out
      subst eo
      obtain ⟨hcl, hfl⟩ := Zk1 BL
      obtain ⟨hcx, hfx⟩ := Zk1 BX
      have q1 := NLX.out; have q2 := NLX.out.symm
      cases gk with
      | zero =>
        have hlt : ¬ i < n := by have := HI.out; omega
        obtain rfl := Option.some.inj HD.out
        obtain ⟨⟨q, E⟩, hq, hh⟩ := Option.bind_eq_some_iff.1 HH.out
        have HQ := Aside0.mk hq; clear hq HH
        simp only at hh
        cases E with
        | some c =>
          rw [if_neg (fun e => by cases e.1)] at hh
          obtain ⟨rfl, rfl⟩ := Prod.mk.inj (Option.some.inj hh)
          clear hh
          go_wp2_with (first | (go_at_call 25; (with_reducible refine (block_Encode.calls _ _ acc q (some c) _ ?side1 ?side2 HQ.out).mono ?_); (case side1 => exact (Kd.R_reads' HR.out).2.2); (case side2 => exact (Kd.R_reads' HR.out).2.1); rintro e w7 ⟨rfl, hb⟩; have n9_ := Aside0.mk (Kd.R_below HR.out hb); clear HR hcl hfl hcx hfx; have HR := n9_; clear n9_; have n0_ := Aside0.mk (show RBox gr _ _ from (hb.block gr (Array.getElem?_eq_some_iff.1 BR.out).1).trans BR.out); have n1_ := Aside0.mk (Zv BL hb); have n2_ := Aside0.mk (Zv BX hb); have n3_ := Aside0.mk (Yv HB hb); clear BR BL BX HB hb; have BR := n0_; have BL := n1_; have BX := n2_; have HB := n3_; clear n0_ n1_ n2_ n3_; obtain ⟨hcl, hfl⟩ := Zk1 BL; obtain ⟨hcx, hfx⟩ := Zk1 BX; simp only [errW_some]) | (go_at_call 65; refine (block_must.calls_false _).mono ?_; rintro e w9 ⟨rfl, hb⟩; have n0_ := Aside0.mk (show RBox gr _ _ from (hb.block gr (Array.getElem?_eq_some_iff.1 BR.out).1).trans BR.out); have n1_ := Aside0.mk (Zv BL hb); have n2_ := Aside0.mk (Zv BX hb); have n3_ := Aside0.mk (Yv HB hb); clear BR BL BX HB hb; have BR := n0_; have BL := n1_; have BX := n2_; have HB := n3_; clear n0_ n1_ n2_ n3_))
          clear HR
          exact decode_door_bad HB.out GL.out GX.out BL.out BX.out ⟨_, _, _, rfl⟩ NLX.out (by rfl) (by rfl)
        | none =>
          by_cases hs : q.toList = b.toList
          · have b0 : (q.toList == b.toList) = true := beq_iff_eq.mpr hs
            rw [if_pos ⟨rfl, hs⟩] at hh
            obtain ⟨rfl, rfl⟩ := Prod.mk.inj (Option.some.inj hh)
            clear hh hs
            go_wp2_with (first | (go_at_call 25; (with_reducible refine (block_Encode.calls _ _ acc q none _ ?side1 ?side2 HQ.out).mono ?_); (case side1 => exact (Kd.R_reads' HR.out).2.2); (case side2 => exact (Kd.R_reads' HR.out).2.1); rintro e w7 ⟨rfl, hb⟩; have n9_ := Aside0.mk (Kd.R_below HR.out hb); clear HR hcl hfl hcx hfx; have HR := n9_; clear n9_; have n0_ := Aside0.mk (show RBox gr _ _ from (hb.block gr (Array.getElem?_eq_some_iff.1 BR.out).1).trans BR.out); have n1_ := Aside0.mk (Zv BL hb); have n2_ := Aside0.mk (Zv BX hb); have n3_ := Aside0.mk (Yv HB hb); clear BR BL BX HB hb; have BR := n0_; have BL := n1_; have BX := n2_; have HB := n3_; clear n0_ n1_ n2_ n3_; obtain ⟨hcl, hfl⟩ := Zk1 BL; obtain ⟨hcx, hfx⟩ := Zk1 BX; simp only [errW_none]) | (go_at_call 65; refine (block_must.calls_true _).mono ?_; rintro e w8 ⟨rfl, hb⟩; have n9_ := Aside0.mk (Kd.R_below HR.out hb); clear HR hcl hfl hcx hfx; have HR := n9_; clear n9_; have n0_ := Aside0.mk (show RBox gr _ _ from (hb.block gr (Array.getElem?_eq_some_iff.1 BR.out).1).trans BR.out); have n1_ := Aside0.mk (Zv BL hb); have n2_ := Aside0.mk (Zv BX hb); have n3_ := Aside0.mk (Yv HB hb); clear BR BL BX HB hb; have BR := n0_; have BL := n1_; have BX := n2_; have HB := n3_; clear n0_ n1_ n2_ n3_; obtain ⟨hcl, hfl⟩ := Zk1 BL; obtain ⟨hcx, hfx⟩ := Zk1 BX))
            exact decode_door_ok (below_set (below_set HB.out GL.out) GX.out) ((Below.heap_setCell _ ⟨gx, 0, none⟩ _ gl NLX.out).trans (blk_put (cs := #[.slice Ao acc.length co]) BL.out 0 _ rfl)) (blk_put (cs := #[.nilIface]) ((Below.heap_setCell _ ⟨gl, 0, none⟩ _ gx NLX.out.symm).trans BX.out) 0 _ rfl) (Kd.R_set (Kd.R_set HR.out BL.out (by decide) 0 _) ((Below.heap_setCell _ ⟨gl, 0, none⟩ _ gx NLX.out.symm).trans BX.out) (by decide) 0 _) (by rfl) (by rfl)
          · have b0 : (q.toList == b.toList) = false := beq_eq_false_iff_ne.mpr hs
            rw [if_neg (fun e => hs e.2)] at hh
            obtain ⟨rfl, rfl⟩ := Prod.mk.inj (Option.some.inj hh)
            clear hh hs
            go_wp2_with (first | (go_at_call 25; (with_reducible refine (block_Encode.calls _ _ acc q none _ ?side1 ?side2 HQ.out).mono ?_); (case side1 => exact (Kd.R_reads' HR.out).2.2); (case side2 => exact (Kd.R_reads' HR.out).2.1); rintro e w7 ⟨rfl, hb⟩; have n9_ := Aside0.mk (Kd.R_below HR.out hb); clear HR hcl hfl hcx hfx; have HR := n9_; clear n9_; have n0_ := Aside0.mk (show RBox gr _ _ from (hb.block gr (Array.getElem?_eq_some_iff.1 BR.out).1).trans BR.out); have n1_ := Aside0.mk (Zv BL hb); have n2_ := Aside0.mk (Zv BX hb); have n3_ := Aside0.mk (Yv HB hb); clear BR BL BX HB hb; have BR := n0_; have BL := n1_; have BX := n2_; have HB := n3_; clear n0_ n1_ n2_ n3_; obtain ⟨hcl, hfl⟩ := Zk1 BL; obtain ⟨hcx, hfx⟩ := Zk1 BX; simp only [errW_none]) | (go_at_call 65; refine (block_must.calls_false _).mono ?_; rintro e w9 ⟨rfl, hb⟩; have n0_ := Aside0.mk (show RBox gr _ _ from (hb.block gr (Array.getElem?_eq_some_iff.1 BR.out).1).trans BR.out); have n1_ := Aside0.mk (Zv BL hb); have n2_ := Aside0.mk (Zv BX hb); have n3_ := Aside0.mk (Yv HB hb); clear BR BL BX HB hb; have BR := n0_; have BL := n1_; have BX := n2_; have HB := n3_; clear n0_ n1_ n2_ n3_))
            exact decode_door_bad HB.out GL.out GX.out BL.out BX.out ⟨_, _, _, rfl⟩ NLX.out (by rfl) (by rfl)
      | succ m =>
        have hlt : i < n := by have := HI.out; omega
        obtain ⟨r, hr, hd2⟩ := Option.bind_eq_some_iff.1 (show ((decEntry s last).bind fun r => match r with | none => some none | some (e, rest) => if acc.length < 1000 then decLoop m rest e.f0 (acc ++ [e]) else none) = some d from HD.out)
        have HE := Aside0.mk hr; clear hr
        cases r with
        | none =>
          obtain rfl := Option.some.inj hd2
          obtain ⟨rfl, rfl⟩ := Prod.mk.inj (Option.some.inj HH.out)
          clear hd2
          go_wp2_with (first | (go_at_call 66; refine (block_reader_entry.calls gr s last none _ HE.out BR.out).mono ?_; rintro e w9 ⟨rfl, hk⟩; have n1_ := Aside0.mk (hk.blk BL.out NLR.out); have n2_ := Aside0.mk (hk.blk BX.out NXR.out); have n3_ := Aside0.mk (hk.below HB.out GR.out); clear BL BX HB hk; have BL := n1_; have BX := n2_; have HB := n3_; clear n1_ n2_ n3_))
          exact decode_door_bad HB.out GL.out GX.out BL.out BX.out ⟨_, _, _, rfl⟩ NLX.out (by rfl) (by rfl)
        | some er =>
          obtain ⟨⟨x0, x1, x2, x3⟩, rest⟩ := er
          have HD2 : Aside0 (decLoop m rest x0 (acc ++ [⟨x0, x1, x2, x3⟩]) = some d) := ⟨by simp only at hd2; rw [if_pos (by have := HL.out; have := HN2.out; omega)] at hd2; exact hd2⟩
          clear hd2 HD
          go_wp2_with (first | (go_at_call 66; refine (block_reader_entry.calls gr s last (some (⟨x0, x1, x2, x3⟩, rest)) _ HE.out BR.out).mono ?_; rintro e w9 ⟨⟨rfl, hx⟩, hk⟩; have n9_ := Aside0.mk (row_box HR.out BR.out (by decide) hk); clear HR hcl hfl hcx hfx; have HR := n9_; clear n9_; have n1_ := Aside0.mk (hk.blk BL.out NLR.out); have n2_ := Aside0.mk (hk.blk BX.out NXR.out); have n3_ := Aside0.mk (hk.below HB.out GR.out); clear BL BX HB hk; have BL := n1_; have BX := n2_; have HB := n3_; clear n1_ n2_ n3_; clear BR; have BR := Aside0.mk hx; clear hx; simp only [entV]) | ((with_reducible refine gate_dst (N := 7) rfl ?_); refine box_event ?hg (N := 7) ?hd (cs := #[.string (⟨#[]⟩ : ByteArray), .int .i64 0, .bool false, .string (⟨#[]⟩ : ByteArray)]) (t := 36) ?hr ?_; (case hd => rfl); (case hg => rfl); (case hr => first | (go_simp; done) | (go_simp; rfl)); intro ge hg w7 hbox hb; have NLE := Aside0.mk (Zl BL hg); have NXE := Aside0.mk (Zl BX hg); have NRE := Aside0.mk (show gr ≠ ge from fun e_ => by have h_ := (Array.getElem?_eq_some_iff.1 BR.out).1; omega); have BE := Aside0.mk hbox; have GE := Aside0.mk (Yg HB hg); have n0_ := Aside0.mk (show RBox gr _ w7 from (hb.block gr (Array.getElem?_eq_some_iff.1 BR.out).1).trans BR.out); have n1_ := Aside0.mk (Zv BL hb); have n2_ := Aside0.mk (Zv BX hb); have n3_ := Aside0.mk (Yv HB hb); have n4_ := Aside0.mk (Kd.R_below HR.out hb); have HRL := Aside0.mk (show some ge ≠ (Value.slice Ao acc.length co).ownBlock from fun e_ => by have h_ := Kd.R_lt HR.out ge e_.symm; omega); have HRO := Aside0.mk (Kd.R_below (Kd.R_mono (Kd.R_bound HR.out) (ok' := fun k_ => True ∧ k_ ≠ ge) (fun k_ hk_ => ⟨trivial, by have h_ := hk_.2.2.1; omega⟩)) hb); clear BR BL BX HB HR hb hbox hg; have BR := n0_; have BL := n1_; have BX := n2_; have HB := n3_; have HR := n4_; clear n0_ n1_ n2_ n3_ n4_; obtain ⟨⟨hc0, hc1, hc2, hc3⟩, hf0, hf1, hf2, hf3⟩ := Zk4 BE))
          have HNE : Aside0 (some ge ≠ (Value.slice Ao acc.length co).ownBlock) := ⟨HRL.out⟩
          have b1 := blk_put (cs := #[.string (⟨#[]⟩ : ByteArray), .int .i64 0, .bool false, .string (⟨#[]⟩ : ByteArray)]) BE.out 0 (.string x0) rfl
          have b2 := blk_put (cs := #[.string x0, .int .i64 0, .bool false, .string (⟨#[]⟩ : ByteArray)]) b1 1 (.int .i64 x1) rfl
          have b3 := blk_put (cs := #[.string x0, .int .i64 x1, .bool false, .string (⟨#[]⟩ : ByteArray)]) b2 2 (.bool x2) rfl
          have b4 := blk_put (cs := #[.string x0, .int .i64 x1, .bool x2, .string (⟨#[]⟩ : ByteArray)]) b3 3 (.string x3) rfl
          have n0_ := Aside0.mk (show ((((w7.setCell ⟨ge, 0, none⟩ (.string x0)).setCell ⟨ge, 1, none⟩ (.int .i64 x1)).setCell ⟨ge, 2, none⟩ (.bool x2)).setCell ⟨ge, 3, none⟩ (.string x3)).heap[ge]? = some (.cells #[.string x0, .int .i64 x1, .bool x2, .string x3] 36 (0, 0)) from b4)
          have n1_ := Aside0.mk (show ((((w7.setCell ⟨ge, 0, none⟩ (.string x0)).setCell ⟨ge, 1, none⟩ (.int .i64 x1)).setCell ⟨ge, 2, none⟩ (.bool x2)).setCell ⟨ge, 3, none⟩ (.string x3)).heap[gl]? = _ from ((Below.heap_setCell _ ⟨ge, 3, none⟩ _ gl NLE.out).trans ((Below.heap_setCell _ ⟨ge, 2, none⟩ _ gl NLE.out).trans ((Below.heap_setCell _ ⟨ge, 1, none⟩ _ gl NLE.out).trans ((Below.heap_setCell _ ⟨ge, 0, none⟩ _ gl NLE.out).trans BL.out)))))
          have n2_ := Aside0.mk (show ((((w7.setCell ⟨ge, 0, none⟩ (.string x0)).setCell ⟨ge, 1, none⟩ (.int .i64 x1)).setCell ⟨ge, 2, none⟩ (.bool x2)).setCell ⟨ge, 3, none⟩ (.string x3)).heap[gx]? = _ from ((Below.heap_setCell _ ⟨ge, 3, none⟩ _ gx NXE.out).trans ((Below.heap_setCell _ ⟨ge, 2, none⟩ _ gx NXE.out).trans ((Below.heap_setCell _ ⟨ge, 1, none⟩ _ gx NXE.out).trans ((Below.heap_setCell _ ⟨ge, 0, none⟩ _ gx NXE.out).trans BX.out)))))
          have n3_ := Aside0.mk (show RBox gr rest ((((w7.setCell ⟨ge, 0, none⟩ (.string x0)).setCell ⟨ge, 1, none⟩ (.int .i64 x1)).setCell ⟨ge, 2, none⟩ (.bool x2)).setCell ⟨ge, 3, none⟩ (.string x3)) from ((Below.heap_setCell _ ⟨ge, 3, none⟩ _ gr NRE.out).trans ((Below.heap_setCell _ ⟨ge, 2, none⟩ _ gr NRE.out).trans ((Below.heap_setCell _ ⟨ge, 1, none⟩ _ gr NRE.out).trans ((Below.heap_setCell _ ⟨ge, 0, none⟩ _ gr NRE.out).trans BR.out)))))
          have n4_ := Aside0.mk (show Below w.heap.size w ((((w7.setCell ⟨ge, 0, none⟩ (.string x0)).setCell ⟨ge, 1, none⟩ (.int .i64 x1)).setCell ⟨ge, 2, none⟩ (.bool x2)).setCell ⟨ge, 3, none⟩ (.string x3)) from below_set (below_set (below_set (below_set HB.out GE.out) GE.out) GE.out) GE.out)
          have n5_ := Aside0.mk (show Kd.R k36 36 ((((w7.setCell ⟨ge, 0, none⟩ (.string x0)).setCell ⟨ge, 1, none⟩ (.int .i64 x1)).setCell ⟨ge, 2, none⟩ (.bool x2)).setCell ⟨ge, 3, none⟩ (.string x3)) w.heap.size (fun k_ => True ∧ k_ ≠ ge) (.slice Ao acc.length co) acc from Kd.R_far (Kd.R_far (Kd.R_far (Kd.R_far (HRO.out) (p := ⟨ge, 0, none⟩) (fun _ hk => hk.2) _) (p := ⟨ge, 1, none⟩) (fun _ hk => hk.2) _) (p := ⟨ge, 2, none⟩) (fun _ hk => hk.2) _) (p := ⟨ge, 3, none⟩) (fun _ hk => hk.2) _)
          clear BE BL BX BR HB HR HRO b1 b2 b3 b4 hc0 hc1 hc2 hc3 hf0 hf1 hf2 hf3
          generalize ((((w7.setCell ⟨ge, 0, none⟩ (.string x0)).setCell ⟨ge, 1, none⟩ (.int .i64 x1)).setCell ⟨ge, 2, none⟩ (.bool x2)).setCell ⟨ge, 3, none⟩ (.string x3)) = wF at n0_ n1_ n2_ n3_ n4_ n5_ ⊢
          have BE := n0_; have BL := n1_; have BX := n2_; have BR := n3_; have HB := n4_; have HR := Aside0.mk (Kd.R_mono n5_.out (fun _ _ => trivial)); clear n0_ n1_ n2_ n3_ n4_ n5_
          refine start_ (n := 8) (S := fun w' => w'.cell? ⟨ge, 0, none⟩ = some (.string x0) ∧ w'.cell? ⟨ge, 1, none⟩ = some (.int .i64 x1) ∧ w'.cell? ⟨ge, 2, none⟩ = some (.bool x2) ∧ w'.cell? ⟨ge, 3, none⟩ = some (.string x3)) (ds := []) #[false, false, false, false, false, false, false, false] (by kernel_rfl) rfl rfl ⟨(Zc BE.out 0).trans rfl, (Zc BE.out 1).trans rfl, (Zc BE.out 2).trans rfl, (Zc BE.out 3).trans rfl⟩ (fun hHeld => ?_)
          have n0_ := Aside0.mk (Zd BE.out); have n1_ := Aside0.mk (Zd BL.out); have n2_ := Aside0.mk (Zd BX.out); have n3_ := Aside0.mk (show RBox gr rest wF.drew from BR.out); have n4_ := Aside0.mk (Yd HB.out); have n5_ := Aside0.mk (Kd.R_drew HR.out)
          clear BE BL BX BR HB HR
          generalize wF.drew = wG at n0_ n1_ n2_ n3_ n4_ n5_ hHeld ⊢
          have BE := n0_; have BL := n1_; have BX := n2_; have BR := n3_; have HB := n4_; have HR := n5_; clear n0_ n1_ n2_ n3_ n4_ n5_
          obtain ⟨hcl, hfl⟩ := Zk1 BL
          refine take_ (i := 1) (N := some 22) (v := ?_) (a' := ?_) #[false, true, false, false, false, false, false, false] rfl rfl (by kernel_rfl) (fun c_ a_ w_ h_ => decode_hQ 22 (by decide) (by decide) _ c_ a_ w_ h_) (Or.inl ⟨by rfl, ?_⟩) hHeld ?_ ?_; rotate_left; (focus rintro w' ⟨s1, s2, s3, s4⟩; go_simp; with_reducible rfl); rotate_left; (focus simp only [Act.put, List.setIfInBounds_toArray, List.set_cons_zero, List.set_cons_succ, i64_w, i32_w]; rfl)
          refine pure_ (i := 4) (N := some 25) (v := ?_) (a' := ?_) #[false, true, false, false, true, false, false, false] rfl rfl (by kernel_rfl) (fun c_ a_ w_ h_ => decode_hQ 25 (by decide) (by decide) _ c_ a_ w_ h_) (Or.inl ⟨by rfl, ?_⟩) ?_ ?_; rotate_left; (focus intro w'; go_simp; with_reducible rfl); rotate_left; (focus simp only [Act.put, List.setIfInBounds_toArray, List.set_cons_zero, List.set_cons_succ, i64_w, i32_w]; rfl)
          refine take_ (i := 5) (N := some 26) (v := ?_) (a' := ?_) #[false, true, false, false, true, true, false, false] rfl rfl (by kernel_rfl) (fun c_ a_ w_ h_ => decode_hQ 26 (by decide) (by decide) _ c_ a_ w_ h_) (Or.inl ⟨by rfl, ?_⟩) hHeld ?_ ?_; rotate_left; (focus rintro w' ⟨s1, s2, s3, s4⟩; go_simp; with_reducible rfl); rotate_left; (focus simp only [Act.put, List.setIfInBounds_toArray, List.set_cons_zero, List.set_cons_succ, i64_w, i32_w]; rfl)
          refine two_ (i := 0) (j := 2) (Ni := some 21) (Nj := some 23) #[true, true, false, false, true, true, false, false] #[false, true, true, false, true, true, false, false] rfl rfl rfl rfl (by kernel_rfl) (by decide) (by decide) (fun K hK => ?_) (fun K hK => ?_)
          · refine value_ (w1 := ?_) (v := ?_) (by rfl) rfl ?_ ?_
            rotate_left 2
            · go_simp
              first | (constructor <;> rfl) | rfl
            refine hK.out _ _ ⟨(Zc BE.out 0).trans rfl, (Zc BE.out 1).trans rfl, (Zc BE.out 2).trans rfl, (Zc BE.out 3).trans rfl⟩ (fun hHeld => ?_)
            clear hK K
            refine norm_ (a' := ?_) ?_ ?_
            rotate_left
            · show Act.put _ (some 21) _ = _
              simp only [Act.put, List.setIfInBounds_toArray, List.set_cons_zero, List.set_cons_succ, i64_w, i32_w]
              rfl
            refine one_ (i := 2) (N := some 23) #[true, true, true, false, true, true, false, false] rfl rfl (by kernel_rfl) (by decide) (fun K hK => ?_)
            refine value_ (w1 := ?_) (v := ?_) (by rfl) rfl ?_ ?_
            rotate_left 2
            · go_simp
              constructor
              · rfl
              · rfl
            refine hK.out _ _ ⟨(Zc (Za BE.out _) 0).trans rfl, (Zc (Za BE.out _) 1).trans rfl, (Zc (Za BE.out _) 2).trans rfl, (Zc (Za BE.out _) 3).trans rfl⟩ (fun hHeld => ?_)
            clear hK K
            refine norm_ (a' := ?_) ?_ ?_
            rotate_left
            · show Act.put _ (some 23) _ = _
              simp only [Act.put, List.setIfInBounds_toArray, List.set_cons_zero, List.set_cons_succ, i64_w, i32_w]
              rfl
            refine one_ (i := 3) (N := some 24) #[true, true, true, true, true, true, false, false] rfl rfl (by kernel_rfl) (by decide) (fun K hK => ?_)
            refine Kd.R_append_step k36 (w0 := w) w.heap.size (by rfl) (.tmp 21) (.tmp 23) 22 36 (.agg #[(.string ⟨#[]⟩), (.int .i64 0), (.bool false), (.string ⟨#[]⟩)]) 48 rfl Try.underlying22 info36 rfl (by decide) (by omega) (.slice Ao acc.length co) acc (⟨x0, x1, x2, x3⟩ : S36) [.string x0, .int .i64 x1, .bool x2, .string x3] (fun _ => True) (fun _ => False) rfl rfl ?aP (fun _ hk => hk.elim) ?aF ?aO ?aB ?aS ?aL ?_
            case aP => exact k36_mkM _ _ _ (⟨x0, x1, x2, x3⟩ : S36)
            case aF => exact (fun _ _ => trivial)
            case aO => exact HR.out
            case aB => exact HB.out
            case aS => exact below_size HB.out
            case aL => have := HL.out; have := HN2.out; omega
            intro v1 w24 ho hb hg hat
            have n0_ := Aside0.mk (blk_grown (g := ge) BE.out hg HNE.out); have n1_ := Aside0.mk (blk_grown (g := gl) BL.out hg (Kd.R_ne HR.out BL.out (by decide))); have n2_ := Aside0.mk (blk_grown (g := gx) BX.out hg (Kd.R_ne HR.out BX.out (by decide))); have n3_ := Aside0.mk (show RBox gr rest w24 from blk_grown (g := gr) BR.out hg (Kd.R_ne HR.out BR.out (by decide))); have n4_ := Aside0.mk hb; have n5_ := Aside0.mk ho
            clear BE BL BX BR HB HR
            have BE := n0_; have BL := n1_; have BX := n2_; have BR := n3_; have HB := n4_; have HR := n5_
            clear n0_ n1_ n2_ n3_ n4_ n5_ ho hb hg hat
            obtain ⟨Ap, cp, ep⟩ := Kd.R_slice HR.out
            rw [show (acc ++ [(⟨x0, x1, x2, x3⟩ : S36)]).length = acc.length + 1 by simp] at ep
            subst ep
            clear hcl hfl
            obtain ⟨hcl, hfl⟩ := Zk1 BL
            refine hK.out _ _ ⟨(Zc BE.out 0).trans rfl, (Zc BE.out 1).trans rfl, (Zc BE.out 2).trans rfl, (Zc BE.out 3).trans rfl⟩ (fun hHeld => ?_)
            clear hK K
            refine norm_ (a' := ?_) ?_ ?_
            rotate_left
            · show Act.put _ (some 24) _ = _
              simp only [Act.put, List.setIfInBounds_toArray, List.set_cons_zero, List.set_cons_succ, i64_w, i32_w]
              rfl
            refine one_ (i := 6) (N := none) #[true, true, true, true, true, true, true, false] rfl rfl (by kernel_rfl) (by decide) (fun K hK => ?_)
            refine skip_ (w1 := ?_) (by rfl) rfl ?_ ?_
            rotate_left
            · go_simp
              rfl
            have n0_ := Aside0.mk ((Below.heap_setCell w24 ⟨gl, 0, none⟩ (.slice Ap (acc.length + 1) cp) ge NLE.out.symm).trans BE.out)
            refine hK.out _ _ ⟨(Zc n0_.out 0).trans rfl, (Zc n0_.out 1).trans rfl, (Zc n0_.out 2).trans rfl, (Zc n0_.out 3).trans rfl⟩ (fun hHeld => ?_)
            clear hK K n0_
            refine norm_ (a' := ?_) ?_ ?_
            rotate_left
            · show Act.put _ none undef = _
              simp only [Act.put]
              rfl
            refine pure_ (i := 7) (N := some 6) (v := ?_) (a' := ?_) #[true, true, true, true, true, true, true, true] rfl rfl (by kernel_rfl) (fun c_ a_ w_ h_ => decode_hQ 6 (by decide) (by decide) _ c_ a_ w_ h_) (Or.inl ⟨by rfl, ?_⟩) ?_ ?_; rotate_left; (focus intro w'; go_simp; with_reducible rfl); rotate_left; (focus simp only [Act.put, List.setIfInBounds_toArray, List.set_cons_zero, List.set_cons_succ, i64_w, i32_w]; rfl)
            refine done_ (by kernel_rfl) ?_
            go_wp2
            go_roundg m
            case measure => omega
            case rel => exact ⟨wrap64 (i + 1), rest, x0, acc ++ [⟨x0, x1, x2, x3⟩], .slice Ap (acc.length + 1) cp, (by first | rfl | (simp; done)), (by first | rfl | (simp; done)), ⟨by have := HI.out; have := HN2.out; unfold wrap64; omega⟩, HD2, ⟨by have := HL.out; rw [List.length_append, List.length_cons, List.length_nil]; omega⟩, ⟨Kd.R_set HR.out BL.out (by decide) 0 _⟩, ⟨(Below.heap_setCell _ ⟨gl, 0, none⟩ _ gr NLR.out.symm).trans BR.out⟩, ⟨blk_put (cs := #[.slice Ao acc.length co]) BL.out 0 _ rfl⟩, ⟨(Below.heap_setCell _ ⟨gl, 0, none⟩ _ gx NLX.out.symm).trans BX.out⟩, ⟨below_set HB.out GL.out⟩⟩
          · refine value_ (w1 := ?_) (v := ?_) (by rfl) rfl ?_ ?_
            rotate_left 2
            · go_simp
              constructor
              · rfl
              · rfl
            refine hK.out _ _ ⟨(Zc (Za BE.out _) 0).trans rfl, (Zc (Za BE.out _) 1).trans rfl, (Zc (Za BE.out _) 2).trans rfl, (Zc (Za BE.out _) 3).trans rfl⟩ (fun hHeld => ?_)
            clear hK K
            refine norm_ (a' := ?_) ?_ ?_
            rotate_left
            · show Act.put _ (some 23) _ = _
              simp only [Act.put, List.setIfInBounds_toArray, List.set_cons_zero, List.set_cons_succ, i64_w, i32_w]
              rfl
            have hcA := (Zc (Za BL.out (.cells #[.string x0, .int .i64 x1, .bool x2, .string x3] 36)) 0).trans (rfl : (#[Value.slice Ao acc.length co])[0]? = _)
            refine one_ (i := 0) (N := some 21) #[true, true, true, false, true, true, false, false] rfl rfl (by kernel_rfl) (by decide) (fun K hK => ?_)
            refine value_ (w1 := ?_) (v := ?_) (by rfl) rfl ?_ ?_
            rotate_left 2
            · go_simp
              first | (constructor <;> rfl) | rfl
            refine hK.out _ _ ⟨(Zc (Za BE.out _) 0).trans rfl, (Zc (Za BE.out _) 1).trans rfl, (Zc (Za BE.out _) 2).trans rfl, (Zc (Za BE.out _) 3).trans rfl⟩ (fun hHeld => ?_)
            clear hK K
            refine norm_ (a' := ?_) ?_ ?_
            rotate_left
            · show Act.put _ (some 21) _ = _
              simp only [Act.put, List.setIfInBounds_toArray, List.set_cons_zero, List.set_cons_succ, i64_w, i32_w]
              rfl
            clear hcA
            refine one_ (i := 3) (N := some 24) #[true, true, true, true, true, true, false, false] rfl rfl (by kernel_rfl) (by decide) (fun K hK => ?_)
            refine Kd.R_append_step k36 (w0 := w) w.heap.size (by rfl) (.tmp 21) (.tmp 23) 22 36 (.agg #[(.string ⟨#[]⟩), (.int .i64 0), (.bool false), (.string ⟨#[]⟩)]) 48 rfl Try.underlying22 info36 rfl (by decide) (by omega) (.slice Ao acc.length co) acc (⟨x0, x1, x2, x3⟩ : S36) [.string x0, .int .i64 x1, .bool x2, .string x3] (fun _ => True) (fun _ => False) rfl rfl ?aP (fun _ hk => hk.elim) ?aF ?aO ?aB ?aS ?aL ?_
            case aP => exact k36_mkM _ _ _ (⟨x0, x1, x2, x3⟩ : S36)
            case aF => exact (fun _ _ => trivial)
            case aO => exact HR.out
            case aB => exact HB.out
            case aS => exact below_size HB.out
            case aL => have := HL.out; have := HN2.out; omega
            intro v1 w24 ho hb hg hat
            have n0_ := Aside0.mk (blk_grown (g := ge) BE.out hg HNE.out); have n1_ := Aside0.mk (blk_grown (g := gl) BL.out hg (Kd.R_ne HR.out BL.out (by decide))); have n2_ := Aside0.mk (blk_grown (g := gx) BX.out hg (Kd.R_ne HR.out BX.out (by decide))); have n3_ := Aside0.mk (show RBox gr rest w24 from blk_grown (g := gr) BR.out hg (Kd.R_ne HR.out BR.out (by decide))); have n4_ := Aside0.mk hb; have n5_ := Aside0.mk ho
            clear BE BL BX BR HB HR
            have BE := n0_; have BL := n1_; have BX := n2_; have BR := n3_; have HB := n4_; have HR := n5_
            clear n0_ n1_ n2_ n3_ n4_ n5_ ho hb hg hat
            obtain ⟨Ap, cp, ep⟩ := Kd.R_slice HR.out
            rw [show (acc ++ [(⟨x0, x1, x2, x3⟩ : S36)]).length = acc.length + 1 by simp] at ep
            subst ep
            clear hcl hfl
            obtain ⟨hcl, hfl⟩ := Zk1 BL
            refine hK.out _ _ ⟨(Zc BE.out 0).trans rfl, (Zc BE.out 1).trans rfl, (Zc BE.out 2).trans rfl, (Zc BE.out 3).trans rfl⟩ (fun hHeld => ?_)
            clear hK K
            refine norm_ (a' := ?_) ?_ ?_
            rotate_left
            · show Act.put _ (some 24) _ = _
              simp only [Act.put, List.setIfInBounds_toArray, List.set_cons_zero, List.set_cons_succ, i64_w, i32_w]
              rfl
            refine one_ (i := 6) (N := none) #[true, true, true, true, true, true, true, false] rfl rfl (by kernel_rfl) (by decide) (fun K hK => ?_)
            refine skip_ (w1 := ?_) (by rfl) rfl ?_ ?_
            rotate_left
            · go_simp
              rfl
            have n0_ := Aside0.mk ((Below.heap_setCell w24 ⟨gl, 0, none⟩ (.slice Ap (acc.length + 1) cp) ge NLE.out.symm).trans BE.out)
            refine hK.out _ _ ⟨(Zc n0_.out 0).trans rfl, (Zc n0_.out 1).trans rfl, (Zc n0_.out 2).trans rfl, (Zc n0_.out 3).trans rfl⟩ (fun hHeld => ?_)
            clear hK K n0_
            refine norm_ (a' := ?_) ?_ ?_
            rotate_left
            · show Act.put _ none undef = _
              simp only [Act.put]
              rfl
            refine pure_ (i := 7) (N := some 6) (v := ?_) (a' := ?_) #[true, true, true, true, true, true, true, true] rfl rfl (by kernel_rfl) (fun c_ a_ w_ h_ => decode_hQ 6 (by decide) (by decide) _ c_ a_ w_ h_) (Or.inl ⟨by rfl, ?_⟩) ?_ ?_; rotate_left; (focus intro w'; go_simp; with_reducible rfl); rotate_left; (focus simp only [Act.put, List.setIfInBounds_toArray, List.set_cons_zero, List.set_cons_succ, i64_w, i32_w]; rfl)
            refine done_ (by kernel_rfl) ?_
            go_wp2
            go_roundg m
            case measure => omega
            case rel => exact ⟨wrap64 (i + 1), rest, x0, acc ++ [⟨x0, x1, x2, x3⟩], .slice Ap (acc.length + 1) cp, (by first | rfl | (simp; done)), (by first | rfl | (simp; done)), ⟨by have := HI.out; have := HN2.out; unfold wrap64; omega⟩, HD2, ⟨by have := HL.out; rw [List.length_append, List.length_cons, List.length_nil]; omega⟩, ⟨Kd.R_set HR.out BL.out (by decide) 0 _⟩, ⟨(Below.heap_setCell _ ⟨gl, 0, none⟩ _ gr NLR.out.symm).trans BR.out⟩, ⟨blk_put (cs := #[.slice Ao acc.length co]) BL.out 0 _ rfl⟩, ⟨(Below.heap_setCell _ ⟨gl, 0, none⟩ _ gx NLX.out.symm).trans BX.out⟩, ⟨below_set HB.out GL.out⟩⟩
end Go.Proofs.Ytbdkfmhkgeoeaaa.Print
