/- Contracts proved by hand: see the theorems' own lines. -/
import Derived.Test.YtnmlnngmfagmfaaHPackReadNum
import Derived.Test.YtnmlnngmfagmfaaPrint0
import Derived.Test.YtnmlnngmfagmfaaPrint5
import Derived.Test.YtnmlnngmfagmfaaPrint6
import Derived.Test.YtnmlnngmfagmfaaXGoto
namespace Go.Proofs.Ytnmlnngmfagmfaa.Print
open Go.RowKit Go.Proofs.YtnmlnngmfagmfaaW.PrintWords Go.Proofs.YtnmlnngmfagmfaaW.PrintLast Go.Proofs.YtnmlnngmfagmfaaW.PrintMore Go.Proofs.YtnmlnngmfagmfaaX
set_option linter.unusedVariables false
set_option linter.unusedSimpArgs false

/-- One number more, where no error has come up. -/
def nextNum (rest : ByteArray) (err : Option Int) : Int × ByteArray × Option Int :=
  match err with
  | none => readNum rest
  | some e => (0, rest, some e)
/-- So many steps. -/
def decR : Nat → ByteArray → Option Int → List S43 → ByteArray × Option Int × List S43
  | 0, rest, err, l => (rest, err, l)
  | m + 1, rest, err, l => decR m (nextNum (nextNum rest err).2.1 (nextNum rest err).2.2).2.1 (nextNum (nextNum rest err).2.1 (nextNum rest err).2.2).2.2 (l ++ [⟨(nextNum rest err).1, (nextNum (nextNum rest err).2.1 (nextNum rest err).2.2).1⟩])
/-- A definition of bytes. -/
def define_Decode.f (a0 : ByteArray) : Option (ByteArray × List S43 × Option Int) :=
  (pack_ReadText.f a0).bind fun t => if t.2.2.isNone = true then
      (if (nextNum t.2.1 none).2.2.isNone = true ∧ 0 ≤ (nextNum t.2.1 none).1 ∧ (nextNum t.2.1 none).1 ≤ 6 then
        (define_Encode.f 100 t.1 (decR (nextNum t.2.1 none).1.toNat (nextNum t.2.1 none).2.1 none []).2.2).bind fun e =>
          (if (decR (nextNum t.2.1 none).1.toNat (nextNum t.2.1 none).2.1 none []).2.1.isNone = true ∧ e.2.isNone = true ∧ e.1.toList = a0.toList then some (t.1, (decR (nextNum t.2.1 none).1.toNat (nextNum t.2.1 none).2.1 none []).2.2, none) else some (⟨#[]⟩, [], some 3))
      else (if (nextNum t.2.1 none).2.2.isNone = true ∧ (nextNum t.2.1 none).1 < 0 then none else some (⟨#[]⟩, [], some 3)))
    else some (⟨#[]⟩, [], some 3)

/-- What a call of the closure leaves. -/
structure NumW (ge gr : Nat) (R' : ByteArray) (E' : Option Int) (w w' : World) : Prop where
  e_ : w'.heap[ge]? = some (.cells #[errW E'] 31 (0, 0))
  r_ : w'.heap[gr]? = some (.cells #[.string R'] 9 (0, 0))
  k_ : ∀ g o, g ≠ ge → g ≠ gr → w.heap[g]? = some o → w'.heap[g]? = some o
  b_ : ∀ (w0 : World), Below w0.heap.size w0 w → w0.heap.size ≤ ge → w0.heap.size ≤ gr → Below w0.heap.size w0 w'
  o_ : ∀ (base : Nat) (v : Value) (xs : List S43), Kd.R k43 43 w base (fun _ => True) v xs → Kd.R k43 43 w' base (fun _ => True) v xs

set_option maxHeartbeats 4000000 in
set_option maxRecDepth 100000 in
theorem define_num.calls (ge gr : Nat) (E : Option Int) (R : ByteArray) (n : Int) (R' : ByteArray) (E' : Option Int) (w : World) (hne : ge ≠ gr) (h : nextNum R E = (n, R', E')) (he : w.heap[ge]? = some (.cells #[errW E] 31 (0, 0))) (hr : w.heap[gr]? = some (.cells #[.string R] 9 (0, 0))) :
    Calls Try.prog 27 #[.pointer (some ⟨ge, 0, none⟩), .pointer (some ⟨gr, 0, none⟩)] w fun e w' => e = .returned (.int .i64 n) ∧ NumW ge gr R' E' w w' := by
  have BE := Aside0.mk he
  have BR := Aside0.mk hr
  have q1 := hne
  have q2 := hne.symm
  have NE := Aside0.mk hne
  have NR := Aside0.mk hne.symm
  clear he hr
  cases E with
  | none =>
    have HH : pack_ReadNum.f R = some (n, R', E') := congrArg some h
    have HT := Aside0.mk HH
    clear HH h
    cases E' with
    | none =>
      obtain ⟨hce, hfe⟩ := Zk1 BE
      obtain ⟨hcr, hfr⟩ := Zk1 BR
      simp only [errW_none] at hce
      go_enter Try.func27, Try.ntmps27
      go_wp2_with (first | (go_at_call 28; (with_reducible refine (pack_ReadNum.calls R n R' _ _ HT.out).mono ?_); rintro e w1 ⟨rfl, hb⟩; have HW := Aside0.mk hb; have n0_ := Aside0.mk (Zv BE hb); have n1_ := Aside0.mk (Zv BR hb); have BE0 := BE; have BR0 := BR; clear BE BR; have BE := n0_; have BR := n1_; clear n0_ n1_ hb; obtain ⟨hce1, hfe1⟩ := Zk1 BE; obtain ⟨hcr1, hfr1⟩ := Zk1 BR; simp only [errW_none, errW_some]))
      go_ret
      refine ⟨rfl, ?_, ?_, ?_, ?_, ?_⟩
      · refine Zp (cs := #[errW none]) ?_ 0 _ rfl
        refine Zq ?_ q1 _
        exact BE.out
      · refine Zq ?_ q2 _
        refine Zp (cs := #[.string R]) ?_ 0 _ rfl
        exact BR.out
      · intro g o h1 h2 hg
        exact (Below.heap_setCell _ _ _ _ h1).trans ((Below.heap_setCell _ _ _ _ h2).trans (blk_below hg HW.out))
      · intro w0 hB h1 h2
        have h3 := below_step hB HW.out
        exact Ys (Ys h3 h2) h1
      · intro base v xs hR
        have h1 := Kd.R_below hR HW.out
        exact Kd.R_mono (Kd.R_far (p := ⟨ge, 0, none⟩) (Kd.R_far (p := ⟨gr, 0, none⟩) (Kd.R_types (Kd.R_types h1 BR.out (by decide)) BE.out (by decide)) (fun _ hk => hk.1.2) (.string R')) (fun _ hk => hk.2) _) (fun _ hk => trivial)
    | some e1 =>
      obtain ⟨hce, hfe⟩ := Zk1 BE
      obtain ⟨hcr, hfr⟩ := Zk1 BR
      simp only [errW_none] at hce
      go_enter Try.func27, Try.ntmps27
      go_wp2_with (first | (go_at_call 28; (with_reducible refine (pack_ReadNum.calls R n R' _ _ HT.out).mono ?_); rintro e w1 ⟨rfl, hb⟩; have HW := Aside0.mk hb; have n0_ := Aside0.mk (Zv BE hb); have n1_ := Aside0.mk (Zv BR hb); have BE0 := BE; have BR0 := BR; clear BE BR; have BE := n0_; have BR := n1_; clear n0_ n1_ hb; obtain ⟨hce1, hfe1⟩ := Zk1 BE; obtain ⟨hcr1, hfr1⟩ := Zk1 BR; simp only [errW_none, errW_some]))
      go_ret
      refine ⟨rfl, ?_, ?_, ?_, ?_, ?_⟩
      · refine Zp (cs := #[errW none]) ?_ 0 _ rfl
        refine Zq ?_ q1 _
        exact BE.out
      · refine Zq ?_ q2 _
        refine Zp (cs := #[.string R]) ?_ 0 _ rfl
        exact BR.out
      · intro g o h1 h2 hg
        exact (Below.heap_setCell _ _ _ _ h1).trans ((Below.heap_setCell _ _ _ _ h2).trans (blk_below hg HW.out))
      · intro w0 hB h1 h2
        have h3 := below_step hB HW.out
        exact Ys (Ys h3 h2) h1
      · intro base v xs hR
        have h1 := Kd.R_below hR HW.out
        exact Kd.R_mono (Kd.R_far (p := ⟨ge, 0, none⟩) (Kd.R_far (p := ⟨gr, 0, none⟩) (Kd.R_types (Kd.R_types h1 BR.out (by decide)) BE.out (by decide)) (fun _ hk => hk.1.2) (.string R')) (fun _ hk => hk.2) _) (fun _ hk => trivial)
  | some e0 =>
    obtain ⟨rfl, rfl, rfl⟩ : (0 : Int) = n ∧ R = R' ∧ some e0 = E' := by
      have h2 : ((0 : Int), R, some e0) = (n, R', E') := h
      simpa using h2
    obtain ⟨hce, hfe⟩ := Zk1 BE
    obtain ⟨hcr, hfr⟩ := Zk1 BR
    simp only [errW_some] at hce
    clear h
    go_enter Try.func27, Try.ntmps27
    go_wp2
    go_ret
    exact ⟨rfl, BE.out, BR.out, fun _ _ _ _ h => h, fun _ h _ _ => h, fun _ _ _ h => h⟩

set_option maxHeartbeats 4000000 in
set_option maxRecDepth 100000 in
theorem define_Decode.way1 (a0 : ByteArray) (t1 t2 : ByteArray) (e0 : Int) (HT : Aside0 (pack_ReadText.f a0 = some (t1, t2, some e0))) (w : World) :
    Calls Try.prog 18 #[.string a0] w fun e w' => ∃ v1_ : Value, e = .returned (.tuple #[.agg #[.string (⟨#[]⟩ : ByteArray), v1_], errW (some 3)]) ∧ Kd.R k43 43 w' w.heap.size (fun _ => True) v1_ [] ∧ Below w.heap.size w w' := by
    have hu24 := Try.underlying24
    have hu22 := Try.underlying22
    have hu43 := Try.underlying43
    have HB := Aside0.mk (Below.refl w.heap.size w)
    go_enter Try.func18, Try.ntmps18
    go_wp2_with (first | ((with_reducible refine gate_dst (N := 2) rfl ?_); refine box_event ?hg (N := 2) ?hd (cs := #[.string (⟨#[]⟩ : ByteArray), .slice none 0 0]) (t := 24) ?hr ?_; (case hd => rfl); (case hg => rfl); (case hr => first | (go_simp; done) | (go_simp; rfl)); intro g2 hg w2 hbox hb; have n0_ := Aside0.mk (Yv HB hb); have BK2 := Aside0.mk hbox; have GE2 := Aside0.mk (Yg HB hg); clear HB; have HB := n0_; clear n0_; clear hb hbox hg) | ((with_reducible refine gate_dst (N := 4) rfl ?_); refine box_event ?hg (N := 4) ?hd (cs := #[.string (⟨#[]⟩ : ByteArray), .slice none 0 0]) (t := 24) ?hr ?_; (case hd => rfl); (case hg => rfl); (case hr => first | (go_simp; done) | (go_simp; rfl)); intro g4 hg w4 hbox hb; have n0_ := Aside0.mk (Yv HB hb); have n1_ := Aside0.mk (Zv BK2 hb); have BK4 := Aside0.mk hbox; have GE4 := Aside0.mk (Yg HB hg); have NB24 := Aside0.mk (Zl BK2 hg); have NB42 := Aside0.mk (Zg BK2 hg); clear HB BK2; have HB := n0_; have BK2 := n1_; clear n0_ n1_; clear hb hbox hg) | ((with_reducible refine gate_dst (N := 5) rfl ?_); refine box_event ?hg (N := 5) ?hd (cs := #[.string (⟨#[]⟩ : ByteArray)]) (t := 9) ?hr ?_; (case hd => rfl); (case hg => rfl); (case hr => first | (go_simp; done) | (go_simp; rfl)); intro g5 hg w5 hbox hb; have n0_ := Aside0.mk (Yv HB hb); have n1_ := Aside0.mk (Zv BK2 hb); have n2_ := Aside0.mk (Zv BK4 hb); have BK5 := Aside0.mk hbox; have GE5 := Aside0.mk (Yg HB hg); have NB25 := Aside0.mk (Zl BK2 hg); have NB52 := Aside0.mk (Zg BK2 hg); have NB45 := Aside0.mk (Zl BK4 hg); have NB54 := Aside0.mk (Zg BK4 hg); clear HB BK2 BK4; have HB := n0_; have BK2 := n1_; have BK4 := n2_; clear n0_ n1_ n2_; clear hb hbox hg) | ((with_reducible refine gate_dst (N := 6) rfl ?_); refine box_event ?hg (N := 6) ?hd (cs := #[.nilIface]) (t := 31) ?hr ?_; (case hd => rfl); (case hg => rfl); (case hr => first | (go_simp; done) | (go_simp; rfl)); intro g6 hg w6 hbox hb; have n0_ := Aside0.mk (Yv HB hb); have n1_ := Aside0.mk (Zv BK2 hb); have n2_ := Aside0.mk (Zv BK4 hb); have n3_ := Aside0.mk (Zv BK5 hb); have BK6 := Aside0.mk hbox; have GE6 := Aside0.mk (Yg HB hg); have NB26 := Aside0.mk (Zl BK2 hg); have NB62 := Aside0.mk (Zg BK2 hg); have NB46 := Aside0.mk (Zl BK4 hg); have NB64 := Aside0.mk (Zg BK4 hg); have NB56 := Aside0.mk (Zl BK5 hg); have NB65 := Aside0.mk (Zg BK5 hg); clear HB BK2 BK4 BK5; have HB := n0_; have BK2 := n1_; have BK4 := n2_; have BK5 := n3_; clear n0_ n1_ n2_ n3_; clear hb hbox hg) | (go_at_call 29; (with_reducible refine (pack_ReadText.calls a0 t1 t2 (some e0) _ HT.out).mono ?_); rintro e w7 ⟨rfl, hb⟩; have n0_ := Aside0.mk (Yv HB hb); have n1_ := Aside0.mk (Zv BK2 hb); have n2_ := Aside0.mk (Zv BK4 hb); have n3_ := Aside0.mk (Zv BK5 hb); have n4_ := Aside0.mk (Zv BK6 hb); clear HB BK2 BK4 BK5 BK6; have HB := n0_; have BK2 := n1_; have BK4 := n2_; have BK5 := n3_; have BK6 := n4_; clear n0_ n1_ n2_ n3_ n4_; clear hb; obtain ⟨⟨hc20, hc21⟩, hf20, hf21⟩ := Zk2 BK2; obtain ⟨⟨hc40, hc41⟩, hf40, hf41⟩ := Zk2 BK4; obtain ⟨hc5, hf5⟩ := Zk1 BK5; obtain ⟨hc6, hf6⟩ := Zk1 BK6; have q1 := NB24.out; have q2 := NB42.out; have q3 := NB25.out; have q4 := NB52.out; have q5 := NB26.out; have q6 := NB62.out; have q7 := NB45.out; have q8 := NB54.out; have q9 := NB46.out; have q10 := NB64.out; have q11 := NB56.out; have q12 := NB65.out; simp only [errW_some]))
    refine wp_scope_fwd 0 (by rfl) ?_
    go_wp2_with (first | ((with_reducible refine gate_dst (N := 2) rfl ?_); refine box_event ?hg (N := 2) ?hd (cs := #[.string (⟨#[]⟩ : ByteArray), .slice none 0 0]) (t := 24) ?hr ?_; (case hd => rfl); (case hg => rfl); (case hr => first | (go_simp; done) | (go_simp; rfl)); intro g2 hg w2 hbox hb; have n0_ := Aside0.mk (Yv HB hb); have BK2 := Aside0.mk hbox; have GE2 := Aside0.mk (Yg HB hg); clear HB; have HB := n0_; clear n0_; clear hb hbox hg) | ((with_reducible refine gate_dst (N := 4) rfl ?_); refine box_event ?hg (N := 4) ?hd (cs := #[.string (⟨#[]⟩ : ByteArray), .slice none 0 0]) (t := 24) ?hr ?_; (case hd => rfl); (case hg => rfl); (case hr => first | (go_simp; done) | (go_simp; rfl)); intro g4 hg w4 hbox hb; have n0_ := Aside0.mk (Yv HB hb); have n1_ := Aside0.mk (Zv BK2 hb); have BK4 := Aside0.mk hbox; have GE4 := Aside0.mk (Yg HB hg); have NB24 := Aside0.mk (Zl BK2 hg); have NB42 := Aside0.mk (Zg BK2 hg); clear HB BK2; have HB := n0_; have BK2 := n1_; clear n0_ n1_; clear hb hbox hg) | ((with_reducible refine gate_dst (N := 5) rfl ?_); refine box_event ?hg (N := 5) ?hd (cs := #[.string (⟨#[]⟩ : ByteArray)]) (t := 9) ?hr ?_; (case hd => rfl); (case hg => rfl); (case hr => first | (go_simp; done) | (go_simp; rfl)); intro g5 hg w5 hbox hb; have n0_ := Aside0.mk (Yv HB hb); have n1_ := Aside0.mk (Zv BK2 hb); have n2_ := Aside0.mk (Zv BK4 hb); have BK5 := Aside0.mk hbox; have GE5 := Aside0.mk (Yg HB hg); have NB25 := Aside0.mk (Zl BK2 hg); have NB52 := Aside0.mk (Zg BK2 hg); have NB45 := Aside0.mk (Zl BK4 hg); have NB54 := Aside0.mk (Zg BK4 hg); clear HB BK2 BK4; have HB := n0_; have BK2 := n1_; have BK4 := n2_; clear n0_ n1_ n2_; clear hb hbox hg) | ((with_reducible refine gate_dst (N := 6) rfl ?_); refine box_event ?hg (N := 6) ?hd (cs := #[.nilIface]) (t := 31) ?hr ?_; (case hd => rfl); (case hg => rfl); (case hr => first | (go_simp; done) | (go_simp; rfl)); intro g6 hg w6 hbox hb; have n0_ := Aside0.mk (Yv HB hb); have n1_ := Aside0.mk (Zv BK2 hb); have n2_ := Aside0.mk (Zv BK4 hb); have n3_ := Aside0.mk (Zv BK5 hb); have BK6 := Aside0.mk hbox; have GE6 := Aside0.mk (Yg HB hg); have NB26 := Aside0.mk (Zl BK2 hg); have NB62 := Aside0.mk (Zg BK2 hg); have NB46 := Aside0.mk (Zl BK4 hg); have NB64 := Aside0.mk (Zg BK4 hg); have NB56 := Aside0.mk (Zl BK5 hg); have NB65 := Aside0.mk (Zg BK5 hg); clear HB BK2 BK4 BK5; have HB := n0_; have BK2 := n1_; have BK4 := n2_; have BK5 := n3_; clear n0_ n1_ n2_ n3_; clear hb hbox hg) | (go_at_call 29; (with_reducible refine (pack_ReadText.calls a0 t1 t2 (some e0) _ HT.out).mono ?_); rintro e w7 ⟨rfl, hb⟩; have n0_ := Aside0.mk (Yv HB hb); have n1_ := Aside0.mk (Zv BK2 hb); have n2_ := Aside0.mk (Zv BK4 hb); have n3_ := Aside0.mk (Zv BK5 hb); have n4_ := Aside0.mk (Zv BK6 hb); clear HB BK2 BK4 BK5 BK6; have HB := n0_; have BK2 := n1_; have BK4 := n2_; have BK5 := n3_; have BK6 := n4_; clear n0_ n1_ n2_ n3_ n4_; clear hb; obtain ⟨⟨hc20, hc21⟩, hf20, hf21⟩ := Zk2 BK2; obtain ⟨⟨hc40, hc41⟩, hf40, hf41⟩ := Zk2 BK4; obtain ⟨hc5, hf5⟩ := Zk1 BK5; obtain ⟨hc6, hf6⟩ := Zk1 BK6; have q1 := NB24.out; have q2 := NB42.out; have q3 := NB25.out; have q4 := NB52.out; have q5 := NB26.out; have q6 := NB62.out; have q7 := NB45.out; have q8 := NB54.out; have q9 := NB46.out; have q10 := NB64.out; have q11 := NB56.out; have q12 := NB65.out; simp only [errW_some]))
    repeat (go_quiet (first | ((with_reducible refine gate_dst (N := 2) rfl ?_); refine box_event ?hg (N := 2) ?hd (cs := #[.string (⟨#[]⟩ : ByteArray), .slice none 0 0]) (t := 24) ?hr ?_; (case hd => rfl); (case hg => rfl); (case hr => first | (go_simp; done) | (go_simp; rfl)); intro g2 hg w2 hbox hb; have n0_ := Aside0.mk (Yv HB hb); have BK2 := Aside0.mk hbox; have GE2 := Aside0.mk (Yg HB hg); clear HB; have HB := n0_; clear n0_; clear hb hbox hg) | ((with_reducible refine gate_dst (N := 4) rfl ?_); refine box_event ?hg (N := 4) ?hd (cs := #[.string (⟨#[]⟩ : ByteArray), .slice none 0 0]) (t := 24) ?hr ?_; (case hd => rfl); (case hg => rfl); (case hr => first | (go_simp; done) | (go_simp; rfl)); intro g4 hg w4 hbox hb; have n0_ := Aside0.mk (Yv HB hb); have n1_ := Aside0.mk (Zv BK2 hb); have BK4 := Aside0.mk hbox; have GE4 := Aside0.mk (Yg HB hg); have NB24 := Aside0.mk (Zl BK2 hg); have NB42 := Aside0.mk (Zg BK2 hg); clear HB BK2; have HB := n0_; have BK2 := n1_; clear n0_ n1_; clear hb hbox hg) | ((with_reducible refine gate_dst (N := 5) rfl ?_); refine box_event ?hg (N := 5) ?hd (cs := #[.string (⟨#[]⟩ : ByteArray)]) (t := 9) ?hr ?_; (case hd => rfl); (case hg => rfl); (case hr => first | (go_simp; done) | (go_simp; rfl)); intro g5 hg w5 hbox hb; have n0_ := Aside0.mk (Yv HB hb); have n1_ := Aside0.mk (Zv BK2 hb); have n2_ := Aside0.mk (Zv BK4 hb); have BK5 := Aside0.mk hbox; have GE5 := Aside0.mk (Yg HB hg); have NB25 := Aside0.mk (Zl BK2 hg); have NB52 := Aside0.mk (Zg BK2 hg); have NB45 := Aside0.mk (Zl BK4 hg); have NB54 := Aside0.mk (Zg BK4 hg); clear HB BK2 BK4; have HB := n0_; have BK2 := n1_; have BK4 := n2_; clear n0_ n1_ n2_; clear hb hbox hg) | ((with_reducible refine gate_dst (N := 6) rfl ?_); refine box_event ?hg (N := 6) ?hd (cs := #[.nilIface]) (t := 31) ?hr ?_; (case hd => rfl); (case hg => rfl); (case hr => first | (go_simp; done) | (go_simp; rfl)); intro g6 hg w6 hbox hb; have n0_ := Aside0.mk (Yv HB hb); have n1_ := Aside0.mk (Zv BK2 hb); have n2_ := Aside0.mk (Zv BK4 hb); have n3_ := Aside0.mk (Zv BK5 hb); have BK6 := Aside0.mk hbox; have GE6 := Aside0.mk (Yg HB hg); have NB26 := Aside0.mk (Zl BK2 hg); have NB62 := Aside0.mk (Zg BK2 hg); have NB46 := Aside0.mk (Zl BK4 hg); have NB64 := Aside0.mk (Zg BK4 hg); have NB56 := Aside0.mk (Zl BK5 hg); have NB65 := Aside0.mk (Zg BK5 hg); clear HB BK2 BK4 BK5; have HB := n0_; have BK2 := n1_; have BK4 := n2_; have BK5 := n3_; clear n0_ n1_ n2_ n3_; clear hb hbox hg) | (go_at_call 29; (with_reducible refine (pack_ReadText.calls a0 t1 t2 (some e0) _ HT.out).mono ?_); rintro e w7 ⟨rfl, hb⟩; have n0_ := Aside0.mk (Yv HB hb); have n1_ := Aside0.mk (Zv BK2 hb); have n2_ := Aside0.mk (Zv BK4 hb); have n3_ := Aside0.mk (Zv BK5 hb); have n4_ := Aside0.mk (Zv BK6 hb); clear HB BK2 BK4 BK5 BK6; have HB := n0_; have BK2 := n1_; have BK4 := n2_; have BK5 := n3_; have BK6 := n4_; clear n0_ n1_ n2_ n3_ n4_; clear hb; obtain ⟨⟨hc20, hc21⟩, hf20, hf21⟩ := Zk2 BK2; obtain ⟨⟨hc40, hc41⟩, hf40, hf41⟩ := Zk2 BK4; obtain ⟨hc5, hf5⟩ := Zk1 BK5; obtain ⟨hc6, hf6⟩ := Zk1 BK6; have q1 := NB24.out; have q2 := NB42.out; have q3 := NB25.out; have q4 := NB52.out; have q5 := NB26.out; have q6 := NB62.out; have q7 := NB45.out; have q8 := NB54.out; have q9 := NB46.out; have q10 := NB64.out; have q11 := NB56.out; have q12 := NB65.out; simp only [errW_some])); try go_wp2_with (first | ((with_reducible refine gate_dst (N := 2) rfl ?_); refine box_event ?hg (N := 2) ?hd (cs := #[.string (⟨#[]⟩ : ByteArray), .slice none 0 0]) (t := 24) ?hr ?_; (case hd => rfl); (case hg => rfl); (case hr => first | (go_simp; done) | (go_simp; rfl)); intro g2 hg w2 hbox hb; have n0_ := Aside0.mk (Yv HB hb); have BK2 := Aside0.mk hbox; have GE2 := Aside0.mk (Yg HB hg); clear HB; have HB := n0_; clear n0_; clear hb hbox hg) | ((with_reducible refine gate_dst (N := 4) rfl ?_); refine box_event ?hg (N := 4) ?hd (cs := #[.string (⟨#[]⟩ : ByteArray), .slice none 0 0]) (t := 24) ?hr ?_; (case hd => rfl); (case hg => rfl); (case hr => first | (go_simp; done) | (go_simp; rfl)); intro g4 hg w4 hbox hb; have n0_ := Aside0.mk (Yv HB hb); have n1_ := Aside0.mk (Zv BK2 hb); have BK4 := Aside0.mk hbox; have GE4 := Aside0.mk (Yg HB hg); have NB24 := Aside0.mk (Zl BK2 hg); have NB42 := Aside0.mk (Zg BK2 hg); clear HB BK2; have HB := n0_; have BK2 := n1_; clear n0_ n1_; clear hb hbox hg) | ((with_reducible refine gate_dst (N := 5) rfl ?_); refine box_event ?hg (N := 5) ?hd (cs := #[.string (⟨#[]⟩ : ByteArray)]) (t := 9) ?hr ?_; (case hd => rfl); (case hg => rfl); (case hr => first | (go_simp; done) | (go_simp; rfl)); intro g5 hg w5 hbox hb; have n0_ := Aside0.mk (Yv HB hb); have n1_ := Aside0.mk (Zv BK2 hb); have n2_ := Aside0.mk (Zv BK4 hb); have BK5 := Aside0.mk hbox; have GE5 := Aside0.mk (Yg HB hg); have NB25 := Aside0.mk (Zl BK2 hg); have NB52 := Aside0.mk (Zg BK2 hg); have NB45 := Aside0.mk (Zl BK4 hg); have NB54 := Aside0.mk (Zg BK4 hg); clear HB BK2 BK4; have HB := n0_; have BK2 := n1_; have BK4 := n2_; clear n0_ n1_ n2_; clear hb hbox hg) | ((with_reducible refine gate_dst (N := 6) rfl ?_); refine box_event ?hg (N := 6) ?hd (cs := #[.nilIface]) (t := 31) ?hr ?_; (case hd => rfl); (case hg => rfl); (case hr => first | (go_simp; done) | (go_simp; rfl)); intro g6 hg w6 hbox hb; have n0_ := Aside0.mk (Yv HB hb); have n1_ := Aside0.mk (Zv BK2 hb); have n2_ := Aside0.mk (Zv BK4 hb); have n3_ := Aside0.mk (Zv BK5 hb); have BK6 := Aside0.mk hbox; have GE6 := Aside0.mk (Yg HB hg); have NB26 := Aside0.mk (Zl BK2 hg); have NB62 := Aside0.mk (Zg BK2 hg); have NB46 := Aside0.mk (Zl BK4 hg); have NB64 := Aside0.mk (Zg BK4 hg); have NB56 := Aside0.mk (Zl BK5 hg); have NB65 := Aside0.mk (Zg BK5 hg); clear HB BK2 BK4 BK5; have HB := n0_; have BK2 := n1_; have BK4 := n2_; have BK5 := n3_; clear n0_ n1_ n2_ n3_; clear hb hbox hg) | (go_at_call 29; (with_reducible refine (pack_ReadText.calls a0 t1 t2 (some e0) _ HT.out).mono ?_); rintro e w7 ⟨rfl, hb⟩; have n0_ := Aside0.mk (Yv HB hb); have n1_ := Aside0.mk (Zv BK2 hb); have n2_ := Aside0.mk (Zv BK4 hb); have n3_ := Aside0.mk (Zv BK5 hb); have n4_ := Aside0.mk (Zv BK6 hb); clear HB BK2 BK4 BK5 BK6; have HB := n0_; have BK2 := n1_; have BK4 := n2_; have BK5 := n3_; have BK6 := n4_; clear n0_ n1_ n2_ n3_ n4_; clear hb; obtain ⟨⟨hc20, hc21⟩, hf20, hf21⟩ := Zk2 BK2; obtain ⟨⟨hc40, hc41⟩, hf40, hf41⟩ := Zk2 BK4; obtain ⟨hc5, hf5⟩ := Zk1 BK5; obtain ⟨hc6, hf6⟩ := Zk1 BK6; have q1 := NB24.out; have q2 := NB42.out; have q3 := NB25.out; have q4 := NB52.out; have q5 := NB26.out; have q6 := NB62.out; have q7 := NB45.out; have q8 := NB54.out; have q9 := NB46.out; have q10 := NB64.out; have q11 := NB56.out; have q12 := NB65.out; simp only [errW_some])))
    refine wp_goto ?_
    try simp only [Exit.then]
    refine jump_goto ?_
    go_wp2
    rw [jump_ret]
    refine bodyPost_ret (results_ct rfl _ _ g2 24 #[.string (⟨#[]⟩ : ByteArray), .slice none 0 0] (0, 0) _ rfl (by refine Zp (cs := #[.string (⟨#[]⟩ : ByteArray), .slice none 0 0]) ?_ 1 _ rfl; refine Zp (cs := #[.string (⟨#[]⟩ : ByteArray), .slice none 0 0]) ?_ 0 _ rfl; refine Zq ?_ q5 _; refine Zq ?_ q3 _; refine Zq ?_ q1 _; exact BK2.out) Try.underlying24 rfl (by kernel_rfl)) rfl ?_
    exact ⟨_, rfl, Kd.R_nil _ _ _ _ _, Yr HB⟩
set_option maxHeartbeats 4000000 in
set_option maxRecDepth 100000 in
theorem define_Decode.way2 (a0 : ByteArray) (t1 t2 : ByteArray) (n : Int) (R' : ByteArray) (e0 : Int) (HT : Aside0 (pack_ReadText.f a0 = some (t1, t2, none))) (HN : Aside0 (nextNum t2 none = (n, R', some e0))) (w : World) :
    Calls Try.prog 18 #[.string a0] w fun e w' => ∃ v1_ : Value, e = .returned (.tuple #[.agg #[.string (⟨#[]⟩ : ByteArray), v1_], errW (some 3)]) ∧ Kd.R k43 43 w' w.heap.size (fun _ => True) v1_ [] ∧ Below w.heap.size w w' := by
    have hu24 := Try.underlying24
    have hu22 := Try.underlying22
    have hu43 := Try.underlying43
    have HB := Aside0.mk (Below.refl w.heap.size w)
    go_enter Try.func18, Try.ntmps18
    go_wp2_with (first | ((with_reducible refine gate_dst (N := 2) rfl ?_); refine box_event ?hg (N := 2) ?hd (cs := #[.string (⟨#[]⟩ : ByteArray), .slice none 0 0]) (t := 24) ?hr ?_; (case hd => rfl); (case hg => rfl); (case hr => first | (go_simp; done) | (go_simp; rfl)); intro g2 hg w2 hbox hb; have n0_ := Aside0.mk (Yv HB hb); have BK2 := Aside0.mk hbox; have GE2 := Aside0.mk (Yg HB hg); clear HB; have HB := n0_; clear n0_; clear hb hbox hg) | ((with_reducible refine gate_dst (N := 4) rfl ?_); refine box_event ?hg (N := 4) ?hd (cs := #[.string (⟨#[]⟩ : ByteArray), .slice none 0 0]) (t := 24) ?hr ?_; (case hd => rfl); (case hg => rfl); (case hr => first | (go_simp; done) | (go_simp; rfl)); intro g4 hg w4 hbox hb; have n0_ := Aside0.mk (Yv HB hb); have n1_ := Aside0.mk (Zv BK2 hb); have BK4 := Aside0.mk hbox; have GE4 := Aside0.mk (Yg HB hg); have NB24 := Aside0.mk (Zl BK2 hg); have NB42 := Aside0.mk (Zg BK2 hg); clear HB BK2; have HB := n0_; have BK2 := n1_; clear n0_ n1_; clear hb hbox hg) | ((with_reducible refine gate_dst (N := 5) rfl ?_); refine box_event ?hg (N := 5) ?hd (cs := #[.string (⟨#[]⟩ : ByteArray)]) (t := 9) ?hr ?_; (case hd => rfl); (case hg => rfl); (case hr => first | (go_simp; done) | (go_simp; rfl)); intro g5 hg w5 hbox hb; have n0_ := Aside0.mk (Yv HB hb); have n1_ := Aside0.mk (Zv BK2 hb); have n2_ := Aside0.mk (Zv BK4 hb); have BK5 := Aside0.mk hbox; have GE5 := Aside0.mk (Yg HB hg); have NB25 := Aside0.mk (Zl BK2 hg); have NB52 := Aside0.mk (Zg BK2 hg); have NB45 := Aside0.mk (Zl BK4 hg); have NB54 := Aside0.mk (Zg BK4 hg); clear HB BK2 BK4; have HB := n0_; have BK2 := n1_; have BK4 := n2_; clear n0_ n1_ n2_; clear hb hbox hg) | ((with_reducible refine gate_dst (N := 6) rfl ?_); refine box_event ?hg (N := 6) ?hd (cs := #[.nilIface]) (t := 31) ?hr ?_; (case hd => rfl); (case hg => rfl); (case hr => first | (go_simp; done) | (go_simp; rfl)); intro g6 hg w6 hbox hb; have n0_ := Aside0.mk (Yv HB hb); have n1_ := Aside0.mk (Zv BK2 hb); have n2_ := Aside0.mk (Zv BK4 hb); have n3_ := Aside0.mk (Zv BK5 hb); have BK6 := Aside0.mk hbox; have GE6 := Aside0.mk (Yg HB hg); have NB26 := Aside0.mk (Zl BK2 hg); have NB62 := Aside0.mk (Zg BK2 hg); have NB46 := Aside0.mk (Zl BK4 hg); have NB64 := Aside0.mk (Zg BK4 hg); have NB56 := Aside0.mk (Zl BK5 hg); have NB65 := Aside0.mk (Zg BK5 hg); clear HB BK2 BK4 BK5; have HB := n0_; have BK2 := n1_; have BK4 := n2_; have BK5 := n3_; clear n0_ n1_ n2_ n3_; clear hb hbox hg) | (go_at_call 29; (with_reducible refine (pack_ReadText.calls a0 t1 t2 (none) _ HT.out).mono ?_); rintro e w7 ⟨rfl, hb⟩; have n0_ := Aside0.mk (Yv HB hb); have n1_ := Aside0.mk (Zv BK2 hb); have n2_ := Aside0.mk (Zv BK4 hb); have n3_ := Aside0.mk (Zv BK5 hb); have n4_ := Aside0.mk (Zv BK6 hb); clear HB BK2 BK4 BK5 BK6; have HB := n0_; have BK2 := n1_; have BK4 := n2_; have BK5 := n3_; have BK6 := n4_; clear n0_ n1_ n2_ n3_ n4_; clear hb; obtain ⟨⟨hc20, hc21⟩, hf20, hf21⟩ := Zk2 BK2; obtain ⟨⟨hc40, hc41⟩, hf40, hf41⟩ := Zk2 BK4; obtain ⟨hc5, hf5⟩ := Zk1 BK5; obtain ⟨hc6, hf6⟩ := Zk1 BK6; have q1 := NB24.out; have q2 := NB42.out; have q3 := NB25.out; have q4 := NB52.out; have q5 := NB26.out; have q6 := NB62.out; have q7 := NB45.out; have q8 := NB54.out; have q9 := NB46.out; have q10 := NB64.out; have q11 := NB56.out; have q12 := NB65.out; simp only [errW_none]))
    refine wp_scope_fwd 0 (by rfl) ?_
    go_wp2_with (first | ((with_reducible refine gate_dst (N := 2) rfl ?_); refine box_event ?hg (N := 2) ?hd (cs := #[.string (⟨#[]⟩ : ByteArray), .slice none 0 0]) (t := 24) ?hr ?_; (case hd => rfl); (case hg => rfl); (case hr => first | (go_simp; done) | (go_simp; rfl)); intro g2 hg w2 hbox hb; have n0_ := Aside0.mk (Yv HB hb); have BK2 := Aside0.mk hbox; have GE2 := Aside0.mk (Yg HB hg); clear HB; have HB := n0_; clear n0_; clear hb hbox hg) | ((with_reducible refine gate_dst (N := 4) rfl ?_); refine box_event ?hg (N := 4) ?hd (cs := #[.string (⟨#[]⟩ : ByteArray), .slice none 0 0]) (t := 24) ?hr ?_; (case hd => rfl); (case hg => rfl); (case hr => first | (go_simp; done) | (go_simp; rfl)); intro g4 hg w4 hbox hb; have n0_ := Aside0.mk (Yv HB hb); have n1_ := Aside0.mk (Zv BK2 hb); have BK4 := Aside0.mk hbox; have GE4 := Aside0.mk (Yg HB hg); have NB24 := Aside0.mk (Zl BK2 hg); have NB42 := Aside0.mk (Zg BK2 hg); clear HB BK2; have HB := n0_; have BK2 := n1_; clear n0_ n1_; clear hb hbox hg) | ((with_reducible refine gate_dst (N := 5) rfl ?_); refine box_event ?hg (N := 5) ?hd (cs := #[.string (⟨#[]⟩ : ByteArray)]) (t := 9) ?hr ?_; (case hd => rfl); (case hg => rfl); (case hr => first | (go_simp; done) | (go_simp; rfl)); intro g5 hg w5 hbox hb; have n0_ := Aside0.mk (Yv HB hb); have n1_ := Aside0.mk (Zv BK2 hb); have n2_ := Aside0.mk (Zv BK4 hb); have BK5 := Aside0.mk hbox; have GE5 := Aside0.mk (Yg HB hg); have NB25 := Aside0.mk (Zl BK2 hg); have NB52 := Aside0.mk (Zg BK2 hg); have NB45 := Aside0.mk (Zl BK4 hg); have NB54 := Aside0.mk (Zg BK4 hg); clear HB BK2 BK4; have HB := n0_; have BK2 := n1_; have BK4 := n2_; clear n0_ n1_ n2_; clear hb hbox hg) | ((with_reducible refine gate_dst (N := 6) rfl ?_); refine box_event ?hg (N := 6) ?hd (cs := #[.nilIface]) (t := 31) ?hr ?_; (case hd => rfl); (case hg => rfl); (case hr => first | (go_simp; done) | (go_simp; rfl)); intro g6 hg w6 hbox hb; have n0_ := Aside0.mk (Yv HB hb); have n1_ := Aside0.mk (Zv BK2 hb); have n2_ := Aside0.mk (Zv BK4 hb); have n3_ := Aside0.mk (Zv BK5 hb); have BK6 := Aside0.mk hbox; have GE6 := Aside0.mk (Yg HB hg); have NB26 := Aside0.mk (Zl BK2 hg); have NB62 := Aside0.mk (Zg BK2 hg); have NB46 := Aside0.mk (Zl BK4 hg); have NB64 := Aside0.mk (Zg BK4 hg); have NB56 := Aside0.mk (Zl BK5 hg); have NB65 := Aside0.mk (Zg BK5 hg); clear HB BK2 BK4 BK5; have HB := n0_; have BK2 := n1_; have BK4 := n2_; have BK5 := n3_; clear n0_ n1_ n2_ n3_; clear hb hbox hg) | (go_at_call 29; (with_reducible refine (pack_ReadText.calls a0 t1 t2 (none) _ HT.out).mono ?_); rintro e w7 ⟨rfl, hb⟩; have n0_ := Aside0.mk (Yv HB hb); have n1_ := Aside0.mk (Zv BK2 hb); have n2_ := Aside0.mk (Zv BK4 hb); have n3_ := Aside0.mk (Zv BK5 hb); have n4_ := Aside0.mk (Zv BK6 hb); clear HB BK2 BK4 BK5 BK6; have HB := n0_; have BK2 := n1_; have BK4 := n2_; have BK5 := n3_; have BK6 := n4_; clear n0_ n1_ n2_ n3_ n4_; clear hb; obtain ⟨⟨hc20, hc21⟩, hf20, hf21⟩ := Zk2 BK2; obtain ⟨⟨hc40, hc41⟩, hf40, hf41⟩ := Zk2 BK4; obtain ⟨hc5, hf5⟩ := Zk1 BK5; obtain ⟨hc6, hf6⟩ := Zk1 BK6; have q1 := NB24.out; have q2 := NB42.out; have q3 := NB25.out; have q4 := NB52.out; have q5 := NB26.out; have q6 := NB62.out; have q7 := NB45.out; have q8 := NB54.out; have q9 := NB46.out; have q10 := NB64.out; have q11 := NB56.out; have q12 := NB65.out; simp only [errW_none]))
    repeat (go_quiet (first | ((with_reducible refine gate_dst (N := 2) rfl ?_); refine box_event ?hg (N := 2) ?hd (cs := #[.string (⟨#[]⟩ : ByteArray), .slice none 0 0]) (t := 24) ?hr ?_; (case hd => rfl); (case hg => rfl); (case hr => first | (go_simp; done) | (go_simp; rfl)); intro g2 hg w2 hbox hb; have n0_ := Aside0.mk (Yv HB hb); have BK2 := Aside0.mk hbox; have GE2 := Aside0.mk (Yg HB hg); clear HB; have HB := n0_; clear n0_; clear hb hbox hg) | ((with_reducible refine gate_dst (N := 4) rfl ?_); refine box_event ?hg (N := 4) ?hd (cs := #[.string (⟨#[]⟩ : ByteArray), .slice none 0 0]) (t := 24) ?hr ?_; (case hd => rfl); (case hg => rfl); (case hr => first | (go_simp; done) | (go_simp; rfl)); intro g4 hg w4 hbox hb; have n0_ := Aside0.mk (Yv HB hb); have n1_ := Aside0.mk (Zv BK2 hb); have BK4 := Aside0.mk hbox; have GE4 := Aside0.mk (Yg HB hg); have NB24 := Aside0.mk (Zl BK2 hg); have NB42 := Aside0.mk (Zg BK2 hg); clear HB BK2; have HB := n0_; have BK2 := n1_; clear n0_ n1_; clear hb hbox hg) | ((with_reducible refine gate_dst (N := 5) rfl ?_); refine box_event ?hg (N := 5) ?hd (cs := #[.string (⟨#[]⟩ : ByteArray)]) (t := 9) ?hr ?_; (case hd => rfl); (case hg => rfl); (case hr => first | (go_simp; done) | (go_simp; rfl)); intro g5 hg w5 hbox hb; have n0_ := Aside0.mk (Yv HB hb); have n1_ := Aside0.mk (Zv BK2 hb); have n2_ := Aside0.mk (Zv BK4 hb); have BK5 := Aside0.mk hbox; have GE5 := Aside0.mk (Yg HB hg); have NB25 := Aside0.mk (Zl BK2 hg); have NB52 := Aside0.mk (Zg BK2 hg); have NB45 := Aside0.mk (Zl BK4 hg); have NB54 := Aside0.mk (Zg BK4 hg); clear HB BK2 BK4; have HB := n0_; have BK2 := n1_; have BK4 := n2_; clear n0_ n1_ n2_; clear hb hbox hg) | ((with_reducible refine gate_dst (N := 6) rfl ?_); refine box_event ?hg (N := 6) ?hd (cs := #[.nilIface]) (t := 31) ?hr ?_; (case hd => rfl); (case hg => rfl); (case hr => first | (go_simp; done) | (go_simp; rfl)); intro g6 hg w6 hbox hb; have n0_ := Aside0.mk (Yv HB hb); have n1_ := Aside0.mk (Zv BK2 hb); have n2_ := Aside0.mk (Zv BK4 hb); have n3_ := Aside0.mk (Zv BK5 hb); have BK6 := Aside0.mk hbox; have GE6 := Aside0.mk (Yg HB hg); have NB26 := Aside0.mk (Zl BK2 hg); have NB62 := Aside0.mk (Zg BK2 hg); have NB46 := Aside0.mk (Zl BK4 hg); have NB64 := Aside0.mk (Zg BK4 hg); have NB56 := Aside0.mk (Zl BK5 hg); have NB65 := Aside0.mk (Zg BK5 hg); clear HB BK2 BK4 BK5; have HB := n0_; have BK2 := n1_; have BK4 := n2_; have BK5 := n3_; clear n0_ n1_ n2_ n3_; clear hb hbox hg) | (go_at_call 29; (with_reducible refine (pack_ReadText.calls a0 t1 t2 (none) _ HT.out).mono ?_); rintro e w7 ⟨rfl, hb⟩; have n0_ := Aside0.mk (Yv HB hb); have n1_ := Aside0.mk (Zv BK2 hb); have n2_ := Aside0.mk (Zv BK4 hb); have n3_ := Aside0.mk (Zv BK5 hb); have n4_ := Aside0.mk (Zv BK6 hb); clear HB BK2 BK4 BK5 BK6; have HB := n0_; have BK2 := n1_; have BK4 := n2_; have BK5 := n3_; have BK6 := n4_; clear n0_ n1_ n2_ n3_ n4_; clear hb; obtain ⟨⟨hc20, hc21⟩, hf20, hf21⟩ := Zk2 BK2; obtain ⟨⟨hc40, hc41⟩, hf40, hf41⟩ := Zk2 BK4; obtain ⟨hc5, hf5⟩ := Zk1 BK5; obtain ⟨hc6, hf6⟩ := Zk1 BK6; have q1 := NB24.out; have q2 := NB42.out; have q3 := NB25.out; have q4 := NB52.out; have q5 := NB26.out; have q6 := NB62.out; have q7 := NB45.out; have q8 := NB54.out; have q9 := NB46.out; have q10 := NB64.out; have q11 := NB56.out; have q12 := NB65.out; simp only [errW_none])); try go_wp2_with (first | ((with_reducible refine gate_dst (N := 2) rfl ?_); refine box_event ?hg (N := 2) ?hd (cs := #[.string (⟨#[]⟩ : ByteArray), .slice none 0 0]) (t := 24) ?hr ?_; (case hd => rfl); (case hg => rfl); (case hr => first | (go_simp; done) | (go_simp; rfl)); intro g2 hg w2 hbox hb; have n0_ := Aside0.mk (Yv HB hb); have BK2 := Aside0.mk hbox; have GE2 := Aside0.mk (Yg HB hg); clear HB; have HB := n0_; clear n0_; clear hb hbox hg) | ((with_reducible refine gate_dst (N := 4) rfl ?_); refine box_event ?hg (N := 4) ?hd (cs := #[.string (⟨#[]⟩ : ByteArray), .slice none 0 0]) (t := 24) ?hr ?_; (case hd => rfl); (case hg => rfl); (case hr => first | (go_simp; done) | (go_simp; rfl)); intro g4 hg w4 hbox hb; have n0_ := Aside0.mk (Yv HB hb); have n1_ := Aside0.mk (Zv BK2 hb); have BK4 := Aside0.mk hbox; have GE4 := Aside0.mk (Yg HB hg); have NB24 := Aside0.mk (Zl BK2 hg); have NB42 := Aside0.mk (Zg BK2 hg); clear HB BK2; have HB := n0_; have BK2 := n1_; clear n0_ n1_; clear hb hbox hg) | ((with_reducible refine gate_dst (N := 5) rfl ?_); refine box_event ?hg (N := 5) ?hd (cs := #[.string (⟨#[]⟩ : ByteArray)]) (t := 9) ?hr ?_; (case hd => rfl); (case hg => rfl); (case hr => first | (go_simp; done) | (go_simp; rfl)); intro g5 hg w5 hbox hb; have n0_ := Aside0.mk (Yv HB hb); have n1_ := Aside0.mk (Zv BK2 hb); have n2_ := Aside0.mk (Zv BK4 hb); have BK5 := Aside0.mk hbox; have GE5 := Aside0.mk (Yg HB hg); have NB25 := Aside0.mk (Zl BK2 hg); have NB52 := Aside0.mk (Zg BK2 hg); have NB45 := Aside0.mk (Zl BK4 hg); have NB54 := Aside0.mk (Zg BK4 hg); clear HB BK2 BK4; have HB := n0_; have BK2 := n1_; have BK4 := n2_; clear n0_ n1_ n2_; clear hb hbox hg) | ((with_reducible refine gate_dst (N := 6) rfl ?_); refine box_event ?hg (N := 6) ?hd (cs := #[.nilIface]) (t := 31) ?hr ?_; (case hd => rfl); (case hg => rfl); (case hr => first | (go_simp; done) | (go_simp; rfl)); intro g6 hg w6 hbox hb; have n0_ := Aside0.mk (Yv HB hb); have n1_ := Aside0.mk (Zv BK2 hb); have n2_ := Aside0.mk (Zv BK4 hb); have n3_ := Aside0.mk (Zv BK5 hb); have BK6 := Aside0.mk hbox; have GE6 := Aside0.mk (Yg HB hg); have NB26 := Aside0.mk (Zl BK2 hg); have NB62 := Aside0.mk (Zg BK2 hg); have NB46 := Aside0.mk (Zl BK4 hg); have NB64 := Aside0.mk (Zg BK4 hg); have NB56 := Aside0.mk (Zl BK5 hg); have NB65 := Aside0.mk (Zg BK5 hg); clear HB BK2 BK4 BK5; have HB := n0_; have BK2 := n1_; have BK4 := n2_; have BK5 := n3_; clear n0_ n1_ n2_ n3_; clear hb hbox hg) | (go_at_call 29; (with_reducible refine (pack_ReadText.calls a0 t1 t2 (none) _ HT.out).mono ?_); rintro e w7 ⟨rfl, hb⟩; have n0_ := Aside0.mk (Yv HB hb); have n1_ := Aside0.mk (Zv BK2 hb); have n2_ := Aside0.mk (Zv BK4 hb); have n3_ := Aside0.mk (Zv BK5 hb); have n4_ := Aside0.mk (Zv BK6 hb); clear HB BK2 BK4 BK5 BK6; have HB := n0_; have BK2 := n1_; have BK4 := n2_; have BK5 := n3_; have BK6 := n4_; clear n0_ n1_ n2_ n3_ n4_; clear hb; obtain ⟨⟨hc20, hc21⟩, hf20, hf21⟩ := Zk2 BK2; obtain ⟨⟨hc40, hc41⟩, hf40, hf41⟩ := Zk2 BK4; obtain ⟨hc5, hf5⟩ := Zk1 BK5; obtain ⟨hc6, hf6⟩ := Zk1 BK6; have q1 := NB24.out; have q2 := NB42.out; have q3 := NB25.out; have q4 := NB52.out; have q5 := NB26.out; have q6 := NB62.out; have q7 := NB45.out; have q8 := NB54.out; have q9 := NB46.out; have q10 := NB64.out; have q11 := NB56.out; have q12 := NB65.out; simp only [errW_none])))
    refine (define_num.calls g6 g5 none t2 n R' (some e0) _ NB65.out HN.out ?he ?hr).mono ?_
    case he => refine Zp (cs := #[.nilIface]) ?_ 0 _ rfl; refine Zq ?_ NB65.out _; refine Zq ?_ NB64.out _; exact BK6.out
    case hr => refine Zq ?_ NB56.out _; refine Zp (cs := #[.string (⟨#[]⟩ : ByteArray)]) ?_ 0 _ rfl; refine Zq ?_ NB54.out _; exact BK5.out
    rintro e w8 ⟨rfl, hN⟩
    have n0_ := Aside0.mk (hN.b_ _ (Yr HB) GE6.out GE5.out)
    have n1_ := Aside0.mk (hN.k_ g2 (.cells #[.string (⟨#[]⟩ : ByteArray), .slice none 0 0] 24 (0, 0)) NB26.out NB25.out (by refine Zq ?_ NB26.out _; refine Zq ?_ NB25.out _; refine Zq ?_ NB24.out _; exact BK2.out))
    have n2_ := Aside0.mk (hN.k_ g4 (.cells #[.string t1, .slice none 0 0] 24 (0, 0)) NB46.out NB45.out (by refine Zq ?_ NB46.out _; refine Zq ?_ NB45.out _; refine Zp (cs := #[.string (⟨#[]⟩ : ByteArray), .slice none 0 0]) ?_ 0 _ rfl; exact BK4.out))
    have n3_ := Aside0.mk (hN.r_)
    have n4_ := Aside0.mk (hN.e_)
    clear HB BK2 BK4 BK5 BK6
    have HB := n0_
    have BK2 := n1_
    have BK4 := n2_
    have BK5 := n3_
    have BK6 := n4_
    clear n0_ n1_ n2_ n3_ n4_
    clear hN
    obtain ⟨⟨hc20, hc21⟩, hf20, hf21⟩ := Zk2 BK2
    obtain ⟨⟨hc40, hc41⟩, hf40, hf41⟩ := Zk2 BK4
    obtain ⟨hc5, hf5⟩ := Zk1 BK5
    obtain ⟨hc6, hf6⟩ := Zk1 BK6
    simp only [errW_some] at hc6
    go_wp2
    refine wp_goto ?_
    try simp only [Exit.then]
    refine jump_goto ?_
    go_wp2
    rw [jump_ret]
    refine bodyPost_ret (results_ct rfl _ _ g2 24 #[.string (⟨#[]⟩ : ByteArray), .slice none 0 0] (0, 0) _ rfl (by refine Zp (cs := #[.string (⟨#[]⟩ : ByteArray), .slice none 0 0]) ?_ 1 _ rfl; refine Zp (cs := #[.string (⟨#[]⟩ : ByteArray), .slice none 0 0]) ?_ 0 _ rfl; skip; exact BK2.out) Try.underlying24 rfl (by kernel_rfl)) rfl ?_
    exact ⟨_, rfl, Kd.R_nil _ _ _ _ _, Yr HB⟩
set_option maxHeartbeats 4000000 in
set_option maxRecDepth 100000 in
theorem define_Decode.way3 (a0 : ByteArray) (t1 t2 : ByteArray) (n : Int) (R' : ByteArray) (HT : Aside0 (pack_ReadText.f a0 = some (t1, t2, none))) (HN : Aside0 (nextNum t2 none = (n, R', none))) (hn : 6 < n) (w : World) :
    Calls Try.prog 18 #[.string a0] w fun e w' => ∃ v1_ : Value, e = .returned (.tuple #[.agg #[.string (⟨#[]⟩ : ByteArray), v1_], errW (some 3)]) ∧ Kd.R k43 43 w' w.heap.size (fun _ => True) v1_ [] ∧ Below w.heap.size w w' := by
    have hu24 := Try.underlying24
    have hu22 := Try.underlying22
    have hu43 := Try.underlying43
    have HB := Aside0.mk (Below.refl w.heap.size w)
    go_enter Try.func18, Try.ntmps18
    go_wp2_with (first | ((with_reducible refine gate_dst (N := 2) rfl ?_); refine box_event ?hg (N := 2) ?hd (cs := #[.string (⟨#[]⟩ : ByteArray), .slice none 0 0]) (t := 24) ?hr ?_; (case hd => rfl); (case hg => rfl); (case hr => first | (go_simp; done) | (go_simp; rfl)); intro g2 hg w2 hbox hb; have n0_ := Aside0.mk (Yv HB hb); have BK2 := Aside0.mk hbox; have GE2 := Aside0.mk (Yg HB hg); clear HB; have HB := n0_; clear n0_; clear hb hbox hg) | ((with_reducible refine gate_dst (N := 4) rfl ?_); refine box_event ?hg (N := 4) ?hd (cs := #[.string (⟨#[]⟩ : ByteArray), .slice none 0 0]) (t := 24) ?hr ?_; (case hd => rfl); (case hg => rfl); (case hr => first | (go_simp; done) | (go_simp; rfl)); intro g4 hg w4 hbox hb; have n0_ := Aside0.mk (Yv HB hb); have n1_ := Aside0.mk (Zv BK2 hb); have BK4 := Aside0.mk hbox; have GE4 := Aside0.mk (Yg HB hg); have NB24 := Aside0.mk (Zl BK2 hg); have NB42 := Aside0.mk (Zg BK2 hg); clear HB BK2; have HB := n0_; have BK2 := n1_; clear n0_ n1_; clear hb hbox hg) | ((with_reducible refine gate_dst (N := 5) rfl ?_); refine box_event ?hg (N := 5) ?hd (cs := #[.string (⟨#[]⟩ : ByteArray)]) (t := 9) ?hr ?_; (case hd => rfl); (case hg => rfl); (case hr => first | (go_simp; done) | (go_simp; rfl)); intro g5 hg w5 hbox hb; have n0_ := Aside0.mk (Yv HB hb); have n1_ := Aside0.mk (Zv BK2 hb); have n2_ := Aside0.mk (Zv BK4 hb); have BK5 := Aside0.mk hbox; have GE5 := Aside0.mk (Yg HB hg); have NB25 := Aside0.mk (Zl BK2 hg); have NB52 := Aside0.mk (Zg BK2 hg); have NB45 := Aside0.mk (Zl BK4 hg); have NB54 := Aside0.mk (Zg BK4 hg); clear HB BK2 BK4; have HB := n0_; have BK2 := n1_; have BK4 := n2_; clear n0_ n1_ n2_; clear hb hbox hg) | ((with_reducible refine gate_dst (N := 6) rfl ?_); refine box_event ?hg (N := 6) ?hd (cs := #[.nilIface]) (t := 31) ?hr ?_; (case hd => rfl); (case hg => rfl); (case hr => first | (go_simp; done) | (go_simp; rfl)); intro g6 hg w6 hbox hb; have n0_ := Aside0.mk (Yv HB hb); have n1_ := Aside0.mk (Zv BK2 hb); have n2_ := Aside0.mk (Zv BK4 hb); have n3_ := Aside0.mk (Zv BK5 hb); have BK6 := Aside0.mk hbox; have GE6 := Aside0.mk (Yg HB hg); have NB26 := Aside0.mk (Zl BK2 hg); have NB62 := Aside0.mk (Zg BK2 hg); have NB46 := Aside0.mk (Zl BK4 hg); have NB64 := Aside0.mk (Zg BK4 hg); have NB56 := Aside0.mk (Zl BK5 hg); have NB65 := Aside0.mk (Zg BK5 hg); clear HB BK2 BK4 BK5; have HB := n0_; have BK2 := n1_; have BK4 := n2_; have BK5 := n3_; clear n0_ n1_ n2_ n3_; clear hb hbox hg) | (go_at_call 29; (with_reducible refine (pack_ReadText.calls a0 t1 t2 (none) _ HT.out).mono ?_); rintro e w7 ⟨rfl, hb⟩; have n0_ := Aside0.mk (Yv HB hb); have n1_ := Aside0.mk (Zv BK2 hb); have n2_ := Aside0.mk (Zv BK4 hb); have n3_ := Aside0.mk (Zv BK5 hb); have n4_ := Aside0.mk (Zv BK6 hb); clear HB BK2 BK4 BK5 BK6; have HB := n0_; have BK2 := n1_; have BK4 := n2_; have BK5 := n3_; have BK6 := n4_; clear n0_ n1_ n2_ n3_ n4_; clear hb; obtain ⟨⟨hc20, hc21⟩, hf20, hf21⟩ := Zk2 BK2; obtain ⟨⟨hc40, hc41⟩, hf40, hf41⟩ := Zk2 BK4; obtain ⟨hc5, hf5⟩ := Zk1 BK5; obtain ⟨hc6, hf6⟩ := Zk1 BK6; have q1 := NB24.out; have q2 := NB42.out; have q3 := NB25.out; have q4 := NB52.out; have q5 := NB26.out; have q6 := NB62.out; have q7 := NB45.out; have q8 := NB54.out; have q9 := NB46.out; have q10 := NB64.out; have q11 := NB56.out; have q12 := NB65.out; simp only [errW_none]))
    refine wp_scope_fwd 0 (by rfl) ?_
    go_wp2_with (first | ((with_reducible refine gate_dst (N := 2) rfl ?_); refine box_event ?hg (N := 2) ?hd (cs := #[.string (⟨#[]⟩ : ByteArray), .slice none 0 0]) (t := 24) ?hr ?_; (case hd => rfl); (case hg => rfl); (case hr => first | (go_simp; done) | (go_simp; rfl)); intro g2 hg w2 hbox hb; have n0_ := Aside0.mk (Yv HB hb); have BK2 := Aside0.mk hbox; have GE2 := Aside0.mk (Yg HB hg); clear HB; have HB := n0_; clear n0_; clear hb hbox hg) | ((with_reducible refine gate_dst (N := 4) rfl ?_); refine box_event ?hg (N := 4) ?hd (cs := #[.string (⟨#[]⟩ : ByteArray), .slice none 0 0]) (t := 24) ?hr ?_; (case hd => rfl); (case hg => rfl); (case hr => first | (go_simp; done) | (go_simp; rfl)); intro g4 hg w4 hbox hb; have n0_ := Aside0.mk (Yv HB hb); have n1_ := Aside0.mk (Zv BK2 hb); have BK4 := Aside0.mk hbox; have GE4 := Aside0.mk (Yg HB hg); have NB24 := Aside0.mk (Zl BK2 hg); have NB42 := Aside0.mk (Zg BK2 hg); clear HB BK2; have HB := n0_; have BK2 := n1_; clear n0_ n1_; clear hb hbox hg) | ((with_reducible refine gate_dst (N := 5) rfl ?_); refine box_event ?hg (N := 5) ?hd (cs := #[.string (⟨#[]⟩ : ByteArray)]) (t := 9) ?hr ?_; (case hd => rfl); (case hg => rfl); (case hr => first | (go_simp; done) | (go_simp; rfl)); intro g5 hg w5 hbox hb; have n0_ := Aside0.mk (Yv HB hb); have n1_ := Aside0.mk (Zv BK2 hb); have n2_ := Aside0.mk (Zv BK4 hb); have BK5 := Aside0.mk hbox; have GE5 := Aside0.mk (Yg HB hg); have NB25 := Aside0.mk (Zl BK2 hg); have NB52 := Aside0.mk (Zg BK2 hg); have NB45 := Aside0.mk (Zl BK4 hg); have NB54 := Aside0.mk (Zg BK4 hg); clear HB BK2 BK4; have HB := n0_; have BK2 := n1_; have BK4 := n2_; clear n0_ n1_ n2_; clear hb hbox hg) | ((with_reducible refine gate_dst (N := 6) rfl ?_); refine box_event ?hg (N := 6) ?hd (cs := #[.nilIface]) (t := 31) ?hr ?_; (case hd => rfl); (case hg => rfl); (case hr => first | (go_simp; done) | (go_simp; rfl)); intro g6 hg w6 hbox hb; have n0_ := Aside0.mk (Yv HB hb); have n1_ := Aside0.mk (Zv BK2 hb); have n2_ := Aside0.mk (Zv BK4 hb); have n3_ := Aside0.mk (Zv BK5 hb); have BK6 := Aside0.mk hbox; have GE6 := Aside0.mk (Yg HB hg); have NB26 := Aside0.mk (Zl BK2 hg); have NB62 := Aside0.mk (Zg BK2 hg); have NB46 := Aside0.mk (Zl BK4 hg); have NB64 := Aside0.mk (Zg BK4 hg); have NB56 := Aside0.mk (Zl BK5 hg); have NB65 := Aside0.mk (Zg BK5 hg); clear HB BK2 BK4 BK5; have HB := n0_; have BK2 := n1_; have BK4 := n2_; have BK5 := n3_; clear n0_ n1_ n2_ n3_; clear hb hbox hg) | (go_at_call 29; (with_reducible refine (pack_ReadText.calls a0 t1 t2 (none) _ HT.out).mono ?_); rintro e w7 ⟨rfl, hb⟩; have n0_ := Aside0.mk (Yv HB hb); have n1_ := Aside0.mk (Zv BK2 hb); have n2_ := Aside0.mk (Zv BK4 hb); have n3_ := Aside0.mk (Zv BK5 hb); have n4_ := Aside0.mk (Zv BK6 hb); clear HB BK2 BK4 BK5 BK6; have HB := n0_; have BK2 := n1_; have BK4 := n2_; have BK5 := n3_; have BK6 := n4_; clear n0_ n1_ n2_ n3_ n4_; clear hb; obtain ⟨⟨hc20, hc21⟩, hf20, hf21⟩ := Zk2 BK2; obtain ⟨⟨hc40, hc41⟩, hf40, hf41⟩ := Zk2 BK4; obtain ⟨hc5, hf5⟩ := Zk1 BK5; obtain ⟨hc6, hf6⟩ := Zk1 BK6; have q1 := NB24.out; have q2 := NB42.out; have q3 := NB25.out; have q4 := NB52.out; have q5 := NB26.out; have q6 := NB62.out; have q7 := NB45.out; have q8 := NB54.out; have q9 := NB46.out; have q10 := NB64.out; have q11 := NB56.out; have q12 := NB65.out; simp only [errW_none]))
    repeat (go_quiet (first | ((with_reducible refine gate_dst (N := 2) rfl ?_); refine box_event ?hg (N := 2) ?hd (cs := #[.string (⟨#[]⟩ : ByteArray), .slice none 0 0]) (t := 24) ?hr ?_; (case hd => rfl); (case hg => rfl); (case hr => first | (go_simp; done) | (go_simp; rfl)); intro g2 hg w2 hbox hb; have n0_ := Aside0.mk (Yv HB hb); have BK2 := Aside0.mk hbox; have GE2 := Aside0.mk (Yg HB hg); clear HB; have HB := n0_; clear n0_; clear hb hbox hg) | ((with_reducible refine gate_dst (N := 4) rfl ?_); refine box_event ?hg (N := 4) ?hd (cs := #[.string (⟨#[]⟩ : ByteArray), .slice none 0 0]) (t := 24) ?hr ?_; (case hd => rfl); (case hg => rfl); (case hr => first | (go_simp; done) | (go_simp; rfl)); intro g4 hg w4 hbox hb; have n0_ := Aside0.mk (Yv HB hb); have n1_ := Aside0.mk (Zv BK2 hb); have BK4 := Aside0.mk hbox; have GE4 := Aside0.mk (Yg HB hg); have NB24 := Aside0.mk (Zl BK2 hg); have NB42 := Aside0.mk (Zg BK2 hg); clear HB BK2; have HB := n0_; have BK2 := n1_; clear n0_ n1_; clear hb hbox hg) | ((with_reducible refine gate_dst (N := 5) rfl ?_); refine box_event ?hg (N := 5) ?hd (cs := #[.string (⟨#[]⟩ : ByteArray)]) (t := 9) ?hr ?_; (case hd => rfl); (case hg => rfl); (case hr => first | (go_simp; done) | (go_simp; rfl)); intro g5 hg w5 hbox hb; have n0_ := Aside0.mk (Yv HB hb); have n1_ := Aside0.mk (Zv BK2 hb); have n2_ := Aside0.mk (Zv BK4 hb); have BK5 := Aside0.mk hbox; have GE5 := Aside0.mk (Yg HB hg); have NB25 := Aside0.mk (Zl BK2 hg); have NB52 := Aside0.mk (Zg BK2 hg); have NB45 := Aside0.mk (Zl BK4 hg); have NB54 := Aside0.mk (Zg BK4 hg); clear HB BK2 BK4; have HB := n0_; have BK2 := n1_; have BK4 := n2_; clear n0_ n1_ n2_; clear hb hbox hg) | ((with_reducible refine gate_dst (N := 6) rfl ?_); refine box_event ?hg (N := 6) ?hd (cs := #[.nilIface]) (t := 31) ?hr ?_; (case hd => rfl); (case hg => rfl); (case hr => first | (go_simp; done) | (go_simp; rfl)); intro g6 hg w6 hbox hb; have n0_ := Aside0.mk (Yv HB hb); have n1_ := Aside0.mk (Zv BK2 hb); have n2_ := Aside0.mk (Zv BK4 hb); have n3_ := Aside0.mk (Zv BK5 hb); have BK6 := Aside0.mk hbox; have GE6 := Aside0.mk (Yg HB hg); have NB26 := Aside0.mk (Zl BK2 hg); have NB62 := Aside0.mk (Zg BK2 hg); have NB46 := Aside0.mk (Zl BK4 hg); have NB64 := Aside0.mk (Zg BK4 hg); have NB56 := Aside0.mk (Zl BK5 hg); have NB65 := Aside0.mk (Zg BK5 hg); clear HB BK2 BK4 BK5; have HB := n0_; have BK2 := n1_; have BK4 := n2_; have BK5 := n3_; clear n0_ n1_ n2_ n3_; clear hb hbox hg) | (go_at_call 29; (with_reducible refine (pack_ReadText.calls a0 t1 t2 (none) _ HT.out).mono ?_); rintro e w7 ⟨rfl, hb⟩; have n0_ := Aside0.mk (Yv HB hb); have n1_ := Aside0.mk (Zv BK2 hb); have n2_ := Aside0.mk (Zv BK4 hb); have n3_ := Aside0.mk (Zv BK5 hb); have n4_ := Aside0.mk (Zv BK6 hb); clear HB BK2 BK4 BK5 BK6; have HB := n0_; have BK2 := n1_; have BK4 := n2_; have BK5 := n3_; have BK6 := n4_; clear n0_ n1_ n2_ n3_ n4_; clear hb; obtain ⟨⟨hc20, hc21⟩, hf20, hf21⟩ := Zk2 BK2; obtain ⟨⟨hc40, hc41⟩, hf40, hf41⟩ := Zk2 BK4; obtain ⟨hc5, hf5⟩ := Zk1 BK5; obtain ⟨hc6, hf6⟩ := Zk1 BK6; have q1 := NB24.out; have q2 := NB42.out; have q3 := NB25.out; have q4 := NB52.out; have q5 := NB26.out; have q6 := NB62.out; have q7 := NB45.out; have q8 := NB54.out; have q9 := NB46.out; have q10 := NB64.out; have q11 := NB56.out; have q12 := NB65.out; simp only [errW_none])); try go_wp2_with (first | ((with_reducible refine gate_dst (N := 2) rfl ?_); refine box_event ?hg (N := 2) ?hd (cs := #[.string (⟨#[]⟩ : ByteArray), .slice none 0 0]) (t := 24) ?hr ?_; (case hd => rfl); (case hg => rfl); (case hr => first | (go_simp; done) | (go_simp; rfl)); intro g2 hg w2 hbox hb; have n0_ := Aside0.mk (Yv HB hb); have BK2 := Aside0.mk hbox; have GE2 := Aside0.mk (Yg HB hg); clear HB; have HB := n0_; clear n0_; clear hb hbox hg) | ((with_reducible refine gate_dst (N := 4) rfl ?_); refine box_event ?hg (N := 4) ?hd (cs := #[.string (⟨#[]⟩ : ByteArray), .slice none 0 0]) (t := 24) ?hr ?_; (case hd => rfl); (case hg => rfl); (case hr => first | (go_simp; done) | (go_simp; rfl)); intro g4 hg w4 hbox hb; have n0_ := Aside0.mk (Yv HB hb); have n1_ := Aside0.mk (Zv BK2 hb); have BK4 := Aside0.mk hbox; have GE4 := Aside0.mk (Yg HB hg); have NB24 := Aside0.mk (Zl BK2 hg); have NB42 := Aside0.mk (Zg BK2 hg); clear HB BK2; have HB := n0_; have BK2 := n1_; clear n0_ n1_; clear hb hbox hg) | ((with_reducible refine gate_dst (N := 5) rfl ?_); refine box_event ?hg (N := 5) ?hd (cs := #[.string (⟨#[]⟩ : ByteArray)]) (t := 9) ?hr ?_; (case hd => rfl); (case hg => rfl); (case hr => first | (go_simp; done) | (go_simp; rfl)); intro g5 hg w5 hbox hb; have n0_ := Aside0.mk (Yv HB hb); have n1_ := Aside0.mk (Zv BK2 hb); have n2_ := Aside0.mk (Zv BK4 hb); have BK5 := Aside0.mk hbox; have GE5 := Aside0.mk (Yg HB hg); have NB25 := Aside0.mk (Zl BK2 hg); have NB52 := Aside0.mk (Zg BK2 hg); have NB45 := Aside0.mk (Zl BK4 hg); have NB54 := Aside0.mk (Zg BK4 hg); clear HB BK2 BK4; have HB := n0_; have BK2 := n1_; have BK4 := n2_; clear n0_ n1_ n2_; clear hb hbox hg) | ((with_reducible refine gate_dst (N := 6) rfl ?_); refine box_event ?hg (N := 6) ?hd (cs := #[.nilIface]) (t := 31) ?hr ?_; (case hd => rfl); (case hg => rfl); (case hr => first | (go_simp; done) | (go_simp; rfl)); intro g6 hg w6 hbox hb; have n0_ := Aside0.mk (Yv HB hb); have n1_ := Aside0.mk (Zv BK2 hb); have n2_ := Aside0.mk (Zv BK4 hb); have n3_ := Aside0.mk (Zv BK5 hb); have BK6 := Aside0.mk hbox; have GE6 := Aside0.mk (Yg HB hg); have NB26 := Aside0.mk (Zl BK2 hg); have NB62 := Aside0.mk (Zg BK2 hg); have NB46 := Aside0.mk (Zl BK4 hg); have NB64 := Aside0.mk (Zg BK4 hg); have NB56 := Aside0.mk (Zl BK5 hg); have NB65 := Aside0.mk (Zg BK5 hg); clear HB BK2 BK4 BK5; have HB := n0_; have BK2 := n1_; have BK4 := n2_; have BK5 := n3_; clear n0_ n1_ n2_ n3_; clear hb hbox hg) | (go_at_call 29; (with_reducible refine (pack_ReadText.calls a0 t1 t2 (none) _ HT.out).mono ?_); rintro e w7 ⟨rfl, hb⟩; have n0_ := Aside0.mk (Yv HB hb); have n1_ := Aside0.mk (Zv BK2 hb); have n2_ := Aside0.mk (Zv BK4 hb); have n3_ := Aside0.mk (Zv BK5 hb); have n4_ := Aside0.mk (Zv BK6 hb); clear HB BK2 BK4 BK5 BK6; have HB := n0_; have BK2 := n1_; have BK4 := n2_; have BK5 := n3_; have BK6 := n4_; clear n0_ n1_ n2_ n3_ n4_; clear hb; obtain ⟨⟨hc20, hc21⟩, hf20, hf21⟩ := Zk2 BK2; obtain ⟨⟨hc40, hc41⟩, hf40, hf41⟩ := Zk2 BK4; obtain ⟨hc5, hf5⟩ := Zk1 BK5; obtain ⟨hc6, hf6⟩ := Zk1 BK6; have q1 := NB24.out; have q2 := NB42.out; have q3 := NB25.out; have q4 := NB52.out; have q5 := NB26.out; have q6 := NB62.out; have q7 := NB45.out; have q8 := NB54.out; have q9 := NB46.out; have q10 := NB64.out; have q11 := NB56.out; have q12 := NB65.out; simp only [errW_none])))
    refine (define_num.calls g6 g5 none t2 n R' (none) _ NB65.out HN.out ?he ?hr).mono ?_
    case he => refine Zp (cs := #[.nilIface]) ?_ 0 _ rfl; refine Zq ?_ NB65.out _; refine Zq ?_ NB64.out _; exact BK6.out
    case hr => refine Zq ?_ NB56.out _; refine Zp (cs := #[.string (⟨#[]⟩ : ByteArray)]) ?_ 0 _ rfl; refine Zq ?_ NB54.out _; exact BK5.out
    rintro e w8 ⟨rfl, hN⟩
    have n0_ := Aside0.mk (hN.b_ _ (Yr HB) GE6.out GE5.out)
    have n1_ := Aside0.mk (hN.k_ g2 (.cells #[.string (⟨#[]⟩ : ByteArray), .slice none 0 0] 24 (0, 0)) NB26.out NB25.out (by refine Zq ?_ NB26.out _; refine Zq ?_ NB25.out _; refine Zq ?_ NB24.out _; exact BK2.out))
    have n2_ := Aside0.mk (hN.k_ g4 (.cells #[.string t1, .slice none 0 0] 24 (0, 0)) NB46.out NB45.out (by refine Zq ?_ NB46.out _; refine Zq ?_ NB45.out _; refine Zp (cs := #[.string (⟨#[]⟩ : ByteArray), .slice none 0 0]) ?_ 0 _ rfl; exact BK4.out))
    have n3_ := Aside0.mk (hN.r_)
    have n4_ := Aside0.mk (hN.e_)
    clear HB BK2 BK4 BK5 BK6
    have HB := n0_
    have BK2 := n1_
    have BK4 := n2_
    have BK5 := n3_
    have BK6 := n4_
    clear n0_ n1_ n2_ n3_ n4_
    clear hN
    obtain ⟨⟨hc20, hc21⟩, hf20, hf21⟩ := Zk2 BK2
    obtain ⟨⟨hc40, hc41⟩, hf40, hf41⟩ := Zk2 BK4
    obtain ⟨hc5, hf5⟩ := Zk1 BK5
    obtain ⟨hc6, hf6⟩ := Zk1 BK6
    simp only [errW_none] at hc6
    go_wp2
    refine wp_goto ?_
    try simp only [Exit.then]
    refine jump_goto ?_
    go_wp2
    rw [jump_ret]
    refine bodyPost_ret (results_ct rfl _ _ g2 24 #[.string (⟨#[]⟩ : ByteArray), .slice none 0 0] (0, 0) _ rfl (by refine Zp (cs := #[.string (⟨#[]⟩ : ByteArray), .slice none 0 0]) ?_ 1 _ rfl; refine Zp (cs := #[.string (⟨#[]⟩ : ByteArray), .slice none 0 0]) ?_ 0 _ rfl; skip; exact BK2.out) Try.underlying24 rfl (by kernel_rfl)) rfl ?_
    exact ⟨_, rfl, Kd.R_nil _ _ _ _ _, Yr HB⟩
set_option maxHeartbeats 4000000 in
set_option maxRecDepth 100000 in
theorem define_Decode.way4 (a0 : ByteArray) (t1 t2 : ByteArray) (n : Int) (R' : ByteArray) (HT : Aside0 (pack_ReadText.f a0 = some (t1, t2, none))) (HN : Aside0 (nextNum t2 none = (n, R', none))) (h0 : 0 ≤ n) (h6 : n ≤ 6) (rF : ByteArray) (eF : Option Int) (lF : List S43) (HD : Aside0 (decR n.toNat R' none [] = (rF, eF, lF))) (s : ByteArray) (er : Option Int) (HE : Aside0 (define_Encode.f 100 t1 lF = some (s, er))) (r1 : ByteArray) (r2 : List S43) (r3 : Option Int) (HF : Aside0 ((if eF.isNone = true ∧ er.isNone = true ∧ s.toList = a0.toList then some (t1, lF, (none : Option Int)) else some ((⟨#[]⟩ : ByteArray), ([] : List S43), some 3)) = some (r1, r2, r3))) (w : World) :
    Calls Try.prog 18 #[.string a0] w fun e w' => ∃ v1_ : Value, e = .returned (.tuple #[.agg #[.string r1, v1_], errW r3]) ∧ Kd.R k43 43 w' w.heap.size (fun _ => True) v1_ r2 ∧ Below w.heap.size w w' := by
    have hu24 := Try.underlying24
    have hu22 := Try.underlying22
    have hu43 := Try.underlying43
    have HB := Aside0.mk (Below.refl w.heap.size w)
    go_enter Try.func18, Try.ntmps18
    go_wp2_with (first | ((with_reducible refine gate_dst (N := 2) rfl ?_); refine box_event ?hg (N := 2) ?hd (cs := #[.string (⟨#[]⟩ : ByteArray), .slice none 0 0]) (t := 24) ?hr ?_; (case hd => rfl); (case hg => rfl); (case hr => first | (go_simp; done) | (go_simp; rfl)); intro g2 hg w2 hbox hb; have n0_ := Aside0.mk (Yv HB hb); have BK2 := Aside0.mk hbox; have GE2 := Aside0.mk (Yg HB hg); clear HB; have HB := n0_; clear n0_; clear hb hbox hg) | ((with_reducible refine gate_dst (N := 4) rfl ?_); refine box_event ?hg (N := 4) ?hd (cs := #[.string (⟨#[]⟩ : ByteArray), .slice none 0 0]) (t := 24) ?hr ?_; (case hd => rfl); (case hg => rfl); (case hr => first | (go_simp; done) | (go_simp; rfl)); intro g4 hg w4 hbox hb; have n0_ := Aside0.mk (Yv HB hb); have n1_ := Aside0.mk (Zv BK2 hb); have BK4 := Aside0.mk hbox; have GE4 := Aside0.mk (Yg HB hg); have NB24 := Aside0.mk (Zl BK2 hg); have NB42 := Aside0.mk (Zg BK2 hg); clear HB BK2; have HB := n0_; have BK2 := n1_; clear n0_ n1_; clear hb hbox hg) | ((with_reducible refine gate_dst (N := 5) rfl ?_); refine box_event ?hg (N := 5) ?hd (cs := #[.string (⟨#[]⟩ : ByteArray)]) (t := 9) ?hr ?_; (case hd => rfl); (case hg => rfl); (case hr => first | (go_simp; done) | (go_simp; rfl)); intro g5 hg w5 hbox hb; have n0_ := Aside0.mk (Yv HB hb); have n1_ := Aside0.mk (Zv BK2 hb); have n2_ := Aside0.mk (Zv BK4 hb); have BK5 := Aside0.mk hbox; have GE5 := Aside0.mk (Yg HB hg); have NB25 := Aside0.mk (Zl BK2 hg); have NB52 := Aside0.mk (Zg BK2 hg); have NB45 := Aside0.mk (Zl BK4 hg); have NB54 := Aside0.mk (Zg BK4 hg); clear HB BK2 BK4; have HB := n0_; have BK2 := n1_; have BK4 := n2_; clear n0_ n1_ n2_; clear hb hbox hg) | ((with_reducible refine gate_dst (N := 6) rfl ?_); refine box_event ?hg (N := 6) ?hd (cs := #[.nilIface]) (t := 31) ?hr ?_; (case hd => rfl); (case hg => rfl); (case hr => first | (go_simp; done) | (go_simp; rfl)); intro g6 hg w6 hbox hb; have n0_ := Aside0.mk (Yv HB hb); have n1_ := Aside0.mk (Zv BK2 hb); have n2_ := Aside0.mk (Zv BK4 hb); have n3_ := Aside0.mk (Zv BK5 hb); have BK6 := Aside0.mk hbox; have GE6 := Aside0.mk (Yg HB hg); have NB26 := Aside0.mk (Zl BK2 hg); have NB62 := Aside0.mk (Zg BK2 hg); have NB46 := Aside0.mk (Zl BK4 hg); have NB64 := Aside0.mk (Zg BK4 hg); have NB56 := Aside0.mk (Zl BK5 hg); have NB65 := Aside0.mk (Zg BK5 hg); clear HB BK2 BK4 BK5; have HB := n0_; have BK2 := n1_; have BK4 := n2_; have BK5 := n3_; clear n0_ n1_ n2_ n3_; clear hb hbox hg) | (go_at_call 29; (with_reducible refine (pack_ReadText.calls a0 t1 t2 (none) _ HT.out).mono ?_); rintro e w7 ⟨rfl, hb⟩; have n0_ := Aside0.mk (Yv HB hb); have n1_ := Aside0.mk (Zv BK2 hb); have n2_ := Aside0.mk (Zv BK4 hb); have n3_ := Aside0.mk (Zv BK5 hb); have n4_ := Aside0.mk (Zv BK6 hb); clear HB BK2 BK4 BK5 BK6; have HB := n0_; have BK2 := n1_; have BK4 := n2_; have BK5 := n3_; have BK6 := n4_; clear n0_ n1_ n2_ n3_ n4_; clear hb; obtain ⟨⟨hc20, hc21⟩, hf20, hf21⟩ := Zk2 BK2; obtain ⟨⟨hc40, hc41⟩, hf40, hf41⟩ := Zk2 BK4; obtain ⟨hc5, hf5⟩ := Zk1 BK5; obtain ⟨hc6, hf6⟩ := Zk1 BK6; have q1 := NB24.out; have q2 := NB42.out; have q3 := NB25.out; have q4 := NB52.out; have q5 := NB26.out; have q6 := NB62.out; have q7 := NB45.out; have q8 := NB54.out; have q9 := NB46.out; have q10 := NB64.out; have q11 := NB56.out; have q12 := NB65.out; simp only [errW_none]))
    refine wp_scope_fwd 0 (by rfl) ?_
    go_wp2_with (first | ((with_reducible refine gate_dst (N := 2) rfl ?_); refine box_event ?hg (N := 2) ?hd (cs := #[.string (⟨#[]⟩ : ByteArray), .slice none 0 0]) (t := 24) ?hr ?_; (case hd => rfl); (case hg => rfl); (case hr => first | (go_simp; done) | (go_simp; rfl)); intro g2 hg w2 hbox hb; have n0_ := Aside0.mk (Yv HB hb); have BK2 := Aside0.mk hbox; have GE2 := Aside0.mk (Yg HB hg); clear HB; have HB := n0_; clear n0_; clear hb hbox hg) | ((with_reducible refine gate_dst (N := 4) rfl ?_); refine box_event ?hg (N := 4) ?hd (cs := #[.string (⟨#[]⟩ : ByteArray), .slice none 0 0]) (t := 24) ?hr ?_; (case hd => rfl); (case hg => rfl); (case hr => first | (go_simp; done) | (go_simp; rfl)); intro g4 hg w4 hbox hb; have n0_ := Aside0.mk (Yv HB hb); have n1_ := Aside0.mk (Zv BK2 hb); have BK4 := Aside0.mk hbox; have GE4 := Aside0.mk (Yg HB hg); have NB24 := Aside0.mk (Zl BK2 hg); have NB42 := Aside0.mk (Zg BK2 hg); clear HB BK2; have HB := n0_; have BK2 := n1_; clear n0_ n1_; clear hb hbox hg) | ((with_reducible refine gate_dst (N := 5) rfl ?_); refine box_event ?hg (N := 5) ?hd (cs := #[.string (⟨#[]⟩ : ByteArray)]) (t := 9) ?hr ?_; (case hd => rfl); (case hg => rfl); (case hr => first | (go_simp; done) | (go_simp; rfl)); intro g5 hg w5 hbox hb; have n0_ := Aside0.mk (Yv HB hb); have n1_ := Aside0.mk (Zv BK2 hb); have n2_ := Aside0.mk (Zv BK4 hb); have BK5 := Aside0.mk hbox; have GE5 := Aside0.mk (Yg HB hg); have NB25 := Aside0.mk (Zl BK2 hg); have NB52 := Aside0.mk (Zg BK2 hg); have NB45 := Aside0.mk (Zl BK4 hg); have NB54 := Aside0.mk (Zg BK4 hg); clear HB BK2 BK4; have HB := n0_; have BK2 := n1_; have BK4 := n2_; clear n0_ n1_ n2_; clear hb hbox hg) | ((with_reducible refine gate_dst (N := 6) rfl ?_); refine box_event ?hg (N := 6) ?hd (cs := #[.nilIface]) (t := 31) ?hr ?_; (case hd => rfl); (case hg => rfl); (case hr => first | (go_simp; done) | (go_simp; rfl)); intro g6 hg w6 hbox hb; have n0_ := Aside0.mk (Yv HB hb); have n1_ := Aside0.mk (Zv BK2 hb); have n2_ := Aside0.mk (Zv BK4 hb); have n3_ := Aside0.mk (Zv BK5 hb); have BK6 := Aside0.mk hbox; have GE6 := Aside0.mk (Yg HB hg); have NB26 := Aside0.mk (Zl BK2 hg); have NB62 := Aside0.mk (Zg BK2 hg); have NB46 := Aside0.mk (Zl BK4 hg); have NB64 := Aside0.mk (Zg BK4 hg); have NB56 := Aside0.mk (Zl BK5 hg); have NB65 := Aside0.mk (Zg BK5 hg); clear HB BK2 BK4 BK5; have HB := n0_; have BK2 := n1_; have BK4 := n2_; have BK5 := n3_; clear n0_ n1_ n2_ n3_; clear hb hbox hg) | (go_at_call 29; (with_reducible refine (pack_ReadText.calls a0 t1 t2 (none) _ HT.out).mono ?_); rintro e w7 ⟨rfl, hb⟩; have n0_ := Aside0.mk (Yv HB hb); have n1_ := Aside0.mk (Zv BK2 hb); have n2_ := Aside0.mk (Zv BK4 hb); have n3_ := Aside0.mk (Zv BK5 hb); have n4_ := Aside0.mk (Zv BK6 hb); clear HB BK2 BK4 BK5 BK6; have HB := n0_; have BK2 := n1_; have BK4 := n2_; have BK5 := n3_; have BK6 := n4_; clear n0_ n1_ n2_ n3_ n4_; clear hb; obtain ⟨⟨hc20, hc21⟩, hf20, hf21⟩ := Zk2 BK2; obtain ⟨⟨hc40, hc41⟩, hf40, hf41⟩ := Zk2 BK4; obtain ⟨hc5, hf5⟩ := Zk1 BK5; obtain ⟨hc6, hf6⟩ := Zk1 BK6; have q1 := NB24.out; have q2 := NB42.out; have q3 := NB25.out; have q4 := NB52.out; have q5 := NB26.out; have q6 := NB62.out; have q7 := NB45.out; have q8 := NB54.out; have q9 := NB46.out; have q10 := NB64.out; have q11 := NB56.out; have q12 := NB65.out; simp only [errW_none]))
    repeat (go_quiet (first | ((with_reducible refine gate_dst (N := 2) rfl ?_); refine box_event ?hg (N := 2) ?hd (cs := #[.string (⟨#[]⟩ : ByteArray), .slice none 0 0]) (t := 24) ?hr ?_; (case hd => rfl); (case hg => rfl); (case hr => first | (go_simp; done) | (go_simp; rfl)); intro g2 hg w2 hbox hb; have n0_ := Aside0.mk (Yv HB hb); have BK2 := Aside0.mk hbox; have GE2 := Aside0.mk (Yg HB hg); clear HB; have HB := n0_; clear n0_; clear hb hbox hg) | ((with_reducible refine gate_dst (N := 4) rfl ?_); refine box_event ?hg (N := 4) ?hd (cs := #[.string (⟨#[]⟩ : ByteArray), .slice none 0 0]) (t := 24) ?hr ?_; (case hd => rfl); (case hg => rfl); (case hr => first | (go_simp; done) | (go_simp; rfl)); intro g4 hg w4 hbox hb; have n0_ := Aside0.mk (Yv HB hb); have n1_ := Aside0.mk (Zv BK2 hb); have BK4 := Aside0.mk hbox; have GE4 := Aside0.mk (Yg HB hg); have NB24 := Aside0.mk (Zl BK2 hg); have NB42 := Aside0.mk (Zg BK2 hg); clear HB BK2; have HB := n0_; have BK2 := n1_; clear n0_ n1_; clear hb hbox hg) | ((with_reducible refine gate_dst (N := 5) rfl ?_); refine box_event ?hg (N := 5) ?hd (cs := #[.string (⟨#[]⟩ : ByteArray)]) (t := 9) ?hr ?_; (case hd => rfl); (case hg => rfl); (case hr => first | (go_simp; done) | (go_simp; rfl)); intro g5 hg w5 hbox hb; have n0_ := Aside0.mk (Yv HB hb); have n1_ := Aside0.mk (Zv BK2 hb); have n2_ := Aside0.mk (Zv BK4 hb); have BK5 := Aside0.mk hbox; have GE5 := Aside0.mk (Yg HB hg); have NB25 := Aside0.mk (Zl BK2 hg); have NB52 := Aside0.mk (Zg BK2 hg); have NB45 := Aside0.mk (Zl BK4 hg); have NB54 := Aside0.mk (Zg BK4 hg); clear HB BK2 BK4; have HB := n0_; have BK2 := n1_; have BK4 := n2_; clear n0_ n1_ n2_; clear hb hbox hg) | ((with_reducible refine gate_dst (N := 6) rfl ?_); refine box_event ?hg (N := 6) ?hd (cs := #[.nilIface]) (t := 31) ?hr ?_; (case hd => rfl); (case hg => rfl); (case hr => first | (go_simp; done) | (go_simp; rfl)); intro g6 hg w6 hbox hb; have n0_ := Aside0.mk (Yv HB hb); have n1_ := Aside0.mk (Zv BK2 hb); have n2_ := Aside0.mk (Zv BK4 hb); have n3_ := Aside0.mk (Zv BK5 hb); have BK6 := Aside0.mk hbox; have GE6 := Aside0.mk (Yg HB hg); have NB26 := Aside0.mk (Zl BK2 hg); have NB62 := Aside0.mk (Zg BK2 hg); have NB46 := Aside0.mk (Zl BK4 hg); have NB64 := Aside0.mk (Zg BK4 hg); have NB56 := Aside0.mk (Zl BK5 hg); have NB65 := Aside0.mk (Zg BK5 hg); clear HB BK2 BK4 BK5; have HB := n0_; have BK2 := n1_; have BK4 := n2_; have BK5 := n3_; clear n0_ n1_ n2_ n3_; clear hb hbox hg) | (go_at_call 29; (with_reducible refine (pack_ReadText.calls a0 t1 t2 (none) _ HT.out).mono ?_); rintro e w7 ⟨rfl, hb⟩; have n0_ := Aside0.mk (Yv HB hb); have n1_ := Aside0.mk (Zv BK2 hb); have n2_ := Aside0.mk (Zv BK4 hb); have n3_ := Aside0.mk (Zv BK5 hb); have n4_ := Aside0.mk (Zv BK6 hb); clear HB BK2 BK4 BK5 BK6; have HB := n0_; have BK2 := n1_; have BK4 := n2_; have BK5 := n3_; have BK6 := n4_; clear n0_ n1_ n2_ n3_ n4_; clear hb; obtain ⟨⟨hc20, hc21⟩, hf20, hf21⟩ := Zk2 BK2; obtain ⟨⟨hc40, hc41⟩, hf40, hf41⟩ := Zk2 BK4; obtain ⟨hc5, hf5⟩ := Zk1 BK5; obtain ⟨hc6, hf6⟩ := Zk1 BK6; have q1 := NB24.out; have q2 := NB42.out; have q3 := NB25.out; have q4 := NB52.out; have q5 := NB26.out; have q6 := NB62.out; have q7 := NB45.out; have q8 := NB54.out; have q9 := NB46.out; have q10 := NB64.out; have q11 := NB56.out; have q12 := NB65.out; simp only [errW_none])); try go_wp2_with (first | ((with_reducible refine gate_dst (N := 2) rfl ?_); refine box_event ?hg (N := 2) ?hd (cs := #[.string (⟨#[]⟩ : ByteArray), .slice none 0 0]) (t := 24) ?hr ?_; (case hd => rfl); (case hg => rfl); (case hr => first | (go_simp; done) | (go_simp; rfl)); intro g2 hg w2 hbox hb; have n0_ := Aside0.mk (Yv HB hb); have BK2 := Aside0.mk hbox; have GE2 := Aside0.mk (Yg HB hg); clear HB; have HB := n0_; clear n0_; clear hb hbox hg) | ((with_reducible refine gate_dst (N := 4) rfl ?_); refine box_event ?hg (N := 4) ?hd (cs := #[.string (⟨#[]⟩ : ByteArray), .slice none 0 0]) (t := 24) ?hr ?_; (case hd => rfl); (case hg => rfl); (case hr => first | (go_simp; done) | (go_simp; rfl)); intro g4 hg w4 hbox hb; have n0_ := Aside0.mk (Yv HB hb); have n1_ := Aside0.mk (Zv BK2 hb); have BK4 := Aside0.mk hbox; have GE4 := Aside0.mk (Yg HB hg); have NB24 := Aside0.mk (Zl BK2 hg); have NB42 := Aside0.mk (Zg BK2 hg); clear HB BK2; have HB := n0_; have BK2 := n1_; clear n0_ n1_; clear hb hbox hg) | ((with_reducible refine gate_dst (N := 5) rfl ?_); refine box_event ?hg (N := 5) ?hd (cs := #[.string (⟨#[]⟩ : ByteArray)]) (t := 9) ?hr ?_; (case hd => rfl); (case hg => rfl); (case hr => first | (go_simp; done) | (go_simp; rfl)); intro g5 hg w5 hbox hb; have n0_ := Aside0.mk (Yv HB hb); have n1_ := Aside0.mk (Zv BK2 hb); have n2_ := Aside0.mk (Zv BK4 hb); have BK5 := Aside0.mk hbox; have GE5 := Aside0.mk (Yg HB hg); have NB25 := Aside0.mk (Zl BK2 hg); have NB52 := Aside0.mk (Zg BK2 hg); have NB45 := Aside0.mk (Zl BK4 hg); have NB54 := Aside0.mk (Zg BK4 hg); clear HB BK2 BK4; have HB := n0_; have BK2 := n1_; have BK4 := n2_; clear n0_ n1_ n2_; clear hb hbox hg) | ((with_reducible refine gate_dst (N := 6) rfl ?_); refine box_event ?hg (N := 6) ?hd (cs := #[.nilIface]) (t := 31) ?hr ?_; (case hd => rfl); (case hg => rfl); (case hr => first | (go_simp; done) | (go_simp; rfl)); intro g6 hg w6 hbox hb; have n0_ := Aside0.mk (Yv HB hb); have n1_ := Aside0.mk (Zv BK2 hb); have n2_ := Aside0.mk (Zv BK4 hb); have n3_ := Aside0.mk (Zv BK5 hb); have BK6 := Aside0.mk hbox; have GE6 := Aside0.mk (Yg HB hg); have NB26 := Aside0.mk (Zl BK2 hg); have NB62 := Aside0.mk (Zg BK2 hg); have NB46 := Aside0.mk (Zl BK4 hg); have NB64 := Aside0.mk (Zg BK4 hg); have NB56 := Aside0.mk (Zl BK5 hg); have NB65 := Aside0.mk (Zg BK5 hg); clear HB BK2 BK4 BK5; have HB := n0_; have BK2 := n1_; have BK4 := n2_; have BK5 := n3_; clear n0_ n1_ n2_ n3_; clear hb hbox hg) | (go_at_call 29; (with_reducible refine (pack_ReadText.calls a0 t1 t2 (none) _ HT.out).mono ?_); rintro e w7 ⟨rfl, hb⟩; have n0_ := Aside0.mk (Yv HB hb); have n1_ := Aside0.mk (Zv BK2 hb); have n2_ := Aside0.mk (Zv BK4 hb); have n3_ := Aside0.mk (Zv BK5 hb); have n4_ := Aside0.mk (Zv BK6 hb); clear HB BK2 BK4 BK5 BK6; have HB := n0_; have BK2 := n1_; have BK4 := n2_; have BK5 := n3_; have BK6 := n4_; clear n0_ n1_ n2_ n3_ n4_; clear hb; obtain ⟨⟨hc20, hc21⟩, hf20, hf21⟩ := Zk2 BK2; obtain ⟨⟨hc40, hc41⟩, hf40, hf41⟩ := Zk2 BK4; obtain ⟨hc5, hf5⟩ := Zk1 BK5; obtain ⟨hc6, hf6⟩ := Zk1 BK6; have q1 := NB24.out; have q2 := NB42.out; have q3 := NB25.out; have q4 := NB52.out; have q5 := NB26.out; have q6 := NB62.out; have q7 := NB45.out; have q8 := NB54.out; have q9 := NB46.out; have q10 := NB64.out; have q11 := NB56.out; have q12 := NB65.out; simp only [errW_none])))
    refine (define_num.calls g6 g5 none t2 n R' (none) _ NB65.out HN.out ?he ?hr).mono ?_
    case he => refine Zp (cs := #[.nilIface]) ?_ 0 _ rfl; refine Zq ?_ NB65.out _; refine Zq ?_ NB64.out _; exact BK6.out
    case hr => refine Zq ?_ NB56.out _; refine Zp (cs := #[.string (⟨#[]⟩ : ByteArray)]) ?_ 0 _ rfl; refine Zq ?_ NB54.out _; exact BK5.out
    rintro e w8 ⟨rfl, hN⟩
    have n0_ := Aside0.mk (hN.b_ _ (Yr HB) GE6.out GE5.out)
    have n1_ := Aside0.mk (hN.k_ g2 (.cells #[.string (⟨#[]⟩ : ByteArray), .slice none 0 0] 24 (0, 0)) NB26.out NB25.out (by refine Zq ?_ NB26.out _; refine Zq ?_ NB25.out _; refine Zq ?_ NB24.out _; exact BK2.out))
    have n2_ := Aside0.mk (hN.k_ g4 (.cells #[.string t1, .slice none 0 0] 24 (0, 0)) NB46.out NB45.out (by refine Zq ?_ NB46.out _; refine Zq ?_ NB45.out _; refine Zp (cs := #[.string (⟨#[]⟩ : ByteArray), .slice none 0 0]) ?_ 0 _ rfl; exact BK4.out))
    have n3_ := Aside0.mk (hN.r_)
    have n4_ := Aside0.mk (hN.e_)
    clear HB BK2 BK4 BK5 BK6
    have HB := n0_
    have BK2 := n1_
    have BK4 := n2_
    have BK5 := n3_
    have BK6 := n4_
    clear n0_ n1_ n2_ n3_ n4_
    clear hN
    obtain ⟨⟨hc20, hc21⟩, hf20, hf21⟩ := Zk2 BK2
    obtain ⟨⟨hc40, hc41⟩, hf40, hf41⟩ := Zk2 BK4
    obtain ⟨hc5, hf5⟩ := Zk1 BK5
    obtain ⟨hc6, hf6⟩ := Zk1 BK6
    simp only [errW_none] at hc6
    go_wp2
    go_loopg [30] n.toNat (fun kq v30 w' => ∃ (i : Int) (rr : ByteArray) (ee : Option Int) (l : List S43) (u : Value), v30 = .int .i64 i ∧ Aside0 (0 ≤ i ∧ i + (kq : Int) = n) ∧ Aside0 (decR kq rr ee l = (rF, eF, lF)) ∧ Aside0 (Kd.R k43 43 w' w.heap.size (fun _ => True) u l) ∧ Aside0 (l.length + kq = n.toNat) ∧ Aside0 (w'.heap[g2]? = some (.cells #[.string (⟨#[]⟩ : ByteArray), .slice none 0 0] 24 (0, 0))) ∧ Aside0 (w'.heap[g4]? = some (.cells #[.string t1, u] 24 (0, 0))) ∧ Aside0 (w'.heap[g5]? = some (.cells #[.string rr] 9 (0, 0))) ∧ Aside0 (w'.heap[g6]? = some (.cells #[errW ee] 31 (0, 0))) ∧ Aside0 (Below w.heap.size w w'))
    case atStart => exact ⟨0, R', none, [], .slice none 0 0, rfl, ⟨⟨Int.le_refl _, by omega⟩⟩, HD, ⟨Kd.R_nil _ _ _ _ _⟩, ⟨by simp⟩, BK2, BK4, BK5, BK6, HB⟩
    case round =>
      clear HD hc20 hc21 hf20 hf21 hc40 hc41 hf40 hf41 hc5 hf5 hc6 hf6
      obtain ⟨i, rr, ee, l, u, rfl, HI, HD, HR, HL, BK2, BK4, BK5, BK6, HB⟩ := hrel
      cases gk with
      | zero =>
        have hlt : ¬ i < n := by have := HI.out; omega
        obtain ⟨rfl, rfl, rfl⟩ : rr = rF ∧ ee = eF ∧ l = lF := by have := HD.out; simpa [decR] using this
        obtain ⟨Ao, co, eo⟩ := Kd.R_slice HR.out
        subst eo
        obtain ⟨⟨hc20, hc21⟩, hf20, hf21⟩ := Zk2 BK2
        obtain ⟨⟨hc40, hc41⟩, hf40, hf41⟩ := Zk2 BK4
        obtain ⟨hc5, hf5⟩ := Zk1 BK5
        obtain ⟨hc6, hf6⟩ := Zk1 BK6
        try simp only [errW_none, errW_some] at hc6
        cases ee with
        | some e0 =>
          have hbad : ¬ ((some e0 : Option Int).isNone = true ∧ er.isNone = true ∧ s.toList = a0.toList) := fun h => by cases h.1
          try simp only [errW_none, errW_some] at hc6
          have HX := HF.out
          rw [if_neg hbad] at HX
          simp only [Option.some.injEq, Prod.mk.injEq] at HX
          obtain ⟨rfl, rfl, rfl⟩ := HX
          go_wp2_with (first | (go_at_call 15; (with_reducible refine (define_Encode.calls 100 t1 _ _ l s _ _ ?side1 ?side2 HE.out).mono ?_); (case side1 => exact (Kd.R_reads' HR.out).2.2); (case side2 => exact (Kd.R_reads' HR.out).2.1); rintro e w41 ⟨rfl, hb⟩; have n0_ := Aside0.mk (Kd.R_below HR.out hb); have n1_ := Aside0.mk (Zv BK2 hb); have n2_ := Aside0.mk (Zv BK4 hb); have n3_ := Aside0.mk (Zv BK5 hb); have n4_ := Aside0.mk (Zv BK6 hb); have n5_ := Aside0.mk (Yv HB hb); clear HR BK2 BK4 BK5 BK6 HB; have HR := n0_; have BK2 := n1_; have BK4 := n2_; have BK5 := n3_; have BK6 := n4_; have HB := n5_; clear n0_ n1_ n2_ n3_ n4_ n5_ hb; obtain ⟨⟨hc20, hc21⟩, hf20, hf21⟩ := Zk2 BK2; obtain ⟨⟨hc40, hc41⟩, hf40, hf41⟩ := Zk2 BK4; obtain ⟨hc5, hf5⟩ := Zk1 BK5; obtain ⟨hc6, hf6⟩ := Zk1 BK6; have q1 := NB24.out; have q2 := NB42.out; have q3 := NB25.out; have q4 := NB52.out; have q5 := NB26.out; have q6 := NB62.out; have q7 := NB45.out; have q8 := NB54.out; have q9 := NB46.out; have q10 := NB64.out; have q11 := NB56.out; have q12 := NB65.out; try simp only [errW_none, errW_some] at hc6; try simp only [errW_none, errW_some]))
          refine wp_label ?_
          try simp only [Exit.then]
          go_wp2
          rw [jump_ret]
          refine bodyPost_ret (results_ct rfl _ _ g2 24 #[.string (⟨#[]⟩ : ByteArray), .slice none 0 0] (0, 0) _ rfl (by refine Zp (cs := #[.string (⟨#[]⟩ : ByteArray), .slice none 0 0]) ?_ 1 _ rfl; refine Zp (cs := #[.string (⟨#[]⟩ : ByteArray), .slice none 0 0]) ?_ 0 _ rfl; skip; exact BK2.out) Try.underlying24 rfl (by kernel_rfl)) rfl ?_
          exact ⟨_, rfl, Kd.R_nil _ _ _ _ _, Yr HB⟩
        | none =>
          try simp only [errW_none, errW_some] at hc6
          cases er with
          | some e1 =>
            have hbad : ¬ ((none : Option Int).isNone = true ∧ (some e1 : Option Int).isNone = true ∧ s.toList = a0.toList) := fun h => by cases h.2.1
            have HX := HF.out
            rw [if_neg hbad] at HX
            simp only [Option.some.injEq, Prod.mk.injEq] at HX
            obtain ⟨rfl, rfl, rfl⟩ := HX
            go_wp2_with (first | (go_at_call 15; (with_reducible refine (define_Encode.calls 100 t1 _ _ l s _ _ ?side1 ?side2 HE.out).mono ?_); (case side1 => exact (Kd.R_reads' HR.out).2.2); (case side2 => exact (Kd.R_reads' HR.out).2.1); rintro e w41 ⟨rfl, hb⟩; have n0_ := Aside0.mk (Kd.R_below HR.out hb); have n1_ := Aside0.mk (Zv BK2 hb); have n2_ := Aside0.mk (Zv BK4 hb); have n3_ := Aside0.mk (Zv BK5 hb); have n4_ := Aside0.mk (Zv BK6 hb); have n5_ := Aside0.mk (Yv HB hb); clear HR BK2 BK4 BK5 BK6 HB; have HR := n0_; have BK2 := n1_; have BK4 := n2_; have BK5 := n3_; have BK6 := n4_; have HB := n5_; clear n0_ n1_ n2_ n3_ n4_ n5_ hb; obtain ⟨⟨hc20, hc21⟩, hf20, hf21⟩ := Zk2 BK2; obtain ⟨⟨hc40, hc41⟩, hf40, hf41⟩ := Zk2 BK4; obtain ⟨hc5, hf5⟩ := Zk1 BK5; obtain ⟨hc6, hf6⟩ := Zk1 BK6; have q1 := NB24.out; have q2 := NB42.out; have q3 := NB25.out; have q4 := NB52.out; have q5 := NB26.out; have q6 := NB62.out; have q7 := NB45.out; have q8 := NB54.out; have q9 := NB46.out; have q10 := NB64.out; have q11 := NB56.out; have q12 := NB65.out; try simp only [errW_none, errW_some] at hc6; try simp only [errW_none, errW_some]))
            refine wp_label ?_
            try simp only [Exit.then]
            go_wp2
            rw [jump_ret]
            refine bodyPost_ret (results_ct rfl _ _ g2 24 #[.string (⟨#[]⟩ : ByteArray), .slice none 0 0] (0, 0) _ rfl (by refine Zp (cs := #[.string (⟨#[]⟩ : ByteArray), .slice none 0 0]) ?_ 1 _ rfl; refine Zp (cs := #[.string (⟨#[]⟩ : ByteArray), .slice none 0 0]) ?_ 0 _ rfl; skip; exact BK2.out) Try.underlying24 rfl (by kernel_rfl)) rfl ?_
            exact ⟨_, rfl, Kd.R_nil _ _ _ _ _, Yr HB⟩
          | none =>
            by_cases hs : s.toList = a0.toList
            · have b0 : (s.toList == a0.toList) = true := beq_iff_eq.mpr hs
              have b1 : (s.toList != a0.toList) = false := bne_eq_false_iff_eq.mpr hs
              have HX := HF.out
              rw [if_pos ⟨rfl, rfl, hs⟩] at HX
              simp only [Option.some.injEq, Prod.mk.injEq] at HX
              obtain ⟨rfl, rfl, rfl⟩ := HX
              clear hs
              go_wp2_with (first | (go_at_call 15; (with_reducible refine (define_Encode.calls 100 t1 _ _ l s _ _ ?side1 ?side2 HE.out).mono ?_); (case side1 => exact (Kd.R_reads' HR.out).2.2); (case side2 => exact (Kd.R_reads' HR.out).2.1); rintro e w41 ⟨rfl, hb⟩; have n0_ := Aside0.mk (Kd.R_below HR.out hb); have n1_ := Aside0.mk (Zv BK2 hb); have n2_ := Aside0.mk (Zv BK4 hb); have n3_ := Aside0.mk (Zv BK5 hb); have n4_ := Aside0.mk (Zv BK6 hb); have n5_ := Aside0.mk (Yv HB hb); clear HR BK2 BK4 BK5 BK6 HB; have HR := n0_; have BK2 := n1_; have BK4 := n2_; have BK5 := n3_; have BK6 := n4_; have HB := n5_; clear n0_ n1_ n2_ n3_ n4_ n5_ hb; obtain ⟨⟨hc20, hc21⟩, hf20, hf21⟩ := Zk2 BK2; obtain ⟨⟨hc40, hc41⟩, hf40, hf41⟩ := Zk2 BK4; obtain ⟨hc5, hf5⟩ := Zk1 BK5; obtain ⟨hc6, hf6⟩ := Zk1 BK6; have q1 := NB24.out; have q2 := NB42.out; have q3 := NB25.out; have q4 := NB52.out; have q5 := NB26.out; have q6 := NB62.out; have q7 := NB45.out; have q8 := NB54.out; have q9 := NB46.out; have q10 := NB64.out; have q11 := NB56.out; have q12 := NB65.out; try simp only [errW_none, errW_some] at hc6; try simp only [errW_none, errW_some]))
              rw [jump_ret]
              refine bodyPost_ret (results_ct rfl _ _ g2 24 #[.string t1, .slice Ao l.length co] (0, 0) _ rfl (by refine Zp (cs := #[.string t1, .slice none 0 0]) ?_ 1 _ rfl; refine Zp (cs := #[.string (⟨#[]⟩ : ByteArray), .slice none 0 0]) ?_ 0 _ rfl; exact BK2.out) Try.underlying24 rfl (by kernel_rfl)) rfl ?_
              exact ⟨_, rfl, Kd.R_mono (Kd.R_far (p := ⟨g2, 1, none⟩) (Kd.R_far (p := ⟨g2, 0, none⟩) (Kd.R_types HR.out BK2.out (by decide)) (fun _ hk => hk.2) _) (fun _ hk => hk.2) _) (fun _ hk => trivial), Yr HB⟩
            · have b0 : (s.toList == a0.toList) = false := beq_eq_false_iff_ne.mpr hs
              have b1 : (s.toList != a0.toList) = true := bne_iff_ne.mpr hs
              have hbad : ¬ ((none : Option Int).isNone = true ∧ (none : Option Int).isNone = true ∧ s.toList = a0.toList) := fun h => hs h.2.2
              clear hs
              have HX := HF.out
              rw [if_neg hbad] at HX
              simp only [Option.some.injEq, Prod.mk.injEq] at HX
              obtain ⟨rfl, rfl, rfl⟩ := HX
              go_wp2_with (first | (go_at_call 15; (with_reducible refine (define_Encode.calls 100 t1 _ _ l s _ _ ?side1 ?side2 HE.out).mono ?_); (case side1 => exact (Kd.R_reads' HR.out).2.2); (case side2 => exact (Kd.R_reads' HR.out).2.1); rintro e w41 ⟨rfl, hb⟩; have n0_ := Aside0.mk (Kd.R_below HR.out hb); have n1_ := Aside0.mk (Zv BK2 hb); have n2_ := Aside0.mk (Zv BK4 hb); have n3_ := Aside0.mk (Zv BK5 hb); have n4_ := Aside0.mk (Zv BK6 hb); have n5_ := Aside0.mk (Yv HB hb); clear HR BK2 BK4 BK5 BK6 HB; have HR := n0_; have BK2 := n1_; have BK4 := n2_; have BK5 := n3_; have BK6 := n4_; have HB := n5_; clear n0_ n1_ n2_ n3_ n4_ n5_ hb; obtain ⟨⟨hc20, hc21⟩, hf20, hf21⟩ := Zk2 BK2; obtain ⟨⟨hc40, hc41⟩, hf40, hf41⟩ := Zk2 BK4; obtain ⟨hc5, hf5⟩ := Zk1 BK5; obtain ⟨hc6, hf6⟩ := Zk1 BK6; have q1 := NB24.out; have q2 := NB42.out; have q3 := NB25.out; have q4 := NB52.out; have q5 := NB26.out; have q6 := NB62.out; have q7 := NB45.out; have q8 := NB54.out; have q9 := NB46.out; have q10 := NB64.out; have q11 := NB56.out; have q12 := NB65.out; try simp only [errW_none, errW_some] at hc6; try simp only [errW_none, errW_some]))
              refine wp_label ?_
              try simp only [Exit.then]
              go_wp2
              rw [jump_ret]
              refine bodyPost_ret (results_ct rfl _ _ g2 24 #[.string (⟨#[]⟩ : ByteArray), .slice none 0 0] (0, 0) _ rfl (by refine Zp (cs := #[.string (⟨#[]⟩ : ByteArray), .slice none 0 0]) ?_ 1 _ rfl; refine Zp (cs := #[.string (⟨#[]⟩ : ByteArray), .slice none 0 0]) ?_ 0 _ rfl; skip; exact BK2.out) Try.underlying24 rfl (by kernel_rfl)) rfl ?_
              exact ⟨_, rfl, Kd.R_nil _ _ _ _ _, Yr HB⟩
      | succ m =>
        have hlt : i < n := by have := HI.out; omega
        have H1 : Aside0 (nextNum rr ee = ((nextNum rr ee).1, (nextNum rr ee).2.1, (nextNum rr ee).2.2)) := ⟨rfl⟩
        have H2 : Aside0 (nextNum (nextNum rr ee).2.1 (nextNum rr ee).2.2 = ((nextNum (nextNum rr ee).2.1 (nextNum rr ee).2.2).1, (nextNum (nextNum rr ee).2.1 (nextNum rr ee).2.2).2.1, (nextNum (nextNum rr ee).2.1 (nextNum rr ee).2.2).2.2)) := ⟨rfl⟩
        have HD2 : Aside0 (decR m (nextNum (nextNum rr ee).2.1 (nextNum rr ee).2.2).2.1 (nextNum (nextNum rr ee).2.1 (nextNum rr ee).2.2).2.2 (l ++ [⟨(nextNum rr ee).1, (nextNum (nextNum rr ee).2.1 (nextNum rr ee).2.2).1⟩]) = (rF, eF, lF)) := ⟨HD.out⟩
        clear HD
        generalize (nextNum (nextNum rr ee).2.1 (nextNum rr ee).2.2).1 = b, (nextNum (nextNum rr ee).2.1 (nextNum rr ee).2.2).2.1 = x2, (nextNum (nextNum rr ee).2.1 (nextNum rr ee).2.2).2.2 = e2 at H2 HD2
        generalize (nextNum rr ee).1 = a, (nextNum rr ee).2.1 = x1, (nextNum rr ee).2.2 = e1 at H1 H2 HD2
        obtain ⟨⟨hc40, hc41⟩, hf40, hf41⟩ := Zk2 BK4
        go_wp2
        refine start_ (n := 11) (S := fun w' => w'.cell? ⟨g4, 0, none⟩ = some (.string t1) ∧ w'.cell? ⟨g4, 1, none⟩ = some u) (ds := [10]) #[false, false, false, false, false, false, false, false, false, false, false] (by kernel_rfl) rfl rfl ⟨(Zc BK4.out 0).trans rfl, (Zc BK4.out 1).trans rfl⟩ (fun hHeld => ?_)
        have n0_ := Aside0.mk (Zd BK2.out); have n1_ := Aside0.mk (Zd BK4.out); have n2_ := Aside0.mk (Zd BK5.out); have n3_ := Aside0.mk (Zd BK6.out); have n4_ := Aside0.mk (Yd HB.out); have n5_ := Aside0.mk (Kd.R_drew HR.out)
        clear BK2 BK4 BK5 BK6 HB HR
        have BK2 := n0_; have BK4 := n1_; have BK5 := n2_; have BK6 := n3_; have HB := n4_; have HR := n5_
        clear n0_ n1_ n2_ n3_ n4_ n5_
        generalize wr.drew = w20 at BK2 BK4 BK5 BK6 HB HR hHeld ⊢
        refine pure_ (i := 0) (N := some 32) (v := ?_) (a' := ?_) #[true, false, false, false, false, false, false, false, false, false, false] rfl rfl (by kernel_rfl) (fun _ _ _ h => h) (Or.inl ⟨by rfl, ?_⟩) ?_ ?_
        rotate_left
        · intro w'
          go_simp
          with_reducible rfl
        rotate_left
        · simp only [Act.put, List.setIfInBounds_toArray, List.set_cons_zero, List.set_cons_succ, i64_w, i32_w]
          rfl
        refine pure_ (i := 2) (N := some 34) (v := ?_) (a' := ?_) #[true, false, true, false, false, false, false, false, false, false, false] rfl rfl (by kernel_rfl) (fun _ _ _ h => h) (Or.inl ⟨by rfl, ?_⟩) ?_ ?_
        rotate_left
        · intro w'
          go_simp
          with_reducible rfl
        rotate_left
        · simp only [Act.put, List.setIfInBounds_toArray, List.set_cons_zero, List.set_cons_succ, i64_w, i32_w]
          rfl
        refine pure_ (i := 4) (N := some 36) (v := ?_) (a' := ?_) #[true, false, true, false, true, false, false, false, false, false, false] rfl rfl (by kernel_rfl) (fun _ _ _ h => h) (Or.inl ⟨by rfl, ?_⟩) ?_ ?_
        rotate_left
        · intro w'
          go_simp
          with_reducible rfl
        rotate_left
        · simp only [Act.put, List.setIfInBounds_toArray, List.set_cons_zero, List.set_cons_succ, i64_w, i32_w]
          rfl
        refine take_ (i := 1) (N := some 33) (v := ?_) (a' := ?_) #[true, true, true, false, true, false, false, false, false, false, false] rfl rfl (by kernel_rfl) (fun _ _ _ h => h) (Or.inl ⟨by rfl, ?_⟩) hHeld ?_ ?_
        rotate_left
        · rintro w' ⟨s0, s1⟩
          go_simp
          with_reducible rfl
        rotate_left
        · simp only [Act.put, List.setIfInBounds_toArray, List.set_cons_zero, List.set_cons_succ, i64_w, i32_w]
          rfl
        refine one_ (i := 3) (N := some 35) #[true, true, true, true, true, false, false, false, false, false, false] rfl rfl (by kernel_rfl) (by decide) (fun K hK => ?_)
        refine call_ 27 #[.pointer (some ⟨g6, 0, none⟩), .pointer (some ⟨g5, 0, none⟩)] (by rfl) rfl ?hrun ?_
        case hrun => (have he_ := enters_ (P := Try.prog) Try.func27 (by kernel_rfl) rfl #[.pointer (some ⟨g6, 0, none⟩), .pointer (some ⟨g5, 0, none⟩)]; unfold execOp; simp [resolve, Deferred.ofValue, invoke, Act.eval, he_])
        refine (define_num.calls g6 g5 ee rr a x1 e1 _ NB65.out H1.out BK6.out BK5.out).mono ?_
        rintro e w21 ⟨rfl, hN⟩
        refine ⟨_, rfl, ?_⟩
        have n0_ := Aside0.mk (hN.k_ _ _ NB26.out NB25.out BK2.out)
        have n1_ := Aside0.mk (hN.k_ _ _ NB46.out NB45.out BK4.out)
        have n2_ := Aside0.mk (hN.o_ _ _ _ HR.out)
        have n3_ := Aside0.mk (hN.b_ _ HB.out GE6.out GE5.out)
        have n4_ := Aside0.mk (hN.r_)
        have n5_ := Aside0.mk (hN.e_)
        clear BK2 BK4 HR HB BK5 BK6
        have BK2 := n0_
        have BK4 := n1_
        have HR := n2_
        have HB := n3_
        have BK5 := n4_
        have BK6 := n5_
        clear n0_ n1_ n2_ n3_ n4_ n5_
        clear hN
        refine hK.out _ _ ⟨(Zc BK4.out 0).trans rfl, (Zc BK4.out 1).trans rfl⟩ (fun hHeld => ?_)
        clear hK K
        refine norm_ (a' := ?_) ?_ ?_
        rotate_left
        · show Act.put _ (some 35) _ = _
          simp only [Act.put, List.setIfInBounds_toArray, List.set_cons_zero, List.set_cons_succ, i64_w, i32_w]
          rfl
        refine one_ (i := 5) (N := some 37) #[true, true, true, true, true, true, false, false, false, false, false] rfl rfl (by kernel_rfl) (by decide) (fun K hK => ?_)
        refine call_ 27 #[.pointer (some ⟨g6, 0, none⟩), .pointer (some ⟨g5, 0, none⟩)] (by rfl) rfl ?hrun ?_
        case hrun => (have he_ := enters_ (P := Try.prog) Try.func27 (by kernel_rfl) rfl #[.pointer (some ⟨g6, 0, none⟩), .pointer (some ⟨g5, 0, none⟩)]; unfold execOp; simp [resolve, Deferred.ofValue, invoke, Act.eval, he_])
        refine (define_num.calls g6 g5 e1 x1 b x2 e2 _ NB65.out H2.out BK6.out BK5.out).mono ?_
        rintro e w22 ⟨rfl, hN⟩
        refine ⟨_, rfl, ?_⟩
        have n0_ := Aside0.mk (hN.k_ _ _ NB26.out NB25.out BK2.out)
        have n1_ := Aside0.mk (hN.k_ _ _ NB46.out NB45.out BK4.out)
        have n2_ := Aside0.mk (hN.o_ _ _ _ HR.out)
        have n3_ := Aside0.mk (hN.b_ _ HB.out GE6.out GE5.out)
        have n4_ := Aside0.mk (hN.r_)
        have n5_ := Aside0.mk (hN.e_)
        clear BK2 BK4 HR HB BK5 BK6
        have BK2 := n0_
        have BK4 := n1_
        have HR := n2_
        have HB := n3_
        have BK5 := n4_
        have BK6 := n5_
        clear n0_ n1_ n2_ n3_ n4_ n5_
        clear hN
        refine hK.out _ _ ⟨(Zc BK4.out 0).trans rfl, (Zc BK4.out 1).trans rfl⟩ (fun hHeld => ?_)
        clear hK K
        refine norm_ (a' := ?_) ?_ ?_
        rotate_left
        · show Act.put _ (some 37) _ = _
          simp only [Act.put, List.setIfInBounds_toArray, List.set_cons_zero, List.set_cons_succ, i64_w, i32_w]
          rfl
        refine pure_ (i := 6) (N := some 38) (v := ?_) (a' := ?_) #[true, true, true, true, true, true, true, false, false, false, false] rfl rfl (by kernel_rfl) (fun _ _ _ h => h) (Or.inl ⟨by rfl, ?_⟩) ?_ ?_
        rotate_left
        · intro w'
          go_simp
          with_reducible rfl
        rotate_left
        · simp only [Act.put, List.setIfInBounds_toArray, List.set_cons_zero, List.set_cons_succ, i64_w, i32_w]
          rfl
        refine one_ (i := 7) (N := some 39) #[true, true, true, true, true, true, true, true, false, false, false] rfl rfl (by kernel_rfl) (by decide) (fun K hK => ?_)
        refine value_ (w1 := ?_) (v := ?_) (by rfl) rfl ?_ ?_
        rotate_left 2
        · go_simp
          constructor
          · rfl
          · rfl
        refine hK.out _ _ ⟨(Zc (Za BK4.out _) 0).trans rfl, (Zc (Za BK4.out _) 1).trans rfl⟩ (fun hHeld => ?_)
        clear hK K
        refine norm_ (a' := ?_) ?_ ?_
        rotate_left
        · show Act.put _ (some 39) _ = _
          simp only [Act.put, List.setIfInBounds_toArray, List.set_cons_zero, List.set_cons_succ, i64_w, i32_w]
          rfl
        refine one_ (i := 8) (N := some 40) #[true, true, true, true, true, true, true, true, true, false, false] rfl rfl (by kernel_rfl) (by decide) (fun K hK => ?_)
        refine Kd.R_append_step k43 (w0 := w) w.heap.size (by rfl) (.tmp 33) (.tmp 39) 22 43 (.agg #[(.int .i64 0), (.int .i64 0)]) 16 rfl Try.underlying22 info43 rfl (by decide) (by omega) u l (⟨a, b⟩ : S43) [.int .i64 a, .int .i64 b] (fun _ => True) (fun _ => False) rfl rfl ?aP (fun _ hk => hk.elim) ?aF ?aO ?aB ?aS ?aL ?_
        case aP => exact k43_mkM _ _ _ (⟨a, b⟩ : S43)
        case aF => exact (fun _ _ => trivial)
        case aO => exact HR.out
        case aB => exact HB.out
        case aS => exact below_size HB.out
        case aL => have := HL.out; omega
        intro v1 w24 ho hb hg hat
        have n0_ := Aside0.mk (blk_grown (g := g2) BK2.out hg (Kd.R_ne HR.out BK2.out (by decide))); have n1_ := Aside0.mk (blk_grown (g := g4) BK4.out hg (Kd.R_ne HR.out BK4.out (by decide))); have n2_ := Aside0.mk (blk_grown (g := g5) BK5.out hg (Kd.R_ne HR.out BK5.out (by decide))); have n3_ := Aside0.mk (blk_grown (g := g6) BK6.out hg (Kd.R_ne HR.out BK6.out (by decide))); have n4_ := Aside0.mk hb; have n5_ := Aside0.mk ho
        clear BK2 BK4 BK5 BK6 HB HR
        have BK2 := n0_; have BK4 := n1_; have BK5 := n2_; have BK6 := n3_; have HB := n4_; have HR := n5_
        clear n0_ n1_ n2_ n3_ n4_ n5_ ho hb hg hat
        obtain ⟨Ao, co, eo⟩ := Kd.R_slice HR.out
        rw [show (l ++ [(⟨a, b⟩ : S43)]).length = l.length + 1 by simp] at eo
        subst eo
        obtain ⟨⟨hc40, hc41⟩, hf40, hf41⟩ := Zk2 BK4
        refine hK.out _ _ ⟨(Zc BK4.out 0).trans rfl, (Zc BK4.out 1).trans rfl⟩ (fun hHeld => ?_)
        clear hK K
        refine norm_ (a' := ?_) ?_ ?_
        rotate_left
        · show Act.put _ (some 40) _ = _
          simp only [Act.put, List.setIfInBounds_toArray, List.set_cons_zero, List.set_cons_succ, i64_w, i32_w]
          rfl
        refine pure_ (i := 9) (N := some 41) (v := ?_) (a' := ?_) #[true, true, true, true, true, true, true, true, true, true, false] rfl rfl (by kernel_rfl) (fun _ _ _ h => h) (Or.inl ⟨by rfl, ?_⟩) ?_ ?_
        rotate_left
        · intro w'
          go_simp
          with_reducible rfl
        rotate_left
        · simp only [Act.put, List.setIfInBounds_toArray, List.set_cons_zero, List.set_cons_succ, i64_w, i32_w]
          rfl
        refine last_ (i := 10) (N := none) #[true, true, true, true, true, true, true, true, true, true, true] rfl rfl (by kernel_rfl) (by decide) (fun K hK => ?_)
        refine skip_ (w1 := ?_) (by rfl) rfl ?_ ?_
        rotate_left
        · go_simp
          rfl
        refine hK.out _ _ ?_
        clear hK K
        refine done_ (by kernel_rfl) ?_
        try go_wp2
        go_roundg m
        case measure => omega
        case rel => exact ⟨wrap64 (i + 1), x2, e2, l ++ [⟨a, b⟩], .slice Ao (l.length + 1) co, (by first | rfl | (simp; done)), ⟨by have := HI.out; unfold wrap64; omega⟩, HD2, ⟨Kd.R_mono (Kd.R_far (p := ⟨g4, 1, none⟩) (Kd.R_types HR.out BK4.out (by decide)) (fun _ hk => hk.2) _) (fun _ hk => trivial)⟩, ⟨by have := HL.out; rw [List.length_append, List.length_cons, List.length_nil]; omega⟩, ⟨by refine Zq ?_ NB24.out _; exact BK2.out⟩, ⟨by refine Zp (cs := #[.string t1, u]) ?_ 1 _ rfl; exact BK4.out⟩, ⟨by refine Zq ?_ NB54.out _; exact BK5.out⟩, ⟨by refine Zq ?_ NB64.out _; exact BK6.out⟩, ⟨Yr HB⟩⟩
set_option maxRecDepth 100000 in
theorem define_Decode.calls (a0 : ByteArray) (r1 : ByteArray) (r2 : List S43) (r3 : Option Int) (w : World) (h : define_Decode.f a0 = some (r1, r2, r3)) :
    Calls Try.prog 18 #[.string a0] w fun e w' => ∃ v1_ : Value, e = .returned (.tuple #[.agg #[.string r1, v1_], errW r3]) ∧ Kd.R k43 43 w' w.heap.size (fun _ => True) v1_ r2 ∧ Below w.heap.size w w' := by
  unfold define_Decode.f at h
  obtain ⟨⟨t1, t2, er⟩, HT, h⟩ := Option.bind_eq_some_iff.1 h
  simp only at h
  cases er with
  | some e0 =>
    rw [if_neg (by simp)] at h
    simp only [Option.some.injEq, Prod.mk.injEq] at h
    obtain ⟨rfl, rfl, rfl⟩ := h
    exact define_Decode.way1 a0 t1 t2 e0 ⟨HT⟩ w
  | none =>
    rw [if_pos (by rfl)] at h
    have HN : nextNum t2 none = ((nextNum t2 none).1, (nextNum t2 none).2.1, (nextNum t2 none).2.2) := rfl
    generalize (nextNum t2 none).1 = n, (nextNum t2 none).2.1 = R', (nextNum t2 none).2.2 = en at HN h
    cases en with
    | some e0 =>
      rw [if_neg (fun h => by cases h.1), if_neg (fun h => by cases h.1)] at h
      simp only [Option.some.injEq, Prod.mk.injEq] at h
      obtain ⟨rfl, rfl, rfl⟩ := h
      exact define_Decode.way2 a0 t1 t2 n R' e0 ⟨HT⟩ ⟨HN⟩ w
    | none =>
      by_cases h0 : 0 ≤ n
      · by_cases h6 : n ≤ 6
        · rw [if_pos ⟨rfl, h0, h6⟩] at h
          have HD : decR n.toNat R' none [] = ((decR n.toNat R' none []).1, (decR n.toNat R' none []).2.1, (decR n.toNat R' none []).2.2) := rfl
          generalize (decR n.toNat R' none []).1 = rF, (decR n.toNat R' none []).2.1 = eF, (decR n.toNat R' none []).2.2 = lF at HD h
          obtain ⟨⟨s, es⟩, HE, h⟩ := Option.bind_eq_some_iff.1 h
          exact define_Decode.way4 a0 t1 t2 n R' ⟨HT⟩ ⟨HN⟩ h0 h6 rF eF lF ⟨HD⟩ s es ⟨HE⟩ r1 r2 r3 ⟨h⟩ w
        · rw [if_neg (fun h => h6 h.2.2), if_neg (fun h => by have := h.2; omega)] at h
          simp only [Option.some.injEq, Prod.mk.injEq] at h
          obtain ⟨rfl, rfl, rfl⟩ := h
          exact define_Decode.way3 a0 t1 t2 n R' ⟨HT⟩ ⟨HN⟩ (by omega) w
      · rw [if_neg (fun h => h0 h.2.1), if_pos ⟨rfl, by omega⟩] at h
        cases h

end Go.Proofs.Ytnmlnngmfagmfaa.Print
