/- Words of this session's own. -/
import Derived.Test.YtbdkfmhkgeoeaaaWAll
import Derived.Lib.FrozenHead
import Derived.Lib.ConvBytes
import Derived.OwnWalk
namespace Go.Proofs.YtbdkfmhkgeoeaaaX
open Go.RowKit Go.Proofs.YtbdkfmhkgeoeaaaW.PrintWords
set_option linter.unusedVariables false
set_option linter.unusedSimpArgs false

/-! ## A row of bytes that a conversion made: its block bears a mark behind its end -/
def BRow (W : World) (base e : Nat) (v : Value) (xs : List Int) : Prop :=
  ∃ (g cap : Nat) (cur : Array Value) (fz : Nat × Nat), v = .slice (some ⟨g, 0, none⟩) xs.length cap ∧ base ≤ g ∧ W.heap[g]? = some (.cells cur e fz) ∧ (fz.2 = 0 ∨ cur.size ≤ fz.1) ∧ xs.length ≤ cap ∧ cap ≤ maxLen ∧ cur.size = cap ∧ cur.toList.take xs.length = xs.map (Value.int .u8)

theorem frozen_off {W : World} {g i e : Nat} {cur : Array Value} {fz : Nat × Nat} (h : W.heap[g]? = some (.cells cur e fz)) (hfz : fz.2 = 0 ∨ cur.size ≤ fz.1) (hi : i < cur.size) : W.frozen? ⟨g, i, none⟩ = false := by
  obtain ⟨lo, hi'⟩ := fz
  simp only [World.frozen?, h, Bool.and_eq_false_iff, decide_eq_false_iff_not]
  simp only at hfz
  rcases hfz with h0 | h0
  · right; omega
  · left; omega
theorem strCells_bytes (s : ByteArray) : Lib.strCells s = (bytesOf s).map (Value.int .u8) := by
  unfold Lib.strCells bytesOf
  simp
theorem BRow_conv (W : World) (base e : Nat) (s : ByteArray) (hb : base ≤ W.heap.size) (hs : s.size ≤ 140737488355328) : BRow (Lib.bytesWorld W e s) base e (.slice (some ⟨W.heap.size, 0, none⟩) s.size (grownCap W s.size 0 e)) (bytesOf s) := by
  have hge := grownCap_ge W s.size 0 e
  have hle : grownCap W s.size 0 e ≤ maxLen := grownCap_le_maxLen W s.size 0 e (by unfold maxLen; omega)
  have hz : (Lib.bytesCells W e s).size = grownCap W s.size 0 e := by
    unfold Lib.bytesCells
    simp only [Array.size_append, Array.size_map, Array.size_replicate]
    show s.size + _ = _
    omega
  refine ⟨W.heap.size, grownCap W s.size 0 e, Lib.bytesCells W e s, _, by rw [bytesOf_length], hb, Lib.bytesWorld_at_new W e s, .inr (Nat.le_refl _), by rw [bytesOf_length]; exact hge, hle, hz, ?_⟩
  rw [bytesOf_length]
  unfold Lib.bytesCells bytesOf
  have hl : (s.data.map fun b => Value.int .u8 b.toNat).toList.length = s.size := by simp
  rw [Array.toList_append, ← hl, List.take_left]
  simp

theorem run_storeCells_atG (P : Program) (g o : Nat) (t : TypeId) (fz : Nat × Nat) : ∀ (vs : List Value) (i : Nat) (cur : Array Value) (w : World), w.heap[g]? = some (.cells cur t fz) → (fz.2 = 0 ∨ cur.size ≤ fz.1) → o + i + vs.length ≤ cur.size → (∀ v ∈ vs, v.oneCell' = true) →
    (storeCells ⟨g, o, none⟩ vs i).run P w = .ok () (w.setRow g (cur.toList.take (o + i) ++ vs ++ cur.toList.drop (o + i + vs.length)).toArray)
  | [], i, cur, w, hg, _, _, _ => by
    simp only [storeCells, List.append_nil, List.length_nil, Nat.add_zero, List.take_append_drop, Array.toArray_toList]
    rw [setRow_self w g cur t fz hg]
    rfl
  | v :: rest, i, cur, w, hg, hfz, hl, h1 => by
    have hi : o + i < cur.size := by simp at hl; omega
    have hadd : (⟨g, o, none⟩ : Addr).add i = ⟨g, o + i, none⟩ := by unfold Addr.add; split <;> simp_all
    have hcell : w.cell? ⟨g, o + i, none⟩ = some cur[o + i] := by simp [World.cell?, hg, hi]
    have hfro : w.frozen? ⟨g, o + i, none⟩ = false := frozen_off hg hfz hi
    have hst : (store ((⟨g, o, none⟩ : Addr).add i) v).run P w = .ok () (w.setRow g (cur.setIfInBounds (o + i) v)) := by
      rw [hadd, run_store P w _ v _ (h1 v (by simp)), hcell]
      simp [hfro, setCell_eq_setRow w g (o + i) cur t fz v hg]
    have ih := run_storeCells_atG P g o t fz rest (i + 1) (cur.setIfInBounds (o + i) v) (w.setRow g (cur.setIfInBounds (o + i) v)) (setRow_heap w g cur _ t _ hg) (by simpa using hfz) (by simp at hl ⊢; omega) (fun x hx => h1 x (by simp [hx]))
    simp only [storeCells, Sem.run_bind, hst, Result.andThen_ok, ih, setRow_setRow]
    congr 3
    have e := list_seg_step cur.toList (o + i) v rest (by simp at hl ⊢; omega)
    simpa [Array.toList_setIfInBounds, Nat.add_assoc] using e
section
variable {P : Program} (w : World)
theorem run_append_room_stringG (t u ty e : TypeId) (i : TypeInfo) (ht : P.underlying t = some (.slice e)) (hu : P.underlying u = some .string) (hi : P.info? e = some i) (hs1 : i.size = 1)
    (g sLen sCap : Nat) (cur : Array Value) (fz : Nat × Nat) (hg : w.heap[g]? = some (.cells cur e fz)) (hfz : fz.2 = 0 ∨ cur.size ≤ fz.1) (s : ByteArray)
    (hroom : sLen + s.size ≤ sCap) (hfit : sLen + s.size ≤ cur.size) :
    (Builtin.append_ #[t, u] ty #[.slice (some ⟨g, 0, none⟩) sLen sCap, .string s]).run P w =
      .ok (.slice (some ⟨g, 0, none⟩) (sLen + s.size) sCap) (w.setRow g (cur.toList.take sLen ++ Lib.strCells s ++ cur.toList.drop (sLen + s.size)).toArray) := by
  have hf := Lib.run_firstCells_string (P := P) w 1 s
  have hst := run_storeCells_atG P g sLen e fz (Lib.strCells s) 0 cur w hg hfz (by simpa [Lib.strCells_length] using hfit) (Lib.strCells_oneCell s)
  simp only [Nat.add_zero, Lib.strCells_length] at hst
  simp [Builtin.append_, run_underlying ht, run_underlying hu, sizeOf, typeInfo, hi, hs1, Builtin.lenOf, hroom, hf, Addr.add_lit, hst]
/-- append(b, s...) onto such a row. -/
theorem run_append_brow (base : Nat) (t u ty e : TypeId) (i : TypeInfo) (ht : P.underlying t = some (.slice e)) (hu : P.underlying u = some .string) (hi : P.info? e = some i) (hz : i.zero = some (.int .u8 0))
    (hsize : i.size = 1) (hby : i.bytes = 1) (v : Value) (xs : List Int) (hown : BRow w base e v xs) (s : ByteArray) (hbytes : xs.length + s.size ≤ 140737488355328) (hbase : base ≤ w.heap.size) :
    ∃ v' w', (Builtin.append_ #[t, u] ty #[v, .string s]).run P w = .ok v' w' ∧ BRow w' base e v' (xs ++ bytesOf s) ∧ w.grownBy w' v.ownBlock := by
  obtain ⟨g, cap, cur, fz, rfl, hbg, hg, hfz, hnc, hcm, hcs, htake⟩ := hown
  have hlen : (xs ++ bytesOf s).length = xs.length + s.size := by rw [List.length_append, bytesOf_length]
  have hm : (xs ++ bytesOf s).map (Value.int .u8) = xs.map (Value.int .u8) ++ Lib.strCells s := by rw [List.map_append, strCells_bytes]
  have hml : (xs.map (Value.int .u8) ++ Lib.strCells s).length = xs.length + s.size := by rw [List.length_append, List.length_map, Lib.strCells_length]
  by_cases hroom : xs.length + s.size ≤ cap
  · have hr := run_append_room_stringG (P := P) w t u ty e i ht hu hi hsize g xs.length cap cur fz hg hfz s hroom (by omega)
    have hsz : (cur.toList.take xs.length ++ Lib.strCells s ++ cur.toList.drop (xs.length + s.size)).toArray.size = cap := by
      simp only [List.size_toArray, List.length_append, List.length_take, List.length_drop, Array.length_toList, Lib.strCells_length]
      omega
    refine ⟨_, _, hr, ⟨g, cap, _, fz, by rw [hlen], hbg, setRow_heap w g cur _ e _ hg, by rw [hsz, ← hcs]; exact hfz, by rw [hlen]; exact hroom, hcm, hsz, ?_⟩, ⟨rfl, rfl, rfl, by simp, fun k _ hk => setRow_other w g k _ (fun e => hk (by simp [Value.ownBlock, e]))⟩⟩
    rw [hlen, hm, htake, ← hml]
    exact List.take_left
  · have holds : ∀ j u, (xs.map (Value.int .u8))[j]? = some u → w.cell? ((⟨g, 0, none⟩ : Addr).add j) = some u := by
      intro j u hu
      have hadd : (⟨g, 0, none⟩ : Addr).add j = ⟨g, j, none⟩ := by unfold Addr.add; split <;> simp_all
      rw [hadd, cell_of_row w g j cur e fz hg]
      rw [← htake, List.getElem?_take] at hu
      split at hu
      · simpa using hu
      · cases hu
    have hr := Lib.run_append_grow_string (P := P) w t u ty e i (.int .u8 0) ht hu hi hz ⟨g, 0, none⟩ xs.length cap (xs.map (Value.int .u8)) (by rw [hsize, List.length_map, Nat.mul_one]) holds s (by omega) (by omega) (by rw [hby]; exact growslice_fits (by omega) (by omega))
    have hge := grownCap_ge w (xs.length + s.size) cap e
    have hcm2 : grownCap w (xs.length + s.size) cap e ≤ maxLen := grownCap_le_maxLen w (xs.length + s.size) cap e (by unfold maxLen; omega)
    refine ⟨_, _, hr, ⟨w.heap.size, _, _, (0, 0), by rw [hlen], hbase, heap_alloc_new w.drew _, .inl rfl, by rw [hlen]; exact hge, hcm2, ?_, ?_⟩, ⟨rfl, rfl, rfl, by simp, fun k hk _ => Below.heap_alloc w.drew _ k hk⟩⟩
    · have hz1 : (Value.int IntKind.u8 0).cells.size = 1 := rfl
      simp only [Array.size_append, List.size_toArray, size_zeroCells, hz1, List.length_map, Lib.strCells_length]
      omega
    · simp only [Array.toList_append, List.append_assoc]
      rw [← List.append_assoc, hlen, hm, ← hml]
      exact List.take_left
end
section
variable {P : Program} {ops : Array Oper} {rest : List Oper} {o : Oper} {a : Act} {Q : Exit → Act → World → Prop} {w : World}
theorem wpList_append_brow (hgd : o.guard = none) (sl x : Operand) (t u : TypeId) (ho : o.op = .call { callee := .builtin .append, args := #[sl, x], argTypes := #[t, u] })
    (base : Nat) (e : TypeId) (ht : P.underlying t = some (.slice e)) (hu : P.underlying u = some .string) (hinfo : (P.info? e).map (fun i => (i.zero, i.size, i.bytes)) = some (some (.int .u8 0), 1, 1))
    (v : Value) (xs : List Int) (hs : a.eval sl = v) (hown : BRow w base e v xs) (s : ByteArray) (hx : a.eval x = .string s) (hbytes : xs.length + s.size ≤ 140737488355328) (hbase : base ≤ w.heap.size)
    (h : ∀ v' w', BRow w' base e v' (xs ++ bytesOf s) → w.grownBy w' v.ownBlock → wpList P ops Q rest (a.put o.dst v') w') : wpList P ops Q (o :: rest) a w := by
  obtain ⟨i, hi, hzz⟩ := Option.map_eq_some_iff.1 hinfo
  simp only [Prod.mk.injEq] at hzz
  obtain ⟨hz, hsize, hby⟩ := hzz
  refine wpList_plain hgd fun K hK => ?_
  obtain ⟨v', w', hr, h2, h3⟩ := run_append_brow (P := P) w base t u o.type e i ht hu hi hz hsize hby v xs hown s hbytes hbase
  unfold Oper.wp execOp
  simp only [ho, resolve, invoke, builtin, Sem.run_bind, Sem.run_pure, Result.andThen_ok, List.map_toArray, List.map_cons, List.map_nil, hs, hx, hr]
  exact hK _ _ (h v' w' h2 h3)
end
section
variable {W W' : World} {base e : Nat} {v : Value} {xs : List Int}
theorem BRow.slice (h : BRow W base e v xs) : ∃ g cap, v = .slice (some ⟨g, 0, none⟩) xs.length cap ∧ base ≤ g ∧ g < W.heap.size ∧ xs.length ≤ cap := by
  obtain ⟨g, cap, cur, fz, rfl, hb, hg, _, hn, _⟩ := h
  exact ⟨g, cap, rfl, hb, (Array.getElem?_eq_some_iff.1 hg).1, hn⟩
theorem BRow.below (h : BRow W base e v xs) (hb : Below W.heap.size W W') : BRow W' base e v xs := by
  obtain ⟨g, cap, cur, fz, rfl, hbg, hg, rest⟩ := h
  exact ⟨g, cap, cur, fz, rfl, hbg, (hb.block g (Array.getElem?_eq_some_iff.1 hg).1).trans hg, rest⟩
theorem BRow.drew (h : BRow W base e v xs) : BRow W.drew base e v xs := h
theorem BRow.drewN (h : BRow W base e v xs) (m : Nat) : BRow (W.drewN m) base e v xs := by
  obtain ⟨g, cap, cur, fz, rfl, hbg, hg, rest⟩ := h
  exact ⟨g, cap, cur, fz, rfl, hbg, hg, rest⟩
theorem BRow.alloc (h : BRow W base e v xs) (o : Obj) : BRow (W.alloc o) base e v xs := h.below (below_alloc (Below.refl _ _) _)
theorem BRow.cell {g cap : Nat} (h : BRow W base e (.slice (some ⟨g, 0, none⟩) xs.length cap) xs) (j : Nat) (hj : j < xs.length) : W.cell? ⟨g, j, none⟩ = some (.int .u8 xs[j]) ∧ W.frozen? ⟨g, j, none⟩ = false := by
  obtain ⟨g', cap', cur, fz, he, hbg, hg, hfz, hn, hm, hcs, ht⟩ := h
  simp only [Value.slice.injEq, Option.some.injEq, Addr.mk.injEq] at he
  obtain ⟨⟨rfl, _⟩, _, rfl⟩ := he
  refine ⟨?_, frozen_off hg hfz (by omega)⟩
  rw [cell_of_row W g j cur e fz hg]
  have := congrArg (·[j]?) ht
  simp only [List.getElem?_take, List.getElem?_map, List.getElem?_eq_getElem hj, if_pos hj, Option.map_some] at this
  simpa using this
theorem BRow.set {g cap : Nat} (h : BRow W base e (.slice (some ⟨g, 0, none⟩) xs.length cap) xs) (j : Nat) (n : Int) : BRow (W.setCell ⟨g, j, none⟩ (.int .u8 n)) base e (.slice (some ⟨g, 0, none⟩) xs.length cap) (xs.set j n) := by
  obtain ⟨g', cap', cur, fz, he, hbg, hg, hfz, hn, hm, hcs, ht⟩ := h
  simp only [Value.slice.injEq, Option.some.injEq, Addr.mk.injEq] at he
  obtain ⟨⟨rfl, _⟩, _, rfl⟩ := he
  refine ⟨g, cap, cur.setIfInBounds j (.int .u8 n), fz, by rw [List.length_set], hbg, ?_, by simpa using hfz, by rw [List.length_set]; exact hn, hm, by simpa using hcs, ?_⟩
  · rw [setCell_eq_setRow W g j cur e fz _ hg]
    exact setRow_heap W g cur _ e _ hg
  · rw [List.length_set, Array.toList_setIfInBounds, List.map_set, ← ht, List.take_set]
theorem BRow.far {g j : Nat} {u : Value} (h : BRow W base e v xs) (hne : v.ownBlock ≠ some g) : BRow (W.setCell ⟨g, j, none⟩ u) base e v xs := by
  obtain ⟨g', cap, cur, fz, rfl, hbg, hg, rest⟩ := h
  exact ⟨g', cap, cur, fz, rfl, hbg, (Below.heap_setCell W ⟨g, j, none⟩ u g' (fun e => hne (by simp [Value.ownBlock, e]))).trans hg, rest⟩
theorem BRow.reads {g cap : Nat} (h : BRow W base e (.slice (some ⟨g, 0, none⟩) xs.length cap) xs) : Kd.C (Kd.int .u8) W (some ⟨g, 0, none⟩) xs.length xs := by
  have hm : xs.length ≤ maxLen := by obtain ⟨_, _, _, _, he, _, _, _, hn, hm, _⟩ := h; omega
  refine ⟨rfl, by simpa [maxLen] using hm, fun _ => ⟨_, rfl, fun j p hp => ?_⟩⟩
  obtain ⟨hj, rfl⟩ := List.getElem?_eq_some_iff.1 hp
  refine ⟨[.int .u8 xs[j]], rfl, rfl, fun i u hu => ?_⟩
  cases i with
  | zero =>
    have hadd : (⟨g, 0, none⟩ : Addr).add j = ⟨g, j, none⟩ := by unfold Addr.add; split <;> simp_all
    have h1 := (h.cell j hj).1
    have hsz : (Kd.int .u8).sz = 1 := rfl
    simp only [List.getElem?_cons_zero, Option.some.injEq] at hu
    subst hu
    rw [hsz, Nat.mul_one, Nat.add_zero, hadd]
    exact h1
  | succ i => simp at hu
end
end Go.Proofs.YtbdkfmhkgeoeaaaX
