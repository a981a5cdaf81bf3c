import Derived.Test.YtdeiaicplcpbeaaSkipFacts
namespace Go.Proofs.Ytdeiaicplcpbeaa.Print
open Go.RowKit Go.Proofs.YtdeiaicplcpbeaaX Go.Proofs.YtdeiaicplcpbeaaW.PrintWords Go.Proofs.YtdeiaicplcpbeaaW.PrintLast
set_option linter.unusedVariables false
set_option linter.unusedSimpArgs false

/-! ## Heights apart -/
abbrev Two := ByteArray × ByteArray
def strip (l : List One) : List Two := l.map (fun x => (x.1, x.2.1))
def moreP (key : ByteArray) (l : List Two) : List Two := l.dropWhile (fun x => bless x.1 key)
def findP (key : ByteArray) (l : List Two) : Option Two :=
  match (moreP key l).head? with
  | some x => if x.1.toList = key.toList then some x else none
  | none => none
theorem strip_more (key : ByteArray) (l : List One) : moreP key (strip l) = strip (moreO key l) := by
  unfold moreP moreO strip
  rw [List.dropWhile_map]; rfl
theorem strip_less (key : ByteArray) (l : List One) : (strip l).takeWhile (fun x => bless x.1 key) = strip (lessO key l) := by
  unfold lessO strip
  rw [List.takeWhile_map]; rfl
theorem strip_find (key : ByteArray) (l : List One) : findP key (strip l) = (findO key l).map (fun x => (x.1, x.2.1)) := by
  unfold findP findO
  rw [strip_more]
  unfold strip
  cases moreO key l with
  | nil => rfl
  | cons y q =>
    simp only [List.map_cons, List.head?_cons]
    split <;> rfl
theorem same_find {l m : List One} (h : strip l = strip m) (key : ByteArray) : (findO key l).map (fun x => (x.1, x.2.1)) = (findO key m).map (fun x => (x.1, x.2.1)) := by rw [← strip_find, ← strip_find, h]
theorem same_none {l m : List One} (h : strip l = strip m) (key : ByteArray) : (findO key l).isNone = (findO key m).isNone := by
  have := same_find h key
  cases hl : findO key l <;> cases hm : findO key m <;> rw [hl, hm] at this <;> first | rfl | cases this
theorem same_get {l m : List One} (h : strip l = strip m) (key : ByteArray) : getO key l = getO key m := by
  have := same_find h key
  unfold getO
  cases hl : findO key l <;> cases hm : findO key m <;> rw [hl, hm] at this <;> simp only [Option.map_some, Option.map_none] at this <;> first | rfl | (cases this; done) | skip
  have h2 := Option.some.inj this
  have h3 := congrArg Prod.snd h2
  simp only at h3 ⊢
  rw [h3]
theorem same_seek {l m : List One} (h : strip l = strip m) (key : ByteArray) : seekO key l = seekO key m := by
  have e : strip (moreO key l) = strip (moreO key m) := by rw [← strip_more, ← strip_more, h]
  unfold seekO
  unfold strip at e
  cases hl : moreO key l <;> cases hm : moreO key m <;> rw [hl, hm] at e <;> first | rfl | (cases e; done) | skip
  have h2 := (List.cons.inj e).1
  have h3 := congrArg Prod.snd h2
  have h4 := congrArg Prod.fst h2
  simp only [List.head?_cons] at h3 h4 ⊢
  rw [h3, h4]
theorem same_keys {l m : List One} (h : strip l = strip m) : l.map (·.1) = m.map (·.1) := by
  have := congrArg (List.map Prod.fst) h
  unfold strip at this
  rw [List.map_map, List.map_map] at this
  exact this
theorem same_len {l m : List One} (h : strip l = strip m) : m.length = l.length := by
  have := congrArg List.length h
  unfold strip at this
  rw [List.length_map, List.length_map] at this
  exact this.symm
theorem same_put {l m : List One} (h : strip l = strip m) (key val : ByteArray) (a b : Int) : strip (putO key val a l) = strip (putO key val b m) := by
  have hf := same_none h key
  unfold putO
  cases hl : findO key l <;> cases hm : findO key m <;> rw [hl, hm] at hf <;> first | (cases hf; done) | skip
  · have e1 : strip (lessO key l) = strip (lessO key m) := by rw [← strip_less, ← strip_less, h]
    have e2 : strip (moreO key l) = strip (moreO key m) := by rw [← strip_more, ← strip_more, h]
    unfold strip at e1 e2 ⊢
    rw [List.map_append, List.map_append, List.map_cons, List.map_cons, e1, e2]
  · have e : ∀ l : List One, strip (l.map (setO key val)) = (strip l).map (fun y => if y.1.toList = key.toList then (y.1, val) else y) := fun l => by
      unfold strip
      rw [List.map_map, List.map_map]
      apply List.map_congr_left
      intro y _
      show ((setO key val y).1, (setO key val y).2.1) = if y.1.toList = key.toList then (y.1, val) else (y.1, y.2.1)
      unfold setO
      split <;> rfl
    show strip (l.map (setO key val)) = strip (m.map (setO key val))
    rw [e, e, h]
theorem texts_same (l : List ByteArray) (h : l.length ≤ 1000000) : palinodelaw09_texts.f (l.length + 1) l l = some true := by
  unfold palinodelaw09_texts.f
  rw [if_pos rfl]
  have : ∀ d i : Nat, i + d = l.length → palinodelaw09_texts.l0 (d + 1) l l (i : Int) = some true := by
    intro d
    induction d with
    | zero =>
      intro i hi
      simp only [palinodelaw09_texts.l0]
      rw [if_neg (by omega)]
    | succ d ih =>
      intro i hi
      rw [palinodelaw09_texts.l0]
      rw [if_pos (by omega), if_pos (by omega), if_pos (by omega)]
      simp only [if_true]
      rw [show wrap64 ((i : Int) + 1) = ((i + 1 : Nat) : Int) by unfold wrap64; omega]
      exact ih (i + 1) (by omega)
  exact this l.length 0 (by omega)
/-- Two new lists. -/
theorem new_as2 {n0 la : Nat} {w : World} (hS : LS n0 w la []) : Calls Try.prog 8 #[] w fun e w' => ∃ lb, e = .returned (.pointer (some ⟨lb, 0, none⟩)) ∧ LS2 n0 w' la lb [] [] ∧ Below w.heap.size w w' := by
  have hn0 := hS.le
  obtain ⟨L, h1, h2, h3⟩ := hS
  refine (new_calls w).mono ?_
  rintro e w' ⟨lb, h4, _, h5, h6, h7⟩
  refine ⟨lb, h5, ⟨L, [], h1.below h7, h6, h2, fun b hb => by simp [blks] at hb; omega, fun b hb hc => ?_, h3, rfl⟩, h7⟩
  have := h1.lt hb
  simp [blks] at hc; omega
end Go.Proofs.Ytdeiaicplcpbeaa.Print
