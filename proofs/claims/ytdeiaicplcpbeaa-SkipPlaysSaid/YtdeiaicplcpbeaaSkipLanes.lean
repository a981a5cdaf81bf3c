import Derived.Test.YtdeiaicplcpbeaaSkipFacts
namespace Go.Proofs.Ytdeiaicplcpbeaa.Print
open Go.RowKit Go.Proofs.YtdeiaicplcpbeaaX Go.Proofs.YtdeiaicplcpbeaaW.PrintWords Go.Proofs.YtdeiaicplcpbeaaW.PrintLast
set_option linter.unusedVariables false
set_option linter.unusedSimpArgs false

/-! ## The last value of a key -/
theorem getO_app {p q : List One} {key : ByteArray} (hp : ∀ x ∈ p, bless x.1 key = true) : getO key (p ++ q) = getO key q := by
  have : moreO key (p ++ q) = moreO key q := by
    unfold moreO
    induction p with
    | nil => rfl
    | cons x p ih =>
      rw [List.cons_append, List.dropWhile_cons, if_pos (hp x List.mem_cons_self)]
      exact ih (fun y hy => hp y (List.mem_cons_of_mem _ hy))
  unfold getO findO
  rw [this]
theorem GoodO.nil : GoodO [] := ⟨List.Pairwise.nil, fun x hx => by cases hx⟩
theorem GoodO.tail {x : One} {l : List One} (h : GoodO (x :: l)) : GoodO l := ⟨(List.pairwise_cons.1 h.sorted).2, fun y hy => h.hs y (List.mem_cons_of_mem _ hy)⟩
/-- A key's value, found anywhere. -/
def anyO (key : ByteArray) : List One → Option One
  | [] => none
  | x :: l => if x.1.toList = key.toList then some x else anyO key l
theorem anyO_none {key : ByteArray} {l : List One} (h : ∀ x ∈ l, x.1.toList ≠ key.toList) : anyO key l = none := by
  induction l with
  | nil => rfl
  | cons x l ih => simp only [anyO]; rw [if_neg (h x List.mem_cons_self)]; exact ih (fun y hy => h y (List.mem_cons_of_mem _ hy))
theorem anyO_app {key : ByteArray} {p q : List One} : anyO key (p ++ q) = (anyO key p).or (anyO key q) := by
  induction p with
  | nil => simp [anyO]
  | cons x p ih =>
    rw [List.cons_append]
    simp only [anyO]
    split
    · rfl
    · exact ih
theorem bless_ne {a b : ByteArray} (h : bless a b = true) : a.toList ≠ b.toList := fun e => by
  unfold bless at h; rw [e, bl_irr] at h; cases h
theorem findO_any {key : ByteArray} {l : List One} (h : l.Pairwise (fun x y => bless x.1 y.1 = true)) : findO key l = anyO key l := by
  induction l with
  | nil => rfl
  | cons x l ih =>
    obtain ⟨h1, h2⟩ := List.pairwise_cons.1 h
    cases hb : bless x.1 key with
    | true =>
      have e1 : findO key (x :: l) = findO key l := by
        unfold findO moreO
        rw [List.dropWhile_cons, if_pos hb]
      rw [e1, ih h2]
      simp only [anyO]
      rw [if_neg (bless_ne hb)]
    | false =>
      unfold findO moreO
      rw [List.dropWhile_cons, if_neg (by rw [hb]; decide)]
      simp only [List.head?_cons, anyO]
      by_cases c : x.1.toList = key.toList
      · rw [if_pos c, if_pos c]
      · rw [if_neg c, if_neg c]
        refine (anyO_none fun y hy e => ?_).symm
        have h3 := h1 y hy
        unfold bless at h3 hb
        rw [e] at h3
        rw [h3] at hb; cases hb
def valO (key : ByteArray) (l : List One) : ByteArray × Bool := match anyO key l with | some x => (x.2.1, true) | none => (⟨#[]⟩, false)
theorem getO_val {key : ByteArray} {l : List One} (h : GoodO l) : getO key l = valO key l := by
  unfold getO valO
  rw [findO_any h.sorted]
  cases anyO key l <;> rfl
theorem any_mem {key : ByteArray} {l : List One} {x : One} (h : anyO key l = some x) : x ∈ l ∧ x.1.toList = key.toList := by
  induction l with
  | nil => cases h
  | cons y l ih =>
    simp only [anyO] at h
    split at h
    · obtain rfl := Option.some.inj h
      exact ⟨List.mem_cons_self, by assumption⟩
    · exact ⟨List.mem_cons_of_mem _ (ih h).1, (ih h).2⟩
theorem anyO_set {key k v : ByteArray} : ∀ l : List One, anyO key (l.map (setO k v)) = (anyO key l).map (setO k v)
  | [] => rfl
  | x :: l => by
    rw [List.map_cons]
    simp only [anyO]
    have : (setO k v x).1 = x.1 := by unfold setO; split <;> rfl
    rw [this, anyO_set l]
    split <;> rfl
theorem lessO_all {k : ByteArray} {l : List One} : ∀ x ∈ lessO k l, bless x.1 k = true := by
  unfold lessO
  induction l with
  | nil => intro x hx; cases hx
  | cons y l ih =>
    intro x hx
    rw [List.takeWhile_cons] at hx
    split at hx
    · rcases List.mem_cons.1 hx with rfl | hx
      · assumption
      · exact ih x hx
    · cases hx
theorem putO_good {k v : ByteArray} {h : Int} {l : List One} (hG : GoodO l) : GoodO (putO k v h l) := by
  unfold putO
  cases hf : findO k l with
  | some z =>
    simp only
    have e1 : ∀ y, (setO k v y).1 = y.1 := fun y => by unfold setO; split <;> rfl
    have e2 : ∀ y, (setO k v y).2.2 = y.2.2 := fun y => by unfold setO; split <;> rfl
    refine ⟨List.pairwise_map.2 (hG.sorted.imp (fun {x y} hxy => by rw [e1, e1]; exact hxy)), fun x hx => ?_⟩
    obtain ⟨y, hy, rfl⟩ := List.mem_map.1 hx
    rw [e2]; exact hG.hs y hy
  | none =>
    simp only
    have hsp : lessO k l ++ moreO k l = l := List.takeWhile_append_dropWhile
    have hs := hG.sorted
    rw [← hsp] at hs
    obtain ⟨h1, h2, h3⟩ := List.pairwise_append.1 hs
    have hm : ∀ x ∈ moreO k l, bless k x.1 = true := by
      unfold findO at hf
      cases hq : moreO k l with
      | nil => intro x hx; cases hx
      | cons y q =>
        have hy0 : bless y.1 k = false := by
          have : (l.dropWhile (fun x => bless x.1 k)).head? = some y := by
            show (moreO k l).head? = some y
            rw [hq]; rfl
          have h9 := List.head?_dropWhile_not (fun x : One => bless x.1 k) l
          rw [this] at h9
          simpa using h9
        rw [hq] at hf h2
        simp only [List.head?_cons] at hf
        have hne : ¬ y.1.toList = k.toList := fun c => by rw [if_pos c] at hf; cases hf
        have hy : bless k y.1 = true := by
          rcases bl_tri k.toList y.1.toList with c | c | c
          · exact c
          · exact absurd c.symm hne
          · rw [show bless y.1 k = true from c] at hy0; cases hy0
        intro x hx
        rcases List.mem_cons.1 hx with rfl | hx
        · exact hy
        · exact bl_trans hy ((List.pairwise_cons.1 h2).1 x hx)
    refine ⟨List.pairwise_append.2 ⟨h1, List.pairwise_cons.2 ⟨hm, h2⟩, fun x hx y hy => ?_⟩, fun x hx => ?_⟩
    · rcases List.mem_cons.1 hy with rfl | hy
      · exact lessO_all x hx
      · exact h3 x hx y hy
    · rcases List.mem_append.1 hx with hx | hx
      · exact hG.hs x (by rw [← hsp]; exact List.mem_append_left _ hx)
      · rcases List.mem_cons.1 hx with rfl | hx
        · unfold hgt; simp only; omega
        · exact hG.hs x (by rw [← hsp]; exact List.mem_append_right _ hx)
theorem valO_put {key k v : ByteArray} {h : Int} {l : List One} (hG : GoodO l) : valO key (putO k v h l) = if k.toList = key.toList then (v, true) else valO key l := by
  unfold putO
  cases hf : findO k l with
  | some z =>
    rw [findO_any hG.sorted] at hf
    simp only
    unfold valO
    rw [anyO_set]
    by_cases c : k.toList = key.toList
    · rw [if_pos c]
      have : anyO key l = some z := by
        have e : ∀ l : List One, anyO key l = anyO k l := fun l => by
          induction l with
          | nil => rfl
          | cons y l ih => simp only [anyO]; rw [← c, ih]
        rw [e]; exact hf
      rw [this]
      simp only [Option.map_some]
      unfold setO
      rw [if_pos (any_mem hf).2]
    · rw [if_neg c]
      cases ha : anyO key l with
      | none => rfl
      | some y =>
        simp only [Option.map_some]
        unfold setO
        rw [if_neg (fun e => c (e.symm.trans (any_mem ha).2))]
  | none =>
    simp only
    have hsp : lessO k l ++ moreO k l = l := List.takeWhile_append_dropWhile
    unfold valO
    rw [anyO_app]
    simp only [anyO]
    by_cases c : k.toList = key.toList
    · rw [if_pos c, if_pos c]
      have : anyO key (lessO k l) = none := anyO_none fun x hx e => by
        exact bless_ne (lessO_all x hx) (e.trans c.symm)
      rw [this]; rfl
    · rw [if_neg c, if_neg c, ← anyO_app, hsp]
theorem play_good (ps : List S31) : GoodO (playO ps) := by
  induction ps using snoc_ind with
  | h0 => exact GoodO.nil
  | h1 ps p ih => rw [playO_snoc]; exact putO_good ih
def lastP (key : ByteArray) (ps : List S31) : ByteArray × Bool := ps.foldl (fun a p => if p.f0.toList = key.toList then (p.f1, true) else a) (⟨#[]⟩, false)
theorem lastP_val (key : ByteArray) (ps : List S31) : lastP key ps = valO key (playO ps) := by
  induction ps using snoc_ind with
  | h0 => rfl
  | h1 ps p ih =>
    rw [playO_snoc, valO_put (play_good ps)]
    unfold lastP
    rw [List.foldl_append]
    show (if p.f0.toList = key.toList then _ else lastP key ps) = _
    rw [ih]
theorem lastP_take (key : ByteArray) (ps : List S31) (i : Nat) (h : i < ps.length) : lastP key (ps.take (i + 1)) = if ps[i].f0.toList = key.toList then (ps[i].f1, true) else lastP key (ps.take i) := by
  rw [take_succ h]
  unfold lastP
  rw [List.foldl_append]; rfl
theorem lastP_get {ps : List S31} (hG : GoodO (playO ps)) (i : Nat) (hi : i < (playO ps).length) : lastP (playO ps)[i].1 ps = ((playO ps)[i].2.1, true) := by
  rw [lastP_val, ← getO_val hG, getO_at hG i hi]

/-! ## Lanes -/
def laneL (h : Nat) (l : List One) : List One := l.filter (fun x => decide (h < x.2.2))
theorem laneO_L {h : Nat} {l : List One} (hh : h < 12) : laneO (h : Int) l = (laneL h l).map (·.1) := by
  unfold laneO laneL
  rw [if_neg (by omega), show (max (h : Int) 0).toNat = h by omega]
theorem laneO_12 (l : List One) : laneO 12 l = [] := rfl
theorem lane_sorted {l : List One} (hG : GoodO l) (h : Nat) : (laneL h l).Pairwise (fun x y => bless x.1 y.1 = true) := hG.sorted.filter _
theorem lane_sub {l : List One} {h : Nat} : ∀ x ∈ laneL (h + 1) l, x ∈ laneL h l := fun x hx => by
  unfold laneL at hx ⊢
  rw [List.mem_filter] at hx ⊢
  refine ⟨hx.1, ?_⟩
  have := hx.2
  simp at this ⊢; omega
theorem lane_len (h : Nat) (l : List One) : (laneL h l).length ≤ l.length := List.length_filter_le _ _
theorem lane_height {l : List One} (hG : GoodO l) {h : Nat} {x : One} (hx : x ∈ laneL h l) : h < heightO x.1 l := by
  unfold laneL at hx
  rw [List.mem_filter] at hx
  obtain ⟨i, hi, rfl⟩ := List.mem_iff_getElem.1 hx.1
  rw [heightO_at hG i hi]
  simpa using hx.2
/-- Where the search in the lane below goes on. -/
def Ahd (M B : List One) (i at_ : Nat) : Prop := at_ ≤ B.length ∧ ∀ y ∈ M.drop i, y ∈ B.drop at_
theorem Ahd.here {M B : List One} {i a : Nat} (h : Ahd M B i a) (hi : i < M.length) : a < B.length := by
  have := h.2 M[i] (by rw [List.drop_eq_getElem_cons hi]; exact List.mem_cons_self)
  have h2 := List.length_pos_of_mem this
  rw [List.length_drop] at h2; omega
theorem Ahd.on {M B : List One} {i a : Nat} (h : Ahd M B i a) (hi : i < M.length) (hM : M.Pairwise (fun x y => bless x.1 y.1 = true)) (hB : B.Pairwise (fun x y => bless x.1 y.1 = true)) (ha : a < B.length) (hne : B[a].1.toList ≠ M[i].1.toList) : Ahd M B i (a + 1) := by
  refine ⟨ha, fun y hy => ?_⟩
  have h1 := h.2 y hy
  rw [List.drop_eq_getElem_cons ha] at h1
  rcases List.mem_cons.1 h1 with e | h1
  · exfalso
    rw [List.drop_eq_getElem_cons hi] at hy
    rcases List.mem_cons.1 hy with e2 | hy
    · exact hne (by rw [← e, e2])
    · have h3 : bless M[i].1 y.1 = true := by
        have hs : M.drop i = M[i] :: M.drop (i + 1) := List.drop_eq_getElem_cons hi
        have hp : (M.drop i).Pairwise (fun x y => bless x.1 y.1 = true) := hM.sublist (List.drop_sublist _ _)
        rw [hs] at hp
        exact (List.pairwise_cons.1 hp).1 y hy
      have h4 := h.2 M[i] (by rw [List.drop_eq_getElem_cons hi]; exact List.mem_cons_self)
      rw [List.drop_eq_getElem_cons ha] at h4
      rcases List.mem_cons.1 h4 with e4 | h4
      · rw [e, ← e4] at h3
        exact bless_ne h3 rfl
      · have hp : (B.drop a).Pairwise (fun x y => bless x.1 y.1 = true) := hB.sublist (List.drop_sublist _ _)
        rw [List.drop_eq_getElem_cons ha] at hp
        have h5 := (List.pairwise_cons.1 hp).1 _ h4
        rw [← e] at h5
        have h6 := bl_trans h5 h3
        rw [bl_irr] at h6; cases h6
  · exact h1
theorem Ahd.next {M B : List One} {i a : Nat} (h : Ahd M B i a) : Ahd M B (i + 1) a := by
  refine ⟨h.1, fun y hy => h.2 y ?_⟩
  rw [show M.drop (i + 1) = (M.drop i).drop 1 by rw [List.drop_drop]] at hy
  exact List.mem_of_mem_drop hy
theorem Ahd.start {l : List One} {h : Nat} : Ahd (laneL (h + 1) l) (laneL h l) 0 0 := ⟨Nat.zero_le _, fun y hy => lane_sub y hy⟩
theorem lane_all {l : List One} (hG : GoodO l) : laneL 0 l = l := by
  unfold laneL
  rw [List.filter_eq_self]
  intro x hx
  have := (hG.hs x hx).1
  simp; omega
end Go.Proofs.Ytdeiaicplcpbeaa.Print
