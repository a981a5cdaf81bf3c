import Derived.Test.YtdeiaicplcpbeaaSkipLane
namespace Go.Proofs.Ytdeiaicplcpbeaa.Print
open Go.RowKit Go.Proofs.YtdeiaicplcpbeaaX Go.Proofs.YtdeiaicplcpbeaaW.PrintWords Go.Proofs.YtdeiaicplcpbeaaW.PrintLast
set_option linter.unusedVariables false
set_option linter.unusedSimpArgs false

/-! ## Put -/
def hgt (h : Int) : Nat := (min (max h 1) 12).toNat
def putL (key val : ByteArray) (h : Int) (nb : Nat) (L : List Nd) : List Nd :=
  match findN key L with
  | some x => L.map (putVal x.b val)
  | none => lessK key L ++ ⟨key, val, hgt h, nb⟩ :: moreK key L
/-- All but a list's own blocks stays. -/
def Fr (lb : Nat) (L : List Nd) (w w' : World) : Prop := ∀ k, k < w.heap.size → k ∉ blks lb L → w'.heap[k]? = w.heap[k]?
theorem putVal_blks (lb b : Nat) (v : ByteArray) (L : List Nd) : blks lb (L.map (putVal b v)) = blks lb L := by
  unfold blks
  rw [List.map_map]
  congr 1
  apply List.map_congr_left
  intro x _
  show (putVal b v x).b = x.b
  unfold putVal
  split <;> rfl
theorem first_map (b : Nat) (v : ByteArray) (j : Nat) (L : List Nd) : firstAb j (L.map (putVal b v)) = firstAb j L := by
  induction L with
  | nil => rfl
  | cons x L ih =>
    rw [List.map_cons]
    simp only [firstAb]
    have h1 : (putVal b v x).h = x.h := by unfold putVal; split <;> rfl
    have h2 : (putVal b v x).b = x.b := by unfold putVal; split <;> rfl
    rw [h1, h2, ih]
theorem map_split {f : Nd → Nd} {L p q : List Nd} {x : Nd} (h : L.map f = p ++ x :: q) : ∃ p' x' q', L = p' ++ x' :: q' ∧ f x' = x ∧ q'.map f = q := by
  obtain ⟨p', r, e, h1, h2⟩ := List.map_eq_append_iff.1 h
  obtain ⟨x', q', e2, h3, h4⟩ := List.map_eq_cons_iff.1 h2
  exact ⟨p', x', q', by rw [e, e2], h3, h4⟩
theorem Lnk.map {lb b : Nat} {v : ByteArray} {L : List Nd} {nx : Nat → Nat → Option Nat} (h : Lnk lb L nx) : Lnk lb (L.map (putVal b v)) nx := by
  refine ⟨fun j => by rw [first_map]; exact h.head j, fun p x q e j => ?_⟩
  obtain ⟨p', x', q', e', rfl, rfl⟩ := map_split e
  have h1 : (putVal b v x').h = x'.h := by unfold putVal; split <;> rfl
  have h2 : (putVal b v x').b = x'.b := by unfold putVal; split <;> rfl
  rw [h1, h2, first_map]
  exact h.node p' x' q' e' j
theorem Good.map {lb b : Nat} {v : ByteArray} {L : List Nd} (h : Good lb L) : Good lb (L.map (putVal b v)) := by
  refine ⟨by rw [putVal_blks]; exact h.nodup, ?_, fun x hx => ?_⟩
  · refine List.pairwise_map.2 (h.sorted.imp (fun {x y} hxy => ?_))
    have h1 : (putVal b v x).key = x.key := by unfold putVal; split <;> rfl
    have h2 : (putVal b v y).key = y.key := by unfold putVal; split <;> rfl
    rw [h1, h2]; exact hxy
  · obtain ⟨y, hy, rfl⟩ := List.mem_map.1 hx
    have h1 : (putVal b v y).h = y.h := by unfold putVal; split <;> rfl
    rw [h1]; exact h.hs y hy
/-- Where the nodes lead to, while a new one is put in: k lanes are done. -/
def nxK (nx : Nat → Nat → Option Nat) (lb nb : Nat) (p : List Nd) (k : Nat) : Nat → Nat → Option Nat := fun b j =>
  if b = nb then (if j < k then nx (lastAb j lb p) j else none) else if j < k ∧ b = lastAb j lb p then some nb else nx b j
theorem nxK_at (nx : Nat → Nat → Option Nat) (lb nb : Nat) (p : List Nd) (k b j : Nat) : nxK nx lb nb p k b j = if b = nb then (if j < k then nx (lastAb j lb p) j else none) else if j < k ∧ b = lastAb j lb p then some nb else nx b j := rfl
theorem nxK_step {nx : Nat → Nat → Option Nat} {lb nb : Nat} {p : List Nd} {k d : Nat} (hd : lastAb k lb p = d) (hdb : d ≠ nb) :
    (fun b' => if b' = d then upd (if d = nb then upd (nxK nx lb nb p k nb) k (nx d k) else nxK nx lb nb p k d) k (some nb) else if b' = nb then upd (nxK nx lb nb p k nb) k (nx d k) else nxK nx lb nb p k b') = nxK nx lb nb p (k + 1) := by
  funext b j
  rw [nxK_at]
  by_cases c1 : b = d
  · subst c1
    rw [if_pos rfl, if_neg hdb, if_neg hdb]
    show (if j = k then some nb else nxK nx lb nb p k b j) = _
    rw [nxK_at, if_neg hdb]
    by_cases c2 : j = k
    · subst c2
      rw [if_pos rfl, if_pos ⟨Nat.lt_succ_self _, hd.symm⟩]
    · rw [if_neg c2]
      by_cases c3 : j < k ∧ b = lastAb j lb p
      · rw [if_pos c3, if_pos ⟨by omega, c3.2⟩]
      · rw [if_neg c3, if_neg (fun e => c3 ⟨by omega, e.2⟩)]
  · rw [if_neg c1]
    by_cases c4 : b = nb
    · subst c4
      rw [if_pos rfl, if_pos rfl]
      show (if j = k then nx d k else nxK nx lb b p k b j) = _
      rw [nxK_at, if_pos rfl]
      by_cases c2 : j = k
      · subst c2
        rw [if_pos rfl, if_pos (Nat.lt_succ_self _), hd]
      · rw [if_neg c2]
        by_cases c3 : j < k
        · rw [if_pos c3, if_pos (by omega)]
        · rw [if_neg c3, if_neg (by omega)]
    · rw [if_neg c4, if_neg c4, nxK_at, if_neg c4]
      by_cases c3 : j < k ∧ b = lastAb j lb p
      · rw [if_pos c3, if_pos ⟨by omega, c3.2⟩]
      · rw [if_neg c3, if_neg]
        rintro ⟨e1, e2⟩
        by_cases c2 : j = k
        · subst c2
          exact c1 (e2.trans hd)
        · exact c3 ⟨by omega, e2⟩
theorem nodup_inj {lb : Nat} {L : List Nd} (h : (blks lb L).Nodup) {x y : Nd} (hx : x ∈ L) (hy : y ∈ L) (e : x.b = y.b) : x = y := by
  unfold blks at h
  have h2 := (List.nodup_cons.1 h).2
  clear h
  induction L with
  | nil => cases hx
  | cons z L ih =>
    rw [List.map_cons] at h2
    obtain ⟨h3, h4⟩ := List.nodup_cons.1 h2
    rcases List.mem_cons.1 hx with hx1 | hx1
    · rcases List.mem_cons.1 hy with hy1 | hy1
      · rw [hx1, hy1]
      · exact absurd (List.mem_map.2 ⟨y, hy1, by rw [← e, hx1]⟩) h3
    · rcases List.mem_cons.1 hy with hy1 | hy1
      · exact absurd (List.mem_map.2 ⟨x, hx1, by rw [e, hy1]⟩) h3
      · exact ih hx1 hy1 h4
theorem nodup_lb {lb : Nat} {L : List Nd} (h : (blks lb L).Nodup) {x : Nd} (hx : x ∈ L) : x.b ≠ lb := fun e =>
  (List.nodup_cons.1 h).1 (List.mem_map.2 ⟨x, hx, e⟩)
theorem nodup_split {lb : Nat} {p r : List Nd} {z y : Nd} (h : (blks lb (p ++ z :: r)).Nodup) (hy : y ∈ r ∨ y ∈ p) : y.b ≠ z.b := by
  intro e
  unfold blks at h
  have h2 := (List.nodup_cons.1 h).2
  rw [List.map_append, List.map_cons] at h2
  obtain ⟨_, h3, h4⟩ := List.nodup_append.1 h2
  rcases hy with hy | hy
  · exact (List.nodup_cons.1 h3).1 (List.mem_map.2 ⟨y, hy, e⟩)
  · exact h4 y.b (List.mem_map.2 ⟨y, hy, rfl⟩) z.b List.mem_cons_self e
theorem Lnk.insert {lb nb m : Nat} {L p q : List Nd} {nx : Nat → Nat → Option Nat} (h : Lnk lb L nx) (hn : (blks lb L).Nodup) (e : L = p ++ q) (key val : ByteArray) (hnb : nb ∉ blks lb L) :
    Lnk lb (p ++ ⟨key, val, m, nb⟩ :: q) (nxK nx lb nb p m) := by
  have hlb : lb ≠ nb := fun e => hnb (by rw [← e]; exact List.mem_cons_self)
  have hnd : ∀ z ∈ L, z.b ≠ nb := fun z hz e => hnb (by rw [← e]; exact List.mem_cons_of_mem _ (List.mem_map.2 ⟨z, hz, rfl⟩))
  constructor
  · intro j
    unfold nxK
    rw [if_neg hlb, first_app]
    simp only [firstAb]
    rcases last_split j lb p with ⟨h1, h2⟩ | ⟨p1, y, p2, e2, h1, h2, h3⟩
    · rw [h2, first_none.2 h1, h.head, e, first_app, first_none.2 h1]
      by_cases c : j < m
      · rw [if_pos ⟨c, rfl⟩, if_pos c]; rfl
      · rw [if_neg (fun e => c e.1), if_neg c]
    · rw [h3, if_neg (fun k => nodup_lb hn (x := y) (by rw [e, e2]; simp) k.2.symm), h.head, e, first_app]
      have : ∃ b, firstAb j p = some b := by
        cases hf : firstAb j p with
        | some b => exact ⟨b, rfl⟩
        | none => exact absurd h1 (first_none.1 hf y (by rw [e2]; simp))
      obtain ⟨b, hb⟩ := this
      rw [hb]; rfl
  · intro p' z q' hz j
    rcases List.append_eq_append_iff.1 hz with ⟨r, e1, e2⟩ | ⟨r, e1, e2⟩
    · -- p' = p ++ r, x :: q = r ++ z :: q'
      cases r with
      | nil =>
        rw [List.nil_append] at e2
        obtain ⟨rfl, rfl⟩ := List.cons.inj e2
        show nxK nx lb nb p m nb j = if j < m then _ else _
        unfold nxK
        rw [if_pos rfl, h.last e]
      | cons x' r =>
        rw [List.cons_append] at e2
        obtain ⟨rfl, rfl⟩ := List.cons.inj e2
        have hzL : z ∈ L := by rw [e]; simp
        unfold nxK
        rw [if_neg (hnd z hzL), if_neg, h.node (p ++ r) z q' (by rw [e]; simp)]
        rintro ⟨_, k⟩
        rcases last_mem j p lb with hl | ⟨y, hy, _, hl⟩
        · rw [hl] at k; exact nodup_lb hn hzL k
        · rw [← hl] at k
          rw [show L = (p ++ r) ++ z :: q' by rw [e]; simp] at hn
          exact nodup_split hn (.inr (List.mem_append_left _ hy)) k.symm
    · -- p = p' ++ r, z :: q' = r ++ x :: q
      cases r with
      | nil =>
        rw [List.nil_append] at e2
        obtain ⟨rfl, rfl⟩ := List.cons.inj e2
        rw [List.append_nil] at e1
        show nxK nx lb nb p m nb j = if j < m then _ else _
        unfold nxK
        rw [if_pos rfl, h.last e]
      | cons z' r =>
        rw [List.cons_append] at e2
        obtain ⟨rfl, rfl⟩ := List.cons.inj e2
        have hzL : z ∈ L := by rw [e, e1]; simp
        have hnode := h.node p' z (r ++ q) (by rw [e, e1]; simp) j
        unfold nxK
        rw [if_neg (hnd z hzL), hnode]
        by_cases c : j < z.h
        · rw [if_pos c]
          have hla : lastAb j lb p = lastAb j z.b r := by rw [e1, last_app]; simp only [lastAb]; rw [if_pos c]
          rw [hla, first_app, first_app]
          simp only [firstAb]
          rcases last_split j z.b r with ⟨h1, h2⟩ | ⟨p1, y, p2, e3, h1, h2, h3⟩
          · rw [h2, first_none.2 h1]
            by_cases d : j < m
            · rw [if_pos ⟨d, rfl⟩, if_pos c, if_pos d]; rfl
            · rw [if_neg (fun e => d e.1), if_pos c, if_neg d]
          · rw [h3, if_neg, if_pos c]
            · have : ∃ b, firstAb j r = some b := by
                cases hf : firstAb j r with
                | some b => exact ⟨b, rfl⟩
                | none => exact absurd h1 (first_none.1 hf y (by rw [e3]; simp))
              obtain ⟨b, hb⟩ := this
              rw [hb]; rfl
            · rintro ⟨_, k⟩
              rw [show L = p' ++ z :: (r ++ q) by rw [e, e1]; simp] at hn
              exact nodup_split hn (.inl (List.mem_append_left _ (by rw [e3]; simp))) k.symm
        · rw [if_neg c, if_neg, if_neg c]
          rintro ⟨_, k⟩
          rcases last_mem j p lb with hl | ⟨y, hy, hyj, hl⟩
          · rw [hl] at k; exact nodup_lb hn hzL k
          · rw [← hl] at k
            have := nodup_inj hn hzL (show y ∈ L by rw [e]; exact List.mem_append_left _ hy) k
            subst this
            exact c hyj
theorem more_head {key : ByteArray} {L : List Nd} {x : Nd} (h : (moreK key L).head? = some x) : bless x.key key = false := by
  unfold moreK at h
  induction L with
  | nil => cases h
  | cons y L ih =>
    rw [List.dropWhile_cons] at h
    split at h
    · exact ih h
    · obtain rfl : y = x := by simpa using h
      rename_i hn
      simpa using hn
theorem find_none {lb : Nat} {key : ByteArray} {L : List Nd} (hG : Good lb L) (h : findN key L = none) : ∀ x ∈ moreK key L, bless key x.key = true := by
  have hs := hG.sorted
  rw [← less_more key L] at hs
  have hs2 := (List.pairwise_append.1 hs).2.1
  unfold findN at h
  cases hm : moreK key L with
  | nil => intro x hx; cases hx
  | cons y q =>
    rw [hm] at h hs2
    simp only [List.head?_cons] at h
    have hne : ¬ y.key.toList = key.toList := by
      intro c; rw [if_pos c] at h; cases h
    have hy : bless key y.key = true := by
      rcases bl_tri key.toList y.key.toList with c | c | c
      · exact c
      · exact absurd c.symm hne
      · have := more_head (key := key) (L := L) (x := y) (by rw [hm]; rfl)
        rw [show bless y.key key = true from c] at this; cases this
    intro x hx
    rcases List.mem_cons.1 hx with rfl | hx
    · exact hy
    · exact bl_trans hy ((List.pairwise_cons.1 hs2).1 x hx)
theorem Good.insert {lb nb : Nat} {key val : ByteArray} {m : Nat} {L : List Nd} (hG : Good lb L) (hf : findN key L = none) (hm : 1 ≤ m ∧ m ≤ 12) (hnb : nb ∉ blks lb L) : Good lb (lessK key L ++ ⟨key, val, m, nb⟩ :: moreK key L) := by
  have hlm := less_more key L
  refine ⟨?_, ?_, fun x hx => ?_⟩
  · have hn := hG.nodup
    have hp : (blks lb (lessK key L ++ ⟨key, val, m, nb⟩ :: moreK key L)).Perm (nb :: blks lb L) := by
      unfold blks
      rw [List.map_append, List.map_cons]
      refine (List.Perm.cons lb List.perm_middle).trans ?_
      rw [← List.map_append, hlm]
      exact List.Perm.swap _ _ _
    exact hp.symm.nodup (List.nodup_cons.2 ⟨hnb, hn⟩)
  · have hs := hG.sorted
    rw [← hlm] at hs
    obtain ⟨h1, h2, h3⟩ := List.pairwise_append.1 hs
    refine List.pairwise_append.2 ⟨h1, List.pairwise_cons.2 ⟨find_none hG hf, h2⟩, fun x hx y hy => ?_⟩
    rcases List.mem_cons.1 hy with rfl | hy
    · exact less_all hx
    · exact h3 x hx y hy
  · rcases List.mem_append.1 hx with hx | hx
    · exact hG.hs x (by rw [← hlm]; exact List.mem_append_left _ hx)
    · rcases List.mem_cons.1 hx with rfl | hx
      · exact hm
      · exact hG.hs x (by rw [← hlm]; exact List.mem_append_right _ hx)
end Go.Proofs.Ytdeiaicplcpbeaa.Print
