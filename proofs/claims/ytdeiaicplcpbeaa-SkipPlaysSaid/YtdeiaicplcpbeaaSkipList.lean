import Derived.Test.YtdeiaicplcpbeaaSkipMem
namespace Go.Proofs.Ytdeiaicplcpbeaa.Print
open Go.RowKit Go.Proofs.YtdeiaicplcpbeaaX Go.Proofs.YtdeiaicplcpbeaaW.PrintWords Go.Proofs.YtdeiaicplcpbeaaW.PrintLast
set_option linter.unusedVariables false
set_option linter.unusedSimpArgs false

/-! ## The lanes of a list -/
def firstAb (j : Nat) : List Nd → Option Nat
  | [] => none
  | x :: l => if j < x.h then some x.b else firstAb j l
def lastAb (j : Nat) : Nat → List Nd → Nat
  | d, [] => d
  | d, x :: l => lastAb j (if j < x.h then x.b else d) l
def lessK (key : ByteArray) (L : List Nd) : List Nd := L.takeWhile (fun x => bless x.key key)
def moreK (key : ByteArray) (L : List Nd) : List Nd := L.dropWhile (fun x => bless x.key key)
structure Good (lb : Nat) (L : List Nd) : Prop where
  nodup : (blks lb L).Nodup
  sorted : L.Pairwise (fun x y => bless x.key y.key = true)
  hs : ∀ x ∈ L, 1 ≤ x.h ∧ x.h ≤ 12
structure Lnk (lb : Nat) (L : List Nd) (nx : Nat → Nat → Option Nat) : Prop where
  head : ∀ j, nx lb j = firstAb j L
  node : ∀ p x q, L = p ++ x :: q → ∀ j, nx x.b j = if j < x.h then firstAb j q else none
/-- A list, in memory. -/
def SK (W : World) (lb : Nat) (L : List Nd) : Prop := ∃ nx, SH W lb L.length L nx ∧ Lnk lb L nx ∧ Good lb L
theorem SK.move {W W' : World} {lb : Nat} {L : List Nd} (h : SK W lb L) (hm : ∀ b ∈ blks lb L, W'.heap[b]? = W.heap[b]?) : SK W' lb L := by
  obtain ⟨nx, h1, h2, h3⟩ := h
  exact ⟨nx, h1.move hm, h2, h3⟩
theorem SK.lt {W : World} {lb : Nat} {L : List Nd} (h : SK W lb L) {b : Nat} (hb : b ∈ blks lb L) : b < W.heap.size := by
  obtain ⟨nx, h1, _, _⟩ := h
  exact h1.lt hb
theorem SK.below {W W' : World} {lb : Nat} {L : List Nd} (h : SK W lb L) (hb : Below W.heap.size W W') : SK W' lb L := h.move (fun b hm => hb.block b (h.lt hm))

theorem first_app (j : Nat) (p q : List Nd) : firstAb j (p ++ q) = (firstAb j p).or (firstAb j q) := by
  induction p with
  | nil => simp [firstAb]
  | cons x p ih =>
    rw [List.cons_append]
    simp only [firstAb]
    split
    · rfl
    · exact ih
theorem first_none {j : Nat} {q : List Nd} : firstAb j q = none ↔ ∀ x ∈ q, ¬ j < x.h := by
  induction q with
  | nil => simp [firstAb]
  | cons x q ih =>
    simp only [firstAb]
    by_cases c : j < x.h
    · rw [if_pos c]
      exact ⟨fun h => (by cases h), fun h => absurd c (h x List.mem_cons_self)⟩
    · rw [if_neg c, ih]
      exact ⟨fun h y hy => (List.mem_cons.1 hy).elim (fun e => e ▸ c) (h y), fun h y hy => h y (List.mem_cons_of_mem _ hy)⟩
theorem first_some {j n : Nat} {q : List Nd} (h : firstAb j q = some n) : ∃ q1 y q2, q = q1 ++ y :: q2 ∧ y.b = n ∧ j < y.h ∧ ∀ x ∈ q1, ¬ j < x.h := by
  induction q with
  | nil => cases h
  | cons x q ih =>
    simp only [firstAb] at h
    by_cases c : j < x.h
    · rw [if_pos c] at h
      exact ⟨[], x, q, rfl, Option.some.inj h, c, fun x hx => by cases hx⟩
    · rw [if_neg c] at h
      obtain ⟨q1, y, q2, e, h1, h2, h3⟩ := ih h
      exact ⟨x :: q1, y, q2, by rw [e]; rfl, h1, h2, fun z hz => (List.mem_cons.1 hz).elim (fun e => e ▸ c) (h3 z)⟩
theorem last_app (j : Nat) : ∀ (p q : List Nd) (d : Nat), lastAb j d (p ++ q) = lastAb j (lastAb j d p) q
  | [], _, _ => rfl
  | x :: p, q, d => by rw [List.cons_append]; simp only [lastAb]; exact last_app j p q _
theorem last_none {j : Nat} : ∀ (q : List Nd) (d : Nat), (∀ x ∈ q, ¬ j < x.h) → lastAb j d q = d
  | [], _, _ => rfl
  | x :: q, d, h => by
    simp only [lastAb]
    rw [if_neg (h x List.mem_cons_self)]
    exact last_none q d (fun y hy => h y (List.mem_cons_of_mem _ hy))
theorem last_mem (j : Nat) : ∀ (q : List Nd) (d : Nat), lastAb j d q = d ∨ ∃ x ∈ q, j < x.h ∧ x.b = lastAb j d q
  | [], d => .inl rfl
  | x :: q, d => by
    simp only [lastAb]
    rcases last_mem j q (if j < x.h then x.b else d) with h | ⟨y, hy, h1, h2⟩
    · rw [h]
      by_cases c : j < x.h
      · rw [if_pos c]; exact .inr ⟨x, List.mem_cons_self, c, rfl⟩
      · rw [if_neg c]; exact .inl rfl
    · exact .inr ⟨y, List.mem_cons_of_mem _ hy, h1, h2⟩
theorem last_blks (j lb : Nat) (p q : List Nd) : lastAb j lb p ∈ blks lb (p ++ q) := by
  rcases last_mem j p lb with h | ⟨x, hx, _, h⟩
  · rw [h]; exact List.mem_cons_self
  · rw [← h]; exact List.mem_cons_of_mem _ (List.mem_map.2 ⟨x, List.mem_append_left _ hx, rfl⟩)
theorem less_more (key : ByteArray) (L : List Nd) : lessK key L ++ moreK key L = L := List.takeWhile_append_dropWhile
theorem less_all {key : ByteArray} {L : List Nd} {x : Nd} (h : x ∈ lessK key L) : bless x.key key = true := by
  unfold lessK at h
  induction L with
  | nil => cases h
  | cons y L ih =>
    rw [List.takeWhile_cons] at h
    split at h
    · rcases List.mem_cons.1 h with rfl | h
      · assumption
      · exact ih h
    · cases h
theorem less_app {key : ByteArray} {p q : List Nd} (h : ∀ x ∈ p, bless x.key key = true) : lessK key (p ++ q) = p ++ lessK key q := by
  unfold lessK
  induction p with
  | nil => rfl
  | cons x p ih =>
    rw [List.cons_append, List.takeWhile_cons, if_pos (h x List.mem_cons_self), ih (fun y hy => h y (List.mem_cons_of_mem _ hy))]
    rfl
theorem less_stop {key : ByteArray} {q1 q2 : List Nd} {y : Nd} (h : ¬ bless y.key key = true) : ∀ x ∈ lessK key (q1 ++ y :: q2), x ∈ q1 := by
  unfold lessK
  induction q1 with
  | nil =>
    intro x hx
    rw [List.nil_append, List.takeWhile_cons, if_neg h] at hx
    cases hx
  | cons z q1 ih =>
    intro x hx
    rw [List.cons_append, List.takeWhile_cons] at hx
    split at hx
    · rcases List.mem_cons.1 hx with rfl | hx
      · exact List.mem_cons_self
      · exact List.mem_cons_of_mem _ (ih x hx)
    · cases hx
/-- Where the search stands: behind p, ahead of q, in lane j. -/
def At (lb : Nat) (L : List Nd) (key : ByteArray) (b j : Nat) (q : List Nd) : Prop :=
  ∃ p, L = p ++ q ∧ (∀ x ∈ p, bless x.key key = true) ∧ (p = [] ∧ b = lb ∨ ∃ p' x, p = p' ++ [x] ∧ b = x.b ∧ j < x.h)
theorem At.start (lb : Nat) (L : List Nd) (key : ByteArray) (j : Nat) : At lb L key lb j L := ⟨[], rfl, (fun x hx => by cases hx), .inl ⟨rfl, rfl⟩⟩
theorem At.down {lb : Nat} {L : List Nd} {key : ByteArray} {b j k : Nat} {q : List Nd} (h : At lb L key b j q) (hk : k ≤ j) : At lb L key b k q := by
  obtain ⟨p, h1, h2, h3⟩ := h
  exact ⟨p, h1, h2, h3.imp id (fun ⟨p', x, e1, e2, e3⟩ => ⟨p', x, e1, e2, by omega⟩)⟩
theorem At.nx {lb : Nat} {L : List Nd} {key : ByteArray} {b j : Nat} {q : List Nd} {nx : Nat → Nat → Option Nat} (h : At lb L key b j q) (hl : Lnk lb L nx) : nx b j = firstAb j q := by
  obtain ⟨p, h1, h2, ⟨rfl, rfl⟩ | ⟨p', x, rfl, rfl, h3⟩⟩ := h
  · rw [hl.head, h1]; rfl
  · rw [hl.node p' x q (by rw [h1]; simp), if_pos h3]
theorem At.mem {lb : Nat} {L : List Nd} {key : ByteArray} {b j : Nat} {q : List Nd} (h : At lb L key b j q) : b ∈ blks lb L := by
  obtain ⟨p, h1, h2, ⟨rfl, rfl⟩ | ⟨p', x, rfl, rfl, h3⟩⟩ := h
  · exact List.mem_cons_self
  · exact List.mem_cons_of_mem _ (List.mem_map.2 ⟨x, by rw [h1]; simp, rfl⟩)
theorem At.last {lb : Nat} {L : List Nd} {key : ByteArray} {b j : Nat} {q : List Nd} (h : At lb L key b j q) (hr : ∀ x ∈ lessK key q, ¬ j < x.h) : lastAb j lb (lessK key L) = b := by
  obtain ⟨p, h1, h2, h3⟩ := h
  rw [h1, less_app h2, last_app, last_none _ _ hr]
  rcases h3 with ⟨rfl, rfl⟩ | ⟨p', x, rfl, rfl, h3⟩
  · rfl
  · rw [last_app]; simp only [lastAb]; rw [if_pos h3]
theorem less_sub {key : ByteArray} {q : List Nd} : ∀ x ∈ lessK key q, x ∈ q := fun x hx => (List.takeWhile_sublist _).subset hx
theorem At.none {lb : Nat} {L : List Nd} {key : ByteArray} {b j : Nat} {q : List Nd} (h : At lb L key b j q) (hn : firstAb j q = none) : lastAb j lb (lessK key L) = b :=
  h.last (fun x hx => first_none.1 hn x (less_sub x hx))
/-- The next one in the lane. -/
theorem At.some {lb n : Nat} {L : List Nd} {key : ByteArray} {b j : Nat} {q : List Nd} (hso : L.Pairwise (fun x y => bless x.key y.key = true)) (h : At lb L key b j q) (hn : firstAb j q = some n) :
    ∃ y ∈ L, y.b = n ∧ (bless y.key key = true → ∃ q2, q2.length < q.length ∧ At lb L key n j q2) ∧ (bless y.key key = false → lastAb j lb (lessK key L) = b) := by
  obtain ⟨q1, y, q2, e, h1, h2, h3⟩ := first_some hn
  refine ⟨y, ?_, h1, fun hk => ⟨q2, ?_, ?_⟩, fun hk => h.last (fun x hx => ?_)⟩
  · obtain ⟨p, hL, _, _⟩ := h
    rw [hL, e]; simp
  · rw [e]; simp only [List.length_append, List.length_cons]; omega
  · obtain ⟨p, hL, hp, _⟩ := h
    refine ⟨p ++ q1 ++ [y], by rw [hL, e]; simp, fun x hx => ?_, .inr ⟨p ++ q1, y, rfl, h1.symm, h2⟩⟩
    have hbef : ∀ z ∈ q1, bless z.key y.key = true := by
      intro z hz
      rw [hL, e] at hso
      exact (List.pairwise_append.1 (List.pairwise_append.1 hso).2.1).2.2 z hz y List.mem_cons_self
    rcases List.mem_append.1 hx with hx | hx
    · rcases List.mem_append.1 hx with hx | hx
      · exact hp x hx
      · exact bl_trans (hbef x hx) hk
    · rw [List.mem_singleton.1 hx]; exact hk
  · rw [e] at hx
    exact h3 x (less_stop (by rw [hk]; decide) x hx)
end Go.Proofs.Ytdeiaicplcpbeaa.Print
