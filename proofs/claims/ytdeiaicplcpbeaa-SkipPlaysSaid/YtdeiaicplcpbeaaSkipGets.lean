import Derived.Test.YtdeiaicplcpbeaaSkipSearch
namespace Go.Proofs.Ytdeiaicplcpbeaa.Print
open Go.RowKit Go.Proofs.YtdeiaicplcpbeaaX Go.Proofs.YtdeiaicplcpbeaaW.PrintWords Go.Proofs.YtdeiaicplcpbeaaW.PrintLast
set_option linter.unusedVariables false
set_option linter.unusedSimpArgs false

theorem last_split (j d : Nat) (p : List Nd) : ((∀ x ∈ p, ¬ j < x.h) ∧ lastAb j d p = d) ∨ ∃ p1 x p2, p = p1 ++ x :: p2 ∧ j < x.h ∧ (∀ y ∈ p2, ¬ j < y.h) ∧ lastAb j d p = x.b := by
  induction p generalizing d with
  | nil => exact .inl ⟨(fun x hx => by cases hx), rfl⟩
  | cons x p ih =>
    simp only [lastAb]
    rcases ih (if j < x.h then x.b else d) with ⟨h1, h2⟩ | ⟨p1, y, p2, e, h1, h2, h3⟩
    · by_cases c : j < x.h
      · rw [if_pos c] at h2 ⊢
        exact .inr ⟨[], x, p, rfl, c, h1, h2⟩
      · rw [if_neg c] at h2 ⊢
        exact .inl ⟨fun y hy => (List.mem_cons.1 hy).elim (fun e => e ▸ c) (h1 y), h2⟩
    · exact .inr ⟨x :: p1, y, p2, by rw [e]; rfl, h1, h2, h3⟩
theorem Lnk.last {lb : Nat} {L p q : List Nd} {nx : Nat → Nat → Option Nat} (hl : Lnk lb L nx) (e : L = p ++ q) (j : Nat) : nx (lastAb j lb p) j = firstAb j q := by
  rcases last_split j lb p with ⟨h1, h2⟩ | ⟨p1, x, p2, e2, h1, h2, h3⟩
  · rw [h2, hl.head, e, first_app, first_none.2 h1]; simp
  · rw [h3, hl.node p1 x (p2 ++ q) (by rw [e, e2]; simp), if_pos h1, first_app, first_none.2 h2]; simp
theorem first0 {q : List Nd} (h : ∀ x ∈ q, 1 ≤ x.h) : firstAb 0 q = q.head?.map (·.b) := by
  cases q with
  | nil => rfl
  | cons x q => simp only [firstAb]; rw [if_pos (show 0 < x.h from h x List.mem_cons_self)]; rfl
theorem idx0 (f : Nat → Nat) (g : Nat → Option Nat) (W : World) (hg : g = fun j => some (f j) := by rfl) : (Instr.index 47 (.agg (lanes g).toArray) (.int .i64 0)).run Try.prog W = .ok (.pointer (some ⟨f 0, 0, none⟩)) W := by
  subst hg
  unfold lanes
  simp only [ptr_some]
  kernel_rfl
/-- The node that is found. -/
def findN (key : ByteArray) (L : List Nd) : Option Nd :=
  match (moreK key L).head? with
  | some x => if x.key.toList = key.toList then some x else none
  | none => none
theorem more_mem {key : ByteArray} {L : List Nd} {x : Nd} (h : (moreK key L).head? = some x) : x ∈ L := by
  rw [← less_more key L]
  exact List.mem_append_right _ (List.mem_of_mem_head? h)
set_option maxHeartbeats 4000000 in
set_option maxRecDepth 100000 in
theorem find_calls (lb : Nat) (L : List Nd) (key : ByteArray) (w : World) (hS : SK w lb L) :
    Calls Try.prog 23 #[.pointer (some ⟨lb, 0, none⟩), .string key] w fun e w' => e = .returned (ptrV ((findN key L).map (·.b))) ∧ Below w.heap.size w w' := by
  have hs := search_calls lb L key w hS
  obtain ⟨nx, hH, hL, hG⟩ := hS
  have hn0 := hL.last (less_more key L).symm 0
  rw [first0 (fun x hx => (hG.hs x (by rw [← less_more key L]; exact List.mem_append_right _ hx)).1)] at hn0
  have hbm := last_blks 0 lb (lessK key L) (moreK key L)
  rw [less_more] at hbm
  have hix : ∀ W, (Instr.index 47 (.agg (lanes (lastsF lb L key)).toArray) (.int .i64 0)).run Try.prog W = .ok (.pointer (some ⟨lastAb 0 lb (lessK key L), 0, none⟩)) W := fun W => idx0 (fun j => lastAb j lb (lessK key L)) _ W
  have hlane : ∀ W, Below w.heap.size w W → W.cell? ⟨lastAb 0 lb (lessK key L), 3, none⟩ = some (ptrV ((moreK key L).head?.map (·.b))) := by
    intro W hB
    have := ((hH.move (fun b hb => hB.block b (hH.lt hb))).lane hbm 0 (by decide)).1
    rw [hn0] at this
    exact this
  unfold findN
  go_enter Try.func23, Try.ntmps23
  cases hm : (moreK key L).head? with
  | none =>
    rw [hm] at hlane
    simp only [Option.map_none, ptr_none] at hlane ⊢
    go_wp2_with (go_at_call 21; refine hs.mono ?_; rintro e w1 ⟨rfl, hb1⟩; have hc := hlane _ hb1)
    go_ret
    exact ⟨rfl, hb1⟩
  | some x =>
    rw [hm] at hlane
    simp only [Option.map_some, ptr_some] at hlane ⊢
    have hx := more_mem hm
    by_cases c : x.key.toList = key.toList
    · rw [if_pos c]
      have cb : (x.key.toList == key.toList) = true := beq_iff_eq.2 c
      clear c
      go_wp2_with (go_at_call 21; refine hs.mono ?_; rintro e w1 ⟨rfl, hb1⟩; have hc := hlane _ hb1; have hk := ((hH.move (fun b hb => hb1.block b (hH.lt hb))).parts hx).1)
      go_ret
      exact ⟨rfl, hb1⟩
    · rw [if_neg c]
      have cb : (x.key.toList == key.toList) = false := beq_eq_false_iff_ne.2 c
      clear c
      go_wp2_with (go_at_call 21; refine hs.mono ?_; rintro e w1 ⟨rfl, hb1⟩; have hc := hlane _ hb1; have hk := ((hH.move (fun b hb => hb1.block b (hH.lt hb))).parts hx).1)
      go_ret
      exact ⟨rfl, hb1⟩
/-- What Get, Height tell. -/
def getF (key : ByteArray) (L : List Nd) : ByteArray × Bool :=
  match findN key L with
  | some x => (x.val, true)
  | none => ((⟨#[]⟩ : ByteArray), false)
def heightF (key : ByteArray) (L : List Nd) : Int :=
  match findN key L with
  | some x => (x.h : Int)
  | none => 0
theorem find_mem {key : ByteArray} {L : List Nd} {x : Nd} (h : findN key L = some x) : x ∈ L := by
  unfold findN at h
  cases hm : (moreK key L).head? with
  | none => rw [hm] at h; cases h
  | some y =>
    rw [hm] at h
    simp only at h
    split at h
    · obtain rfl := Option.some.inj h
      exact more_mem hm
    · cases h
theorem SK.parts {W : World} {lb : Nat} {L : List Nd} (h : SK W lb L) {x : Nd} (hx : x ∈ L) : W.cell? ⟨x.b, 0, none⟩ = some (.string x.key) ∧ W.cell? ⟨x.b, 1, none⟩ = some (.string x.val) ∧ W.cell? ⟨x.b, 2, none⟩ = some (.int .i64 (x.h : Int)) := by
  obtain ⟨nx, hH, _, _⟩ := h
  exact ⟨(hH.parts hx).1, (hH.parts hx).2.1, (hH.parts hx).2.2.1⟩
set_option maxHeartbeats 4000000 in
set_option maxRecDepth 100000 in
theorem get_calls (lb : Nat) (L : List Nd) (key : ByteArray) (w : World) (hS : SK w lb L) :
    Calls Try.prog 11 #[.pointer (some ⟨lb, 0, none⟩), .string key] w fun e w' => e = .returned (.tuple #[.string (getF key L).1, .bool (getF key L).2]) ∧ Below w.heap.size w w' := by
  have hs := find_calls lb L key w hS
  unfold getF
  go_enter Try.func11, Try.ntmps11
  cases hm : findN key L with
  | none =>
    rw [hm] at hs
    simp only [Option.map_none, ptr_none] at hs
    go_wp2_with (go_at_call 23; refine hs.mono ?_; rintro e w1 ⟨rfl, hb1⟩)
    go_ret2
    exact ⟨rfl, hb1⟩
  | some x =>
    rw [hm] at hs
    simp only [Option.map_some, ptr_some] at hs
    have hx := find_mem hm
    go_wp2_with (go_at_call 23; refine hs.mono ?_; rintro e w1 ⟨rfl, hb1⟩; have hv := ((hS.below hb1).parts hx).2.1)
    go_ret2
    exact ⟨rfl, hb1⟩
set_option maxHeartbeats 4000000 in
set_option maxRecDepth 100000 in
theorem height_calls (lb : Nat) (L : List Nd) (key : ByteArray) (w : World) (hS : SK w lb L) :
    Calls Try.prog 15 #[.pointer (some ⟨lb, 0, none⟩), .string key] w fun e w' => e = .returned (.int .i64 (heightF key L)) ∧ Below w.heap.size w w' := by
  have hs := find_calls lb L key w hS
  unfold heightF
  go_enter Try.func15, Try.ntmps15
  cases hm : findN key L with
  | none =>
    rw [hm] at hs
    simp only [Option.map_none, ptr_none] at hs
    go_wp2_with (go_at_call 23; refine hs.mono ?_; rintro e w1 ⟨rfl, hb1⟩)
    go_ret
    exact ⟨rfl, hb1⟩
  | some x =>
    rw [hm] at hs
    simp only [Option.map_some, ptr_some] at hs
    have hx := find_mem hm
    go_wp2_with (go_at_call 23; refine hs.mono ?_; rintro e w1 ⟨rfl, hb1⟩; have hv := ((hS.below hb1).parts hx).2.2)
    go_ret
    exact ⟨rfl, hb1⟩
set_option maxHeartbeats 4000000 in
set_option maxRecDepth 100000 in
theorem len_calls (lb : Nat) (L : List Nd) (w : World) (hS : SK w lb L) :
    Calls Try.prog 20 #[.pointer (some ⟨lb, 0, none⟩)] w fun e w' => e = .returned (.int .i64 (L.length : Int)) ∧ Below w.heap.size w w' := by
  obtain ⟨nx, hH, _, _⟩ := hS
  have hm := hH.many.1
  go_enter Try.func20, Try.ntmps20
  go_wp2
  go_ret
  exact ⟨rfl, Below.refl _ _⟩
/-- What Seek tells. -/
def seekF (key : ByteArray) (L : List Nd) : ByteArray × ByteArray × Bool :=
  match (moreK key L).head? with
  | some x => (x.key, x.val, true)
  | none => ((⟨#[]⟩ : ByteArray), (⟨#[]⟩ : ByteArray), false)
set_option maxHeartbeats 4000000 in
set_option maxRecDepth 100000 in
theorem seek_calls (lb : Nat) (L : List Nd) (key : ByteArray) (w : World) (hS : SK w lb L) :
    Calls Try.prog 13 #[.pointer (some ⟨lb, 0, none⟩), .string key] w fun e w' => e = .returned (.tuple #[.string (seekF key L).1, .string (seekF key L).2.1, .bool (seekF key L).2.2]) ∧ Below w.heap.size w w' := by
  have hs := search_calls lb L key w hS
  have hS0 := hS
  obtain ⟨nx, hH, hL, hG⟩ := hS
  have hn0 := hL.last (less_more key L).symm 0
  rw [first0 (fun x hx => (hG.hs x (by rw [← less_more key L]; exact List.mem_append_right _ hx)).1)] at hn0
  have hbm := last_blks 0 lb (lessK key L) (moreK key L)
  rw [less_more] at hbm
  have hix : ∀ W, (Instr.index 47 (.agg (lanes (lastsF lb L key)).toArray) (.int .i64 0)).run Try.prog W = .ok (.pointer (some ⟨lastAb 0 lb (lessK key L), 0, none⟩)) W := fun W => idx0 (fun j => lastAb j lb (lessK key L)) _ W
  have hlane : ∀ W, Below w.heap.size w W → W.cell? ⟨lastAb 0 lb (lessK key L), 3, none⟩ = some (ptrV ((moreK key L).head?.map (·.b))) := by
    intro W hB
    have := ((hH.move (fun b hb => hB.block b (hH.lt hb))).lane hbm 0 (by decide)).1
    rw [hn0] at this
    exact this
  unfold seekF
  go_enter Try.func13, Try.ntmps13
  cases hm : (moreK key L).head? with
  | none =>
    rw [hm] at hlane
    simp only [Option.map_none, ptr_none] at hlane
    go_wp2_with (go_at_call 21; refine hs.mono ?_; rintro e w1 ⟨rfl, hb1⟩; have hc := hlane _ hb1)
    go_ret3
    exact ⟨rfl, hb1⟩
  | some x =>
    rw [hm] at hlane
    simp only [Option.map_some, ptr_some] at hlane
    have hx := more_mem hm
    go_upto_region 3 with (go_at_call 21; refine hs.mono ?_; rintro e w1 ⟨rfl, hb1⟩; have hc := hlane _ hb1)
    obtain ⟨hk, hv, _⟩ := (hS0.below hb1).parts hx
    refine wp_region_quiet_lit (by kernel_rfl) (by kernel_rfl) ?_
    repeat (go_big_quiet_step (fail))
    refine wpQuiet_nil ?_
    rintro w4 ⟨nq, hw4⟩
    have hB4 : Below w.heap.size w w4 := hw4 ▸ pw_below_drewN hb1 nq
    clear hw4
    go_wp2
    go_ret3
    exact ⟨rfl, hB4⟩
end Go.Proofs.Ytdeiaicplcpbeaa.Print
