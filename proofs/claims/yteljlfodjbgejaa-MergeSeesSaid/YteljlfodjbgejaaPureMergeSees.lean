/- What is seen is of each key one entry at most, none of them dropped, none behind the number; in a list of more merged lists the newest one's counts: for all arguments that the row lets in. -/
import Derived.Test.YteljlfodjbgejaaMergeA
import Derived.Test.YteljlfodjbgejaaPrint16
namespace Go.Proofs.Yteljlfodjbgejaa.Pure
open Go.RowKit Go.Proofs.Yteljlfodjbgejaa.Print Go.Proofs.YteljlfodjbgejaaX Go.Proofs.YteljlfodjbgejaaW.PrintWords Go.Proofs.YteljlfodjbgejaaW.PrintLast
set_option linter.unusedVariables false
set_option linter.unusedSimpArgs false

/-- The first one of a key's entries up to a number, in parts: that part's. -/
theorem find_parts (s : Int) : ∀ (gs : List (List Ent)), GrpsOk gs → ∀ g ∈ gs, gs.flatten.find? (hit (gt g 0).f0 s) = g.find? (upto s) := by
  intro gs
  induction gs with
  | nil => intro _ g hg; cases hg
  | cons h gs ih =>
    intro hG g hg
    obtain ⟨h1, h2⟩ := hG
    obtain ⟨b1, b2⟩ := List.pairwise_cons.1 h2
    have hhit : ∀ x ∈ h, ∀ k : ByteArray, hit k s x = (decide ((gt h 0).f0 = k) && upto s x) := by
      intro x hx k
      unfold hit upto
      rw [(h1 h List.mem_cons_self).2.1 x hx]
      congr 1
      rw [Bool.eq_iff_iff, beq_iff_eq, decide_eq_true_eq]
      exact ⟨toList_inj, fun e => by rw [e]⟩
    rw [List.flatten_cons, List.find?_append]
    rcases List.mem_cons.1 hg with rfl | hg
    · rw [find_congr g (fun x hx => (hhit x hx _).trans (by rw [decide_eq_true rfl, Bool.true_and]))]
      cases hf : g.find? (upto s) with
      | some x => rfl
      | none =>
        rw [Option.none_or]
        apply List.find?_eq_none.2
        intro y hy hyt
        obtain ⟨z, hz, hyz⟩ := List.mem_flatten.1 hy
        unfold hit at hyt
        rw [Bool.and_eq_true, beq_iff_eq] at hyt
        have hk := toList_inj hyt.1
        rw [(h1 z (List.mem_cons_of_mem _ hz)).2.1 y hyz] at hk
        have := b1 z hz
        rw [hk] at this
        exact bless_irr _ this
    · have hne : (gt h 0).f0 ≠ (gt g 0).f0 := fun e => by have := b1 g hg; rw [e] at this; exact bless_irr _ this
      have hn : h.find? (hit (gt g 0).f0 s) = none := by
        apply List.find?_eq_none.2
        intro x hx hxt
        rw [hhit x hx, decide_eq_false hne] at hxt
        cases hxt
      rw [hn, Option.none_or]
      exact ih ⟨fun z hz => h1 z (List.mem_cons_of_mem _ hz), b2⟩ g hg
/-- What a list tells of an entry's key. -/
theorem find_of {l : List Ent} (hl : SSorted l) (s : Int) {g : List Ent} (hg : g ∈ grps l) {x : Ent} (hx : x ∈ g) : l.find? (hit x.f0 s) = g.find? (upto s) := by
  have h := find_parts s (grps l) (grps_ok hl) g hg
  rw [grps_flat] at h
  rw [((grps_ok hl).1 g hg).2.1 x hx]
  exact h
theorem seeG_mem {s : Int} {g : List Ent} {x : Ent} : x ∈ seeG s g ↔ g.find? (upto s) = some x ∧ ¬ x.f2 = true := by
  unfold seeG
  cases g.find? (upto s) with
  | none => simp
  | some y =>
    dsimp only
    by_cases c : y.f2 = true
    · rw [if_pos c]
      simp
      intro e
      rw [← e]; exact c
    · rw [if_neg c]
      simp
      constructor
      · rintro rfl; exact ⟨rfl, by simpa using c⟩
      · rintro ⟨e, _⟩; exact e.symm
/-- Each entry that is seen. -/
theorem see_mem {l : List Ent} (hl : SSorted l) {s : Int} {x : Ent} (h : x ∈ seeR s l) : ¬ x.f2 = true ∧ x.f1 ≤ s ∧ l.find? (hit x.f0 s) = some x := by
  unfold seeR at h
  obtain ⟨g, hg, hx⟩ := List.mem_flatMap.1 h
  obtain ⟨h1, h2⟩ := seeG_mem.1 hx
  have hxg := List.mem_of_find?_eq_some h1
  refine ⟨h2, ?_, by rw [find_of hl s hg hxg]; exact h1⟩
  have := List.find?_some h1
  unfold upto at this
  exact of_decide_eq_true this
theorem see_rise {l : List Ent} (hl : SSorted l) (s : Int) : (seeR s l).Pairwise (fun x y => bless x.f0 y.f0 = true) := by
  have hG := grps_ok hl
  unfold seeR
  generalize grps l = gs at hG
  induction gs with
  | nil => exact List.Pairwise.nil
  | cons g gs ih =>
    obtain ⟨h1, h2⟩ := hG
    obtain ⟨b1, b2⟩ := List.pairwise_cons.1 h2
    rw [List.flatMap_cons]
    refine List.pairwise_append.2 ⟨?_, ih ⟨fun z hz => h1 z (List.mem_cons_of_mem _ hz), b2⟩, fun x hx y hy => ?_⟩
    · unfold seeG
      split
      · split
        · exact List.Pairwise.nil
        · exact List.pairwise_singleton _ _
      · exact List.Pairwise.nil
    · obtain ⟨h, hh, hyh⟩ := List.mem_flatMap.1 hy
      have hx1 := (h1 g List.mem_cons_self).2.1 x (List.mem_of_find?_eq_some (seeG_mem.1 hx).1)
      have hy1 := (h1 h (List.mem_cons_of_mem _ hh)).2.1 y (List.mem_of_find?_eq_some (seeG_mem.1 hyh).1)
      rw [hx1, hy1]
      exact b1 h hh
/-- How many entries are what the list tells of their keys. -/
def shown (l : List Ent) (s : Int) (x : Ent) : Bool := match l.find? (hit x.f0 s) with
  | some y => (y.f0.toList == x.f0.toList && (y.f1 == x.f1 && (y.f2 == x.f2 && y.f3.toList == x.f3.toList))) && !y.f2
  | none => false
theorem ent_eq {x y : Ent} (h : (y.f0.toList == x.f0.toList && (y.f1 == x.f1 && (y.f2 == x.f2 && y.f3.toList == x.f3.toList))) = true) : y = x := by
  simp only [Bool.and_eq_true, beq_iff_eq] at h
  obtain ⟨h0, h1, h2, h3⟩ := h
  cases x; cases y
  simp only at h0 h1 h2 h3
  rw [toList_inj h0, h1, h2, toList_inj h3]
theorem ent_self (x : Ent) : (x.f0.toList == x.f0.toList && (x.f1 == x.f1 && (x.f2 == x.f2 && x.f3.toList == x.f3.toList))) = true := by simp
theorem shown_iff {l : List Ent} {s : Int} {x : Ent} : shown l s x = true ↔ l.find? (hit x.f0 s) = some x ∧ ¬ x.f2 = true := by
  unfold shown
  cases l.find? (hit x.f0 s) with
  | none => simp
  | some y =>
    dsimp only
    rw [Bool.and_eq_true, Bool.not_eq_true']
    constructor
    · rintro ⟨h1, h2⟩
      have := ent_eq h1
      subst this
      exact ⟨rfl, by rw [h2]; decide⟩
    · rintro ⟨h1, h2⟩
      obtain rfl := Option.some.inj h1
      exact ⟨ent_self _, Bool.eq_false_iff.2 h2⟩
theorem shown_count {l : List Ent} (hl : SSorted l) (s : Int) : (l.filter (shown l s)).length = (seeR s l).length := by
  classical
  have hfun : ∀ g ∈ grps l, ∀ x ∈ g, shown l s x = decide (x ∈ seeG s g) := by
    intro g hg x hx
    rw [Bool.eq_iff_iff, decide_eq_true_eq, shown_iff, seeG_mem, find_of hl s hg hx]
  have hG := grps_ok hl
  unfold seeR
  have hfl : (l.filter (shown l s)) = (grps l).flatten.filter (shown l s) := by rw [grps_flat]
  rw [hfl]
  generalize shown l s = p at hfun
  generalize grps l = gs at hG hfun
  induction gs with
  | nil => rfl
  | cons g gs ih =>
    obtain ⟨h1, h2⟩ := hG
    obtain ⟨b1, b2⟩ := List.pairwise_cons.1 h2
    rw [List.flatten_cons, List.filter_append, List.length_append, List.flatMap_cons, List.length_append, ih ⟨fun z hz => h1 z (List.mem_cons_of_mem _ hz), b2⟩ (fun z hz => hfun z (List.mem_cons_of_mem _ hz))]
    congr 1
    rw [List.filter_congr (hfun g List.mem_cons_self)]
    have hnd : g.Nodup := (h1 g List.mem_cons_self).2.2.imp (fun hxy e => by rw [e] at hxy; omega)
    -- at most one, and it is there
    have hsg : ∀ x ∈ seeG s g, x ∈ g := fun x hx => List.mem_of_find?_eq_some (seeG_mem.1 hx).1
    cases hs : seeG s g with
    | nil =>
      have : g.filter (fun x => decide (x ∈ ([] : List Ent))) = [] := by
        apply List.filter_eq_nil_iff.2
        intro x _
        simp
      rw [this]
    | cons x xs =>
      have hxs : xs = [] := by
        have := seeG_len s g
        rw [hs] at this
        simp at this
        exact this
      subst hxs
      have hxg : x ∈ g := hsg x (by rw [hs]; exact List.mem_cons_self)
      have hf : g.filter (fun y => decide (y ∈ [x])) = [x] := by
        clear hs hsg hfun ih h1 h2 b1 b2
        induction g with
        | nil => cases hxg
        | cons y ys ih =>
          obtain ⟨n1, n2⟩ := List.nodup_cons.1 hnd
          rw [List.filter_cons]
          rcases List.mem_cons.1 hxg with rfl | hx
          · rw [if_pos (by simp)]
            congr 1
            apply List.filter_eq_nil_iff.2
            intro z hz hzx
            have : z = x := by simpa using hzx
            exact n1 (this ▸ hz)
          · rw [if_neg (fun e => by
              have : y = x := by simpa using e
              exact n1 (this ▸ hx))]
            exact ih n2 hx
      rw [hf]
theorem find_tell (l : List Ent) (hl : l.length ≤ 80) (s : Int) (x : Ent) (k : Nat) (hk : 80 < k) : block_Find.f k l x.f0 s = some (match l.find? (hit x.f0 s) with | some e => (e.f0, e.f1, e.f2, e.f3, true) | none => (⟨#[]⟩, 0, false, ⟨#[]⟩, false)) := by
  rw [find_big l x.f0 s (by omega) k (by omega)]
  rfl
theorem sees_l1 (l a : List Ent) (s : Int) (hl : l.length ≤ 80) (ha : a.length ≤ 80) (hc : (l.filter (shown l s)).length = a.length) : ∀ (n i m k : Nat), l.length - i = n → i ≤ l.length → m + ((l.drop i).filter (shown l s)).length = a.length → n + 100 < k →
    palinodelaw15_MergeSees.l1 k l s true a (m : Int) (i : Int) = some true := by
  intro n
  induction n with
  | zero =>
    intro i m k hn hi hm hk
    obtain ⟨k, rfl⟩ : ∃ q, k = q + 1 := ⟨k - 1, by omega⟩
    rw [List.drop_eq_nil_of_le (by omega)] at hm
    simp only [List.filter_nil, List.length_nil] at hm
    simp only [palinodelaw15_MergeSees.l1]
    rw [if_neg (by omega), if_pos (by first | rfl | trivial), show ((m : Int) == (a.length : Int)) = true from beq_iff_eq.2 (by omega)]
  | succ n ih =>
    intro i m k hn hi hm hk
    obtain ⟨k, rfl⟩ : ∃ q, k = q + 1 := ⟨k - 1, by omega⟩
    have hlt : i < l.length := by omega
    have hd : l.drop i = gt l i :: l.drop (i + 1) := by rw [List.drop_eq_getElem_cons hlt, gt_get hlt]
    have hw1 : wrap64 ((i : Int) + 1) = ((i + 1 : Nat) : Int) := by unfold wrap64; omega
    have hmb : m < a.length ∨ shown l s (gt l i) = false := by
      cases hsh : shown l s (gt l i) with
      | false => exact .inr rfl
      | true =>
        left
        rw [hd, List.filter_cons, if_pos hsh, List.length_cons] at hm
        omega
    rw [hd, List.filter_cons] at hm
    have hih := fun m' hm' => ih (i + 1) m' k (by omega) (by omega) hm' (by omega)
    simp only [palinodelaw15_MergeSees.l1]
    rw [if_pos (by omega), if_pos (by omega), hw1, rd_gt, find_tell l hl s (gt l i) k (by omega), Option.bind_some]
    have hsd : shown l s (gt l i) = match l.find? (hit (gt l i).f0 s) with
      | some y => (y.f0.toList == (gt l i).f0.toList && (y.f1 == (gt l i).f1 && (y.f2 == (gt l i).f2 && y.f3.toList == (gt l i).f3.toList))) && !y.f2
      | none => false := rfl
    cases hf : l.find? (hit (gt l i).f0 s) with
    | none =>
      rw [hf] at hsd
      dsimp only at hsd ⊢
      rw [hsd, if_neg (by decide)] at hm
      rw [if_neg (by decide)]
      exact hih m hm
    | some y =>
      rw [hf] at hsd
      dsimp only at hsd ⊢
      rw [if_pos rfl]
      cases he : (y.f0.toList == (gt l i).f0.toList && (y.f1 == (gt l i).f1 && (y.f2 == (gt l i).f2 && y.f3.toList == (gt l i).f3.toList))) with
      | false =>
        rw [he, Bool.false_and] at hsd
        rw [hsd, if_neg (by decide)] at hm
        rw [if_neg (by decide)]
        exact hih m hm
      | true =>
        rw [he, Bool.true_and] at hsd
        rw [if_pos (by first | rfl | trivial)]
        by_cases hy2 : y.f2 = true
        · rw [hy2] at hsd
          rw [hsd, if_neg (by decide)] at hm
          rw [if_pos hy2]
          exact hih m hm
        · rw [Bool.eq_false_iff.2 hy2] at hsd
          rw [hsd, if_pos (by decide), List.length_cons] at hm
          have hwm : wrap64 ((m : Int) + 1) = ((m + 1 : Nat) : Int) := by unfold wrap64; omega
          rw [if_neg hy2, hwm]
          exact hih (m + 1) (by omega)
theorem sees_l0 (l : List Ent) (s : Int) (hl : l.length ≤ 80) (hs : SSorted l) (ha : (seeR s l).length ≤ 80) : ∀ (n i k : Nat), (seeR s l).length - i = n → i ≤ (seeR s l).length → 2 * n + 300 < k →
    palinodelaw15_MergeSees.l0 k l s true (seeR s l) (i : Int) = some true := by
  have hmem := fun x => see_mem hs (s := s) (x := x)
  have hrise := see_rise hs s
  have hcount := shown_count hs s
  generalize seeR s l = a at ha hmem hrise hcount
  intro n
  induction n with
  | zero =>
    intro i k hn hi hk
    obtain ⟨k, rfl⟩ : ∃ q, k = q + 1 := ⟨k - 1, by omega⟩
    simp only [palinodelaw15_MergeSees.l0]
    rw [if_neg (by omega)]
    have h := sees_l1 l a s hl ha hcount l.length 0 0 k (by omega) (by omega) (by rw [List.drop_zero]; omega) (by omega)
    exact h
  | succ n ih =>
    intro i k hn hi hk
    obtain ⟨k, rfl⟩ : ∃ q, k = q + 2 := ⟨k - 2, by omega⟩
    have hlt : i < a.length := by omega
    obtain ⟨m1, m2, m3⟩ := hmem (gt a i) (gt_mem hlt)
    have hw1 : wrap64 ((i : Int) + 1) = ((i + 1 : Nat) : Int) := by unfold wrap64; omega
    have hj : palinodelaw15_MergeSees.j1 (k + 1) l s true a (i : Int) false = some true := by
      simp only [palinodelaw15_MergeSees.j1]
      rw [if_neg (by decide), if_pos (by omega), if_pos (by omega), rd_gt, find_tell l hl s (gt a i) k (by omega), Option.bind_some, m3]
      dsimp only
      rw [if_pos rfl, if_neg (by simp), hw1]
      exact ih (i + 1) k (by omega) (by omega) (by omega)
    simp only [palinodelaw15_MergeSees.l0]
    rw [if_pos (by omega), if_pos (by omega), rd_gt, if_neg m1, if_neg (by omega)]
    by_cases c : (i : Int) > 0
    · obtain ⟨j, rfl⟩ : ∃ j, i = j + 1 := ⟨i - 1, by omega⟩
      have hw : wrap64 (((j + 1 : Nat) : Int) - 1) = (j : Int) := by unfold wrap64; omega
      rw [if_pos c, hw, if_pos (by omega), if_pos (by omega), rd_gt]
      have hb : Op.bytesLess (gt a j).f0.toList (gt a (j + 1)).f0.toList = true := by
        have := List.pairwise_iff_getElem.1 hrise j (j + 1) (by omega) hlt (by omega)
        rw [← gt_get (by omega), ← gt_get hlt] at this
        exact this
      rw [hb]
      exact hj
    · rw [if_neg c]
      exact hj
theorem MergeSees : palinodelaw15_MergeSees.Pure := by
  refine ⟨fun r h => by rw [examples_val] at h; exact (Option.some.inj h).symm, ?_⟩
  intro l0 a1 _ _
  refine ⟨1000, ?_⟩
  unfold palinodelaw15_MergeSees.f
  obtain ⟨q, hq, hq2, m1, m2⟩ := mn_take l0 80
  have e80 : ((80 : Nat) : Int) = 80 := rfl
  rw [e80] at hq2 m1 m2
  rw [examples_val, Option.bind_some, if_pos m1, if_pos m2, Option.bind_some, ← hq2, see_val q a1 (by omega)]
  cases hs : sortedB q with
  | false => rfl
  | true =>
    have hsl := see_len a1 (ss_of hs)
    rw [if_pos (show true = true from rfl), Option.bind_some, if_pos (show (none : Option Int).isNone = true from rfl)]
    exact sees_l0 q a1 hq (ss_of hs) (by omega) (seeR a1 q).length 0 1000 (by omega) (by omega) (by omega)
end Go.Proofs.Yteljlfodjbgejaa.Pure
