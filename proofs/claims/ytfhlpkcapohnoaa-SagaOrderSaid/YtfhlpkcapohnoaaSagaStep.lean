import Derived.Test.YtfhlpkcapohnoaaSagaLib
import Derived.Test.YtfhlpkcapohnoaaPrint6
namespace Go.Proofs.Ytfhlpkcapohnoaa.Print
open Go.RowKit Go.Proofs.YtfhlpkcapohnoaaX Go.Proofs.YtfhlpkcapohnoaaW.PrintWords
set_option linter.unusedVariables false
set_option linter.unusedSimpArgs false

/-- An instance: its parts. -/
abbrev XI := ByteArray × ByteArray × Int × Int × Int × Int × Bool
/-- It goes on at a step; it is over. -/
def goX (l : List S53) (id df : ByteArray) (st at_ tr now : Int) : XI := (id, df, st, at_, tr, now + (rd_T53 l at_).f1, true)
def finX (id df : ByteArray) (st at_ : Int) : XI := (id, df, st, at_, 0, 0, false)
def backX (l : List S53) (id df : ByteArray) (at_ now : Int) : XI := if at_ = 0 then finX id df 4 0 else goX l id df 2 (at_ - 1) 0 now
def nextX (l : List S53) (id df : ByteArray) (st at_ tr what now : Int) : Option XI :=
  if what = 1 then (if st = 1 then (if at_ + 1 = (l.length : Int) then some (finX id df 3 (at_ + 1)) else some (goX l id df 1 (at_ + 1) 0 now)) else some (backX l id df at_ now))
  else if what = 2 ∧ st = 1 then some (backX l id df at_ now)
  else if what = 2 ∨ what = 3 then (if tr < (rd_T53 l at_).f0 then some (goX l id df st at_ (tr + 1) now) else if st = 1 then some (goX l id df 2 at_ 0 now) else some (finX id df 5 at_))
  else none
def flat (x : XI) (b : Bool) : ByteArray × ByteArray × Int × Int × Int × Int × Bool × Bool := (x.1, x.2.1, x.2.2.1, x.2.2.2.1, x.2.2.2.2.1, x.2.2.2.2.2.1, x.2.2.2.2.2.2, b)
def replyR (c : Bool) (l : List S53) (id df : ByteArray) (st at_ tr due : Int) (out : Bool) (what now : Int) : ByteArray × ByteArray × Int × Int × Int × Int × Bool × Bool :=
  match c, nextX l id df st at_ tr what now with
  | true, some y => flat y true
  | _, _ => (id, df, st, at_, tr, due, out, false)
/-- When a reply is looked at. -/
def CondP (nm : ByteArray) (l : List S53) (id df : ByteArray) (st at_ tr due : Int) (out : Bool) (step dir now : Int) : Prop :=
  (st = 1 ∨ st = 2) ∧ RightP nm l id df st at_ tr due out ∧ step = at_ ∧ dir = st ∧ 0 ≤ now ∧ now ≤ 1099511627776
theorem CondP.bounds {nm : ByteArray} {l : List S53} {id df : ByteArray} {st at_ tr due : Int} {out : Bool} {step dir now : Int} (h : CondP nm l id df st at_ tr due out step dir now) :
    DefP nm l ∧ 0 ≤ at_ ∧ at_ < l.length ∧ 0 ≤ tr ∧ tr ≤ (rd_T53 l at_).f0 ∧ 0 ≤ now ∧ now ≤ 1099511627776 := by
  obtain ⟨h1, ⟨h2, _, _, h3⟩, _, _, h4, h5⟩ := h
  rw [if_pos h1] at h3
  exact ⟨h2, h3.1, h3.2.1, h3.2.2.1, h3.2.2.2.1, h4, h5⟩
theorem time_eq (now : Int) : saga_time.f now = some (decide (0 ≤ now ∧ now ≤ 1099511627776)) := by
  unfold saga_time.f
  by_cases h : now ≥ 0
  · rw [if_pos h]; simp [h]
  · rw [if_neg h]
    symm
    simp
    omega
theorem command_eq (id df : ByteArray) (st at_ tr due : Int) (out : Bool) : saga_Command.f id df st at_ tr due out = some (if st = 1 ∨ st = 2 then (id, at_, st, tr, true) else ((⟨#[]⟩ : ByteArray), 0, 0, 0, false)) := by
  unfold saga_Command.f
  rw [live_eq]
  by_cases h : st = 1 ∨ st = 2 <;> simp [h]
theorem wait_eq (nm : ByteArray) (l : List S53) (id df : ByteArray) (st at_ tr due : Int) (out : Bool) (now : Int) (hd : DefP nm l) (h0 : 0 ≤ at_) (h1 : at_ < l.length) (n0 : 0 ≤ now) (n1 : now ≤ 1099511627776) :
    saga_wait.f nm l id df st at_ tr due out now = some (goX l id df st at_ tr now) := by
  obtain ⟨_, _, o3, o4⟩ := hd.at at_ h0 h1
  unfold saga_wait.f goX
  rw [if_pos h0, if_pos h1, wrap_of _ (by omega) (by omega)]
theorem at_eq (nm : ByteArray) (l : List S53) (id df : ByteArray) (st at_ tr due : Int) (out : Bool) (st' at' now : Int) (hd : DefP nm l) (h0 : 0 ≤ at') (h1 : at' < l.length) (n0 : 0 ≤ now) (n1 : now ≤ 1099511627776) :
    saga_at.f nm l id df st at_ tr due out st' at' now = some (goX l id df st' at' 0 now) := by
  unfold saga_at.f
  rw [wait_eq nm l id df st' at' 0 due out now hd h0 h1 n0 n1]
  rfl
theorem back_eq (nm : ByteArray) (l : List S53) (id df : ByteArray) (st at_ tr due : Int) (out : Bool) (now : Int) (hd : DefP nm l) (h0 : 0 ≤ at_) (h1 : at_ < l.length) (n0 : 0 ≤ now) (n1 : now ≤ 1099511627776) :
    saga_back.f nm l id df st at_ tr due out now = some (backX l id df at_ now) := by
  have h6 := hd.six
  unfold saga_back.f backX
  by_cases h : at_ = 0
  · rw [if_pos h, if_pos h]
    rfl
  · rw [if_neg h, if_neg h, wrap_of _ (by omega) (by omega), at_eq nm l id df st at_ tr due out 2 (at_ - 1) now hd (by omega) (by omega) n0 n1]
    rfl
theorem reply_j1 (nm : ByteArray) (l : List S53) (id df : ByteArray) (st at_ tr due : Int) (out : Bool) (now : Int) (k : Nat) (hd : DefP nm l) (h0 : 0 ≤ at_) (h1 : at_ < l.length) (t0 : 0 ≤ tr) (t1 : tr ≤ (rd_T53 l at_).f0) (n0 : 0 ≤ now) (n1 : now ≤ 1099511627776) :
    saga_Reply.j1 (k + 1) now (st == 1) nm l id df st at_ tr due out = some (flat (if tr < (rd_T53 l at_).f0 then goX l id df st at_ (tr + 1) now else if st = 1 then goX l id df 2 at_ 0 now else finX id df 5 at_) true) := by
  obtain ⟨o1, o2, _, _⟩ := hd.at at_ h0 h1
  simp only [saga_Reply.j1]
  rw [if_pos h0, if_pos h1]
  by_cases h : tr < (rd_T53 l at_).f0
  · rw [if_pos h, if_pos h, wrap_of _ (by omega) (by omega), wait_eq nm l id df st at_ (tr + 1) due out now hd h0 h1 n0 n1]
    rfl
  · rw [if_neg h, if_neg h]
    by_cases h2 : st = 1
    · rw [if_pos (by simpa using h2), if_pos h2, at_eq nm l id df st at_ tr due out 2 at_ now hd h0 h1 n0 n1]
      rfl
    · rw [if_neg (by simpa using h2), if_neg h2]
      rfl
theorem reply_j0 (nm : ByteArray) (l : List S53) (id df : ByteArray) (st at_ tr due : Int) (out : Bool) (what now : Int) (k : Nat) (hst : st = 1 ∨ st = 2) (hd : DefP nm l) (h0 : 0 ≤ at_) (h1 : at_ < l.length) (t0 : 0 ≤ tr) (t1 : tr ≤ (rd_T53 l at_).f0) (n0 : 0 ≤ now) (n1 : now ≤ 1099511627776) :
    saga_Reply.j0 (k + 2) what now false nm l id df st at_ tr due out = some (replyR true l id df st at_ tr due out what now) := by
  have h6 := hd.six
  have hj := reply_j1 nm l id df st at_ tr due out now k hd h0 h1 t0 t1 n0 n1
  simp only [saga_Reply.j0]
  unfold replyR nextX
  rw [if_neg (by simp)]
  by_cases w1 : what = 1
  · rw [if_pos w1, if_pos w1]
    by_cases s1 : st = 1
    · rw [if_pos s1, if_pos s1, wrap_of _ (by omega) (by omega)]
      by_cases e : at_ + 1 = (l.length : Int)
      · rw [if_pos e, if_pos e]
        rfl
      · rw [if_neg e, if_neg e, at_eq nm l id df st at_ tr due out 1 (at_ + 1) now hd (by omega) (by omega) n0 n1]
        rfl
    · rw [if_neg s1, if_neg s1, back_eq nm l id df st at_ tr due out now hd h0 h1 n0 n1]
      rfl
  · rw [if_neg w1, if_neg w1]
    by_cases w2 : what = 2
    · rw [if_pos w2]
      by_cases s1 : st = 1
      · rw [if_pos s1, if_pos ⟨w2, s1⟩, back_eq nm l id df st at_ tr due out now hd h0 h1 n0 n1]
        rfl
      · rw [if_neg s1, if_neg (fun h => s1 h.2), if_pos (.inl w2), hj]
        by_cases h : tr < (rd_T53 l at_).f0
        · rw [if_pos h, if_pos h]
        · rw [if_neg h, if_neg h, if_neg s1, if_neg s1]
    · rw [if_neg w2]
      by_cases w3 : what = 3
      · rw [if_pos w3, if_neg (show ¬ (what = 2 ∧ st = 1) from fun h => w2 h.1), if_pos (show what = 2 ∨ what = 3 from .inr w3), hj]
        by_cases h : tr < (rd_T53 l at_).f0
        · rw [if_pos h, if_pos h]
        · rw [if_neg h, if_neg h]
          by_cases s1 : st = 1
          · rw [if_pos s1, if_pos s1]
          · rw [if_neg s1, if_neg s1]
      · rw [if_neg w3, if_neg (show ¬ (what = 2 ∧ st = 1) from fun h => w2 h.1), if_neg (show ¬ (what = 2 ∨ what = 3) by omega)]
theorem reply_ev (nm : ByteArray) (l : List S53) (id df : ByteArray) (st at_ tr due : Int) (out : Bool) (step dir what now : Int) (hs : nm.size ≤ 140737488351232) (hl : l.length ≤ 140737488351232) (hid : id.size ≤ 140737488351232) :
    ∃ c : Bool, (c = true ↔ CondP nm l id df st at_ tr due out step dir now) ∧ ∃ K, ∀ k, K ≤ k → saga_Reply.f k nm l id df st at_ tr due out step dir what now = some (replyR c l id df st at_ tr due out what now) := by
  obtain ⟨b, hb, K, hK⟩ := right_ev nm l id df st at_ tr due out hs hl hid
  have no : ∀ k, 1 ≤ k → saga_Reply.j0 k what now true nm l id df st at_ tr due out = some (replyR false l id df st at_ tr due out what now) := by
    intro k hk
    obtain ⟨k, rfl⟩ : ∃ m, k = m + 1 := ⟨k - 1, by omega⟩
    simp only [saga_Reply.j0]
    rw [if_pos trivial]
    rfl
  by_cases hL : ¬ (st = 1 ∨ st = 2)
  · refine ⟨false, ⟨fun h => absurd h (by decide), fun h => absurd h.1 hL⟩, K + 2, fun k hk => ?_⟩
    unfold saga_Reply.f
    rw [command_eq, if_neg hL]
    simp only [Option.bind_some]
    rw [if_neg (by simp), no k (by omega)]
  have hL := Classical.not_not.1 hL
  cases b with
  | false =>
    refine ⟨false, ⟨fun h => absurd h (by decide), fun h => absurd (hb.2 h.2.1) (by decide)⟩, K + 2, fun k hk => ?_⟩
    unfold saga_Reply.f
    rw [command_eq, if_pos hL, hK k (by omega)]
    simp only [Option.bind_some, if_true]
    rw [if_neg (by simp), no k (by omega)]
  | true =>
    have hr := hb.1 rfl
    by_cases h1 : ¬ step = at_
    · refine ⟨false, ⟨fun h => absurd h (by decide), fun h => absurd h.2.2.1 h1⟩, K + 2, fun k hk => ?_⟩
      unfold saga_Reply.f
      rw [command_eq, if_pos hL, hK k (by omega)]
      simp only [Option.bind_some, if_true]
      rw [if_neg h1, no k (by omega)]
    have h1 := Classical.not_not.1 h1
    by_cases h2 : ¬ dir = st
    · refine ⟨false, ⟨fun h => absurd h (by decide), fun h => absurd h.2.2.2.1 h2⟩, K + 2, fun k hk => ?_⟩
      unfold saga_Reply.f
      rw [command_eq, if_pos hL, hK k (by omega)]
      simp only [Option.bind_some, if_true]
      rw [if_pos h1, if_neg h2, no k (by omega)]
    have h2 := Classical.not_not.1 h2
    by_cases h3 : 0 ≤ now ∧ now ≤ 1099511627776
    · have hc : CondP nm l id df st at_ tr due out step dir now := ⟨hL, hr, h1, h2, h3.1, h3.2⟩
      refine ⟨true, ⟨fun _ => hc, fun _ => rfl⟩, K + 2, fun k hk => ?_⟩
      obtain ⟨q1, q2, q3, q4, q5, q6, q7⟩ := hc.bounds
      obtain ⟨m, rfl⟩ : ∃ m, k = m + 2 := ⟨k - 2, by omega⟩
      unfold saga_Reply.f
      rw [command_eq, if_pos hL, hK _ (by omega)]
      simp only [Option.bind_some, if_true]
      rw [if_pos h1, if_pos h2, time_eq, decide_eq_true h3]
      simp only [Option.bind_some, Bool.not_true]
      exact reply_j0 nm l id df st at_ tr due out what now m hL q1 q2 q3 q4 q5 q6 q7
    · refine ⟨false, ⟨fun h => absurd h (by decide), fun h => absurd h.2.2.2.2 h3⟩, K + 2, fun k hk => ?_⟩
      unfold saga_Reply.f
      rw [command_eq, if_pos hL, hK k (by omega)]
      simp only [Option.bind_some, if_true]
      rw [if_pos h1, if_pos h2, time_eq, decide_eq_false h3]
      simp only [Option.bind_some, Bool.not_false]
      exact no k (by omega)
theorem reply_true {nm : ByteArray} {l : List S53} {id df : ByteArray} {st at_ tr due : Int} {out : Bool} {step dir what now : Int} (hs : nm.size ≤ 140737488351232) (hl : l.length ≤ 140737488351232) (hid : id.size ≤ 140737488351232) (hc : CondP nm l id df st at_ tr due out step dir now) :
    ∃ K, ∀ k, K ≤ k → saga_Reply.f k nm l id df st at_ tr due out step dir what now = some (replyR true l id df st at_ tr due out what now) := by
  obtain ⟨c, hc', K, hK⟩ := reply_ev nm l id df st at_ tr due out step dir what now hs hl hid
  have : c = true := hc'.2 hc
  subst this
  exact ⟨K, hK⟩
/-- A new saga. -/
theorem begin_ev (nm : ByteArray) (l : List S53) (id : ByteArray) (now : Int) (hs : nm.size ≤ 140737488351232) (hl : l.length ≤ 140737488351232) (hid : id.size ≤ 140737488351232) :
    ∃ b : Bool, (b = true ↔ DefP nm l ∧ nameB id = true ∧ 0 ≤ now ∧ now ≤ 1099511627776) ∧ ∃ K, ∀ k, K ≤ k → saga_Begin.f k nm l id now =
      some (if b = true then (id, nm, 1, 0, 0, now + (rd_T53 l 0).f1, true, none) else ((⟨#[]⟩ : ByteArray), (⟨#[]⟩ : ByteArray), 0, 0, 0, 0, false, some 1)) := by
  obtain ⟨K, hK⟩ := def_ev nm l hs hl
  by_cases hd : ¬ defB nm l = true
  · refine ⟨false, ⟨fun h => absurd h (by decide), fun h => absurd ((defB_iff nm l).2 h.1) hd⟩, K, fun k hk => ?_⟩
    unfold saga_Begin.f
    rw [hK k hk, Bool.eq_false_iff.2 hd]
    simp
  have hd := Classical.not_not.1 hd
  have hdp := (defB_iff nm l).1 hd
  by_cases hn : ¬ nameB id = true
  · refine ⟨false, ⟨fun h => absurd h (by decide), fun h => absurd h.2.1 hn⟩, K, fun k hk => ?_⟩
    unfold saga_Begin.f
    rw [hK k hk, hd, name_eq id hid]
    simp [hn]
  have hn := Classical.not_not.1 hn
  by_cases h3 : 0 ≤ now ∧ now ≤ 1099511627776
  · refine ⟨true, ⟨fun _ => ⟨hdp, hn, h3.1, h3.2⟩, fun _ => rfl⟩, K, fun k hk => ?_⟩
    unfold saga_Begin.f
    have h1 := hdp.one
    rw [hK k hk, hd, name_eq id hid, hn, time_eq, decide_eq_true h3, at_eq nm l id nm 0 0 0 0 false 1 0 now hdp (by omega) (by omega) h3.1 h3.2]
    simp [goX]
  · refine ⟨false, ⟨fun h => absurd h (by decide), fun h => absurd h.2.2 h3⟩, K, fun k hk => ?_⟩
    unfold saga_Begin.f
    rw [hK k hk, hd, name_eq id hid, hn, time_eq, decide_eq_false h3]
    simp
theorem rightTrue {nm : ByteArray} {l : List S53} {id df : ByteArray} {st at_ tr due : Int} {out : Bool} (hs : nm.size ≤ 140737488351232) (hl : l.length ≤ 140737488351232) (hid : id.size ≤ 140737488351232) (hr : RightP nm l id df st at_ tr due out) :
    ∃ K, ∀ k, K ≤ k → saga_Right.f k nm l id df st at_ tr due out = some true := by
  obtain ⟨b, hb, K, hK⟩ := right_ev nm l id df st at_ tr due out hs hl hid
  have : b = true := hb.2 hr
  subst this
  exact ⟨K, hK⟩
/-! The chapter's examples. -/
def nmP : ByteArray := ⟨#[112]⟩
def idA : ByteArray := ⟨#[97]⟩
def lTwo : List S53 := [⟨1, 10⟩, ⟨0, 20⟩]
theorem defTwo : DefP nmP lTwo := by
  refine ⟨?_, by decide, by decide, by decide⟩
  intro s hs
  simp only [lTwo, List.mem_cons, List.not_mem_nil, or_false] at hs
  rcases hs with rfl | rfl <;> (unfold okS; decide)
theorem nameA : nameB idA = true := by decide
theorem examples_ev : ∃ K, ∀ k, K ≤ k → palinodelaw19_examples.f k = some true := by
  have s1 : nmP.size ≤ 140737488351232 := by decide
  have s2 : lTwo.length ≤ 140737488351232 := by decide
  have s3 : idA.size ≤ 140737488351232 := by decide
  obtain ⟨b, hb, K1, h1⟩ := begin_ev nmP lTwo idA 5 s1 s2 s3
  have hbt : b = true := hb.2 ⟨defTwo, nameA, by decide, by decide⟩
  subst hbt
  have c1 : CondP nmP lTwo idA nmP 1 0 0 15 true 0 1 7 := ⟨.inl rfl, ⟨defTwo, nameA, rfl, by rw [if_pos (.inl rfl)]; decide⟩, rfl, rfl, by decide, by decide⟩
  have c2 : CondP nmP lTwo idA nmP 1 1 0 27 true 1 1 8 := ⟨.inl rfl, ⟨defTwo, nameA, rfl, by rw [if_pos (.inl rfl)]; decide⟩, rfl, rfl, by decide, by decide⟩
  have c3 : CondP nmP lTwo idA nmP 1 0 0 15 true 0 1 6 := ⟨.inl rfl, ⟨defTwo, nameA, rfl, by rw [if_pos (.inl rfl)]; decide⟩, rfl, rfl, by decide, by decide⟩
  obtain ⟨K2, h2⟩ := reply_true (what := 1) s1 s2 s3 c1
  obtain ⟨K3, h3⟩ := reply_true (what := 3) s1 s2 s3 c2
  obtain ⟨K4, h4⟩ := reply_true (what := 2) s1 s2 s3 c3
  have r5 : RightP nmP lTwo idA nmP 2 1 0 28 true := ⟨defTwo, nameA, rfl, by rw [if_pos (.inr rfl)]; decide⟩
  obtain ⟨K5, h5⟩ := rightTrue s1 s2 s3 r5
  refine ⟨K1 + K2 + K3 + K4 + K5, fun k hk => ?_⟩
  have h1 := h1 k (by omega)
  have h2 := h2 k (by omega)
  have h3 := h3 k (by omega)
  have h4 := h4 k (by omega)
  have h5 := h5 k (by omega)
  have e1 : palinodelaw19_two.f = some (nmP, lTwo) := rfl
  have v1 : (5 : Int) + (rd_T53 lTwo 0).f1 = 15 := rfl
  have v2 : replyR true lTwo idA nmP 1 0 0 15 true 1 7 = (idA, nmP, 1, 1, 0, 27, true, true) := rfl
  have v3 : replyR true lTwo idA nmP 1 1 0 27 true 3 8 = (idA, nmP, 2, 1, 0, 28, true, true) := rfl
  have v4 : replyR true lTwo idA nmP 1 0 0 15 true 2 6 = (idA, nmP, 4, 0, 0, 0, false, true) := rfl
  rw [if_pos rfl, v1] at h1
  rw [v2] at h2
  rw [v3] at h3
  rw [v4] at h4
  unfold palinodelaw19_examples.f
  rw [e1]
  simp only [Option.bind_some]
  rw [show (⟨#[97]⟩ : ByteArray) = idA from rfl, h1]
  simp only [Option.bind_some]
  rw [h2]
  simp only [Option.bind_some]
  rw [h3]
  simp only [Option.bind_some]
  rw [h4]
  simp only [Option.bind_some]
  rw [command_eq]
  simp only [Option.bind_some]
  rw [h5]
  simp
theorem examples_true : ∀ k_ r_, palinodelaw19_examples.f k_ = some r_ → r_ = true := by
  intro k r h
  obtain ⟨K, hK⟩ := examples_ev
  have h2 := at_rounds (g := fun k => palinodelaw19_examples.f k) (fun k => palinodelaw19_examples.mono k) (show k ≤ k + K by omega) h
  have h3 := hK (k + K) (by omega)
  have h4 : some r = some true := h2.symm.trans h3
  exact Option.some.inj h4
end Go.Proofs.Ytfhlpkcapohnoaa.Print
