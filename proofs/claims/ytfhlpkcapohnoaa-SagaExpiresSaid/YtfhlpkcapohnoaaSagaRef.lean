import Derived.Test.YtfhlpkcapohnoaaSagaNext
import Derived.Test.YtfhlpkcapohnoaaPrint7
import Derived.Test.YtfhlpkcapohnoaaPrint7
import Derived.Test.YtfhlpkcapohnoaaPrint8
import Derived.Test.YtfhlpkcapohnoaaPrint8
import Derived.Test.YtfhlpkcapohnoaaPrint9
namespace Go.Proofs.Ytfhlpkcapohnoaa.Print
open Go.RowKit Go.Proofs.YtfhlpkcapohnoaaX Go.Proofs.YtfhlpkcapohnoaaW.PrintWords
set_option linter.unusedVariables false
set_option linter.unusedSimpArgs false

theorem nameB_iff (s : ByteArray) : nameB s = true ↔ (∀ j : Nat, j < s.size → okB (bt s j) = true) ∧ 1 ≤ s.size ∧ s.size ≤ 20 := by
  unfold nameB
  simp only [Bool.and_eq_true, decide_eq_true_eq]
theorem refname_l0 (s : ByteArray) (h : s.size ≤ 140737488351232) : ∀ (d i k : Nat), i + d = s.size → d < k → (∀ j : Nat, j < i → okB (bt s j) = true) →
    palinoderef18_Name.l0 k s (i : Int) = some (nameB s) := by
  intro d
  induction d with
  | zero =>
    intro i k hi hk ok
    obtain ⟨k, rfl⟩ : ∃ m, k = m + 1 := ⟨k - 1, by omega⟩
    obtain rfl : i = s.size := by omega
    simp only [palinoderef18_Name.l0]
    rw [if_neg (by omega)]
    by_cases h1 : 1 ≤ s.size
    · rw [if_pos (by omega)]
      congr 1
      rw [Bool.eq_iff_iff, nameB_iff, decide_eq_true_iff]
      exact ⟨fun h => ⟨ok, h1, by omega⟩, fun h => by omega⟩
    · rw [if_neg (by omega)]
      congr 1
      rw [Bool.eq_iff_iff, nameB_iff]
      exact ⟨fun h => absurd h (by decide), fun h => absurd h.2.1 h1⟩
  | succ d ih =>
    intro i k hi hk ok
    obtain ⟨k, rfl⟩ : ∃ m, k = m + 1 := ⟨k - 1, by omega⟩
    simp only [palinoderef18_Name.l0]
    rw [if_pos (by omega), if_pos (by omega), wrap_of _ (by omega) (by omega)]
    have hr := bt_range s (i : Int)
    by_cases hok : okB (bt s (i : Int)) = true
    · have next := ih (i + 1) k (by omega) (by omega) (fun j hj => by
        rcases Nat.lt_succ_iff_lt_or_eq.1 hj with h | rfl
        · exact ok j h
        · exact hok)
      rw [show (i : Int) + 1 = ((i + 1 : Nat) : Int) by omega, next]
      have ok2 : (97 ≤ bt s (i : Int) ∧ bt s (i : Int) ≤ 122) ∨ (48 ≤ bt s (i : Int) ∧ bt s (i : Int) ≤ 57) ∨ bt s (i : Int) = 45 := of_decide_eq_true hok
      generalize bt s (i : Int) = c at *
      clear ih next ok hok
      (repeat' split) <;> first | rfl | omega
    · have hno : nameB s = false := by
        rw [Bool.eq_false_iff, Ne, nameB_iff]
        exact fun h => hok (h.1 i (by omega))
      rw [hno]
      have ok2 : ¬ ((97 ≤ bt s (i : Int) ∧ bt s (i : Int) ≤ 122) ∨ (48 ≤ bt s (i : Int) ∧ bt s (i : Int) ≤ 57) ∨ bt s (i : Int) = 45) := fun h => hok (decide_eq_true h)
      generalize bt s (i : Int) = c at *
      clear ih ok hok
      (repeat' split) <;> first | rfl | omega
theorem refname_ev (s : ByteArray) (h : s.size ≤ 140737488351232) : ∃ K, ∀ k, K ≤ k → palinoderef18_Name.f k s = some (nameB s) :=
  ⟨s.size + 1, fun k hk => refname_l0 s h s.size 0 k (by omega) (by omega) (fun j hj => absurd hj (Nat.not_lt_zero _))⟩
theorem refdef_l0 (nm : ByteArray) (l : List S53) (hl : l.length ≤ 6) : ∀ (d i k : Nat), i + d = l.length → d < k →
    palinoderef18_Right.l0 k (i : Int) nm l = some ((l.drop i).all okSb) := by
  intro d
  induction d with
  | zero =>
    intro i k hi hk
    obtain ⟨k, rfl⟩ : ∃ m, k = m + 1 := ⟨k - 1, by omega⟩
    simp only [palinoderef18_Right.l0]
    rw [if_neg (by omega), List.drop_of_length_le (by omega)]
    rfl
  | succ d ih =>
    intro i k hi hk
    obtain ⟨k, rfl⟩ : ∃ m, k = m + 1 := ⟨k - 1, by omega⟩
    simp only [palinoderef18_Right.l0]
    have hlt : i < l.length := by omega
    rw [if_pos (by omega), if_pos (by omega), rd_at l i hlt, wrap_of _ (by omega) (by omega), show (i : Int) + 1 = ((i + 1 : Nat) : Int) by omega, ih (i + 1) k (by omega) (by omega)]
    have hd : l.drop i = l[i] :: l.drop (i + 1) := List.drop_eq_getElem_cons hlt
    rw [hd, List.all_cons]
    by_cases ok : okSb l[i] = true
    · obtain ⟨o1, o2, o3, o4⟩ := (okSb_iff _).1 ok
      rw [if_neg (by omega), if_neg (by omega), if_neg (by omega), if_neg (by omega), ok, Bool.true_and]
    · have : ¬ (0 ≤ l[i].f0 ∧ l[i].f0 ≤ 5 ∧ 1 ≤ l[i].f1 ∧ l[i].f1 ≤ 10000) := fun h => ok ((okSb_iff _).2 h)
      simp only [ok, Bool.false_and]
      by_cases c1 : l[i].f0 < 0
      · rw [if_pos c1]
      rw [if_neg c1]
      by_cases c2 : l[i].f0 > 5
      · rw [if_pos c2]
      rw [if_neg c2]
      by_cases c3 : l[i].f1 < 1
      · rw [if_pos c3]
      rw [if_neg c3, if_pos (by omega)]
theorem refdef_ev (nm : ByteArray) (l : List S53) (hs : nm.size ≤ 140737488351232) : ∃ K, ∀ k, K ≤ k → palinoderef18_Right.f k nm l = some (defB nm l) := by
  obtain ⟨K, hK⟩ := refname_ev nm hs
  refine ⟨K + l.length + 3, fun k hk => ?_⟩
  obtain ⟨k, rfl⟩ : ∃ m, k = m + 1 := ⟨k - 1, by omega⟩
  unfold palinoderef18_Right.f
  rw [hK _ (by omega)]
  simp only [Option.bind_some]
  have no : (nameB nm = false ∨ ¬ (1 ≤ l.length ∧ l.length ≤ 6)) → palinoderef18_Right.j0 (k + 1) true nm l = some (defB nm l) := by
    intro h
    simp only [palinoderef18_Right.j0]
    rw [if_pos trivial]
    congr 1
    symm
    rw [Bool.eq_false_iff, Ne, defB_iff]
    intro hd
    rcases h with h | h
    · rw [hd.name] at h; cases h
    · exact h ⟨hd.one, hd.six⟩
  by_cases hn : nameB nm = true
  · rw [if_pos hn]
    by_cases h1 : (l.length : Int) < 1
    · rw [if_pos h1]
      exact no (.inr (by omega))
    · rw [if_neg h1]
      by_cases h6 : (l.length : Int) > 6
      · rw [decide_eq_true h6]
        exact no (.inr (by omega))
      · rw [decide_eq_false h6]
        simp only [palinoderef18_Right.j0]
        have := refdef_l0 nm l (by omega) l.length 0 k (by omega) (by omega)
        rw [show ((0 : Nat) : Int) = 0 from rfl] at this
        rw [if_neg (by decide), this, List.drop_zero]
        congr 1
        unfold defB
        rw [hn, decide_eq_true (show 1 ≤ l.length ∧ l.length ≤ 6 by omega), Bool.and_true, Bool.and_true]
  · rw [if_neg hn]
    exact no (.inl (Bool.eq_false_iff.2 hn))
theorem reflive_eq (id df : ByteArray) (st at_ tr due : Int) (out : Bool) : palinoderef19_Live.f id df st at_ tr due out = saga_Live.f id df st at_ tr due out := rfl
theorem refcommand_eq (id df : ByteArray) (st at_ tr due : Int) (out : Bool) : palinoderef19_Command.f id df st at_ tr due out = some (if st = 1 ∨ st = 2 then (id, at_, st, tr, true) else ((⟨#[]⟩ : ByteArray), 0, 0, 0, false)) := by
  unfold palinoderef19_Command.f
  by_cases h1 : st = 1
  · subst h1; simp
  · rw [if_neg h1]
    by_cases h2 : st = 2
    · subst h2; simp
    · simp [h1, h2]
theorem reftime_eq (now : Int) : palinoderef19_time.f now = some (decide (0 ≤ now ∧ now ≤ 1099511627776)) := time_eq now
theorem refright_ev (nm : ByteArray) (l : List S53) (id df : ByteArray) (st at_ tr due : Int) (out : Bool) (b : Bool) (hb : b = true ↔ RightP nm l id df st at_ tr due out) (hs : nm.size ≤ 140737488351232) (hl : l.length ≤ 140737488351232) (hid : id.size ≤ 140737488351232) :
    ∃ K, ∀ k, K ≤ k → palinoderef19_Right.f k nm l id df st at_ tr due out = some b := by
  obtain ⟨K1, h1⟩ := refdef_ev nm l hs
  obtain ⟨K2, h2⟩ := refname_ev id hid
  refine ⟨K1 + K2 + 5, fun k hk => ?_⟩
  obtain ⟨k, rfl⟩ : ∃ m, k = m + 3 := ⟨k - 3, by omega⟩
  unfold palinoderef19_Right.f
  rw [h1 _ (by omega), h2 _ (by omega)]
  simp only [Option.bind_some]
  have no : ¬ RightP nm l id df st at_ tr due out → palinoderef19_Right.j0 (k + 3) true nm l id df st at_ tr due out = some b := by
    intro h
    simp only [palinoderef19_Right.j0]
    rw [if_pos trivial, Bool.eq_false_iff.2 (fun hb' => h (hb.1 hb'))]
  by_cases hd : ¬ defB nm l = true
  · rw [if_neg hd]
    exact no (fun h => hd ((defB_iff nm l).2 h.1))
  have hd := Classical.not_not.1 hd
  have hdp := (defB_iff nm l).1 hd
  rw [if_pos hd]
  by_cases hn : ¬ nameB id = true
  · rw [if_neg hn]
    exact no (fun h => hn h.2.1)
  have hn := Classical.not_not.1 hn
  rw [if_pos hn]
  by_cases hdf : ¬ df = nm
  · have : (df.toList != nm.toList) = true := by rw [bne_iff_ne]; exact fun h => hdf (toList_eq_iff.1 h)
    rw [this]
    exact no (fun h => hdf h.2.2.1)
  have hdf := Classical.not_not.1 hdf
  subst hdf
  rw [show (df.toList != df.toList) = false by simp]
  have hst : (if at_ ≥ 0 then decide (at_ < (l.length : Int)) else false) = decide (0 ≤ at_ ∧ at_ < l.length) := by
    by_cases h : at_ ≥ 0
    · rw [if_pos h]; simp [h]
    · rw [if_neg h]
      symm
      simp
      omega
  have key : palinoderef19_Right.j1 (k + 2) (l.length : Int) (decide (0 ≤ at_ ∧ at_ < l.length)) df l id df st at_ tr due out = some b := by
    by_cases hL : st = 1 ∨ st = 2
    · have hbe : b = decide (0 ≤ at_ ∧ at_ < l.length ∧ 0 ≤ tr ∧ tr ≤ (rd_T53 l at_).f0 ∧ 0 < due ∧ due ≤ 1099511637776) := by
        rw [Bool.eq_iff_iff, hb, decide_eq_true_iff, RightP, if_pos hL]
        exact ⟨fun h => h.2.2.2, fun h => ⟨hdp, hn, rfl, h⟩⟩
      simp only [palinoderef19_Right.j1]
      rw [reflive_eq, live_eq]
      simp only [Option.bind_some, hL, decide_true, if_true]
      rw [hbe]
      clear no hb hbe h1 h2
      by_cases h : 0 ≤ at_ ∧ at_ < l.length
      · obtain ⟨h1, h2⟩ := h
        by_cases h3 : 0 ≤ tr
        · by_cases h4 : tr ≤ (rd_T53 l at_).f0
          · by_cases h5 : 0 < due
            · have h6 : 1 ≤ due := h5
              simp [h1, h2, h3, h4, h5, h6]
            · have h6 : ¬ 1 ≤ due := h5
              simp [h1, h2, h3, h4, h5, h6]
          · simp [h1, h2, h3, h4]
        · simp [h1, h2, h3]
      · rw [if_neg (by simpa using h)]
        symm
        simp only [Option.some.injEq, decide_eq_false_iff_not]
        exact fun hh => h ⟨hh.1, hh.2.1⟩
    · have hbe : b = decide (tr = 0 ∧ due = 0 ∧ out = false ∧ (st = 3 ∧ at_ = l.length ∨ st = 4 ∧ at_ = 0 ∨ st = 5 ∧ 0 ≤ at_ ∧ at_ < l.length)) := by
        rw [Bool.eq_iff_iff, hb, decide_eq_true_iff, RightP, if_neg hL]
        exact ⟨fun h => h.2.2.2, fun h => ⟨hdp, hn, rfl, h⟩⟩
      have hj2 : ∀ bad : Bool, palinoderef19_Right.j2 (k + 1) (l.length : Int) (decide (0 ≤ at_ ∧ at_ < l.length)) bad id df st at_ tr due out = some (!bad && decide (st = 3 ∧ at_ = l.length ∨ st = 4 ∧ at_ = 0 ∨ st = 5 ∧ 0 ≤ at_ ∧ at_ < l.length)) := by
        intro bad
        simp only [palinoderef19_Right.j2]
        cases bad with
        | true => simp
        | false =>
          by_cases s3 : st = 3
          · subst s3; by_cases q : at_ = (l.length : Int) <;> simp [q]
          by_cases s4 : st = 4
          · subst s4; by_cases q : at_ = 0 <;> simp [q]
          by_cases s5 : st = 5
          · subst s5; simp
          simp [s3, s4, s5]
      simp only [palinoderef19_Right.j1]
      rw [reflive_eq, live_eq]
      simp only [Option.bind_some, hL, decide_false]
      rw [if_neg (by simp), hj2, hj2, hbe]
      clear no hb hbe h1 h2 hj2
      by_cases h1 : tr = 0
      · by_cases h2 : due = 0
        · cases out <;> simp [h1, h2]
        · simp [h1, h2]
      · simp [h1]
  simp only [palinoderef19_Right.j0]
  rw [if_neg (by simp)]
  by_cases h : at_ ≥ 0
  · rw [if_pos h] at hst ⊢
    rw [hst, key]
  · rw [if_neg h] at hst ⊢
    rw [hst, key]
theorem refbegin_ev (nm : ByteArray) (l : List S53) (id : ByteArray) (now : Int) (b : Bool) (hb : b = true ↔ DefP nm l ∧ nameB id = true ∧ 0 ≤ now ∧ now ≤ 1099511627776) (hs : nm.size ≤ 140737488351232) (hid : id.size ≤ 140737488351232) :
    ∃ K, ∀ k, K ≤ k → palinoderef19_Begin.f k nm l id now =
      some (if b = true then (id, nm, 1, 0, 0, now + (rd_T53 l 0).f1, true, true) else ((⟨#[]⟩ : ByteArray), (⟨#[]⟩ : ByteArray), 0, 0, 0, 0, false, false)) := by
  obtain ⟨K1, h1⟩ := refdef_ev nm l hs
  obtain ⟨K2, h2⟩ := refname_ev id hid
  refine ⟨K1 + K2, fun k hk => ?_⟩
  unfold palinoderef19_Begin.f
  rw [h1 _ (by omega), h2 _ (by omega), reftime_eq]
  simp only [Option.bind_some]
  have no : ¬ (DefP nm l ∧ nameB id = true ∧ 0 ≤ now ∧ now ≤ 1099511627776) → b = false := fun h => Bool.eq_false_iff.2 (fun hb' => h (hb.1 hb'))
  by_cases hd : ¬ defB nm l = true
  · rw [if_neg hd, no (fun h => hd ((defB_iff nm l).2 h.1))]
    rfl
  have hd := Classical.not_not.1 hd
  have hdp := (defB_iff nm l).1 hd
  rw [if_pos hd]
  by_cases hn : ¬ nameB id = true
  · rw [if_neg hn, no (fun h => hn h.2.1)]
    rfl
  have hn := Classical.not_not.1 hn
  rw [if_pos hn]
  by_cases h3 : 0 ≤ now ∧ now ≤ 1099511627776
  · have h1 := hdp.one
    have ho := hdp.at 0 (by omega) (by omega)
    obtain ⟨_, _, o3, o4⟩ := ho
    rw [decide_eq_true h3, if_pos rfl, if_pos (by omega), hb.2 ⟨hdp, hn, h3.1, h3.2⟩, if_pos rfl, wrap_of _ (by omega) (by omega)]
  · rw [decide_eq_false h3, if_neg (by decide), no (fun h => h3 h.2.2)]
    rfl
end Go.Proofs.Ytfhlpkcapohnoaa.Print
