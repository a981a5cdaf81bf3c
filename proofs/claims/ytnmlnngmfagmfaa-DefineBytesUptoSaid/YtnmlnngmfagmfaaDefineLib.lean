import Derived.Test.YtnmlnngmfagmfaaXBytes
import Derived.Test.YtnmlnngmfagmfaaHDefineName
import Derived.Test.YtnmlnngmfagmfaaPrint2
import Derived.Test.YtnmlnngmfagmfaaPrint2
import Derived.Test.YtnmlnngmfagmfaaPrint5
import Derived.Test.YtnmlnngmfagmfaaPrint7
import Derived.Test.YtnmlnngmfagmfaaPrint7
import Derived.Test.YtnmlnngmfagmfaaPrint7
namespace Go.Proofs.Ytnmlnngmfagmfaa.Print
open Go.RowKit Go.Proofs.YtnmlnngmfagmfaaX Go.Proofs.YtnmlnngmfagmfaaW.PrintWords
set_option linter.unusedVariables false
set_option linter.unusedSimpArgs false

/-- Where the first answers b from some number of rounds on. -/
def Al {α : Type} (g : Nat → Option α) (b : α) : Prop := ∃ K, ∀ k, K ≤ k → g k = some b
theorem name_eq (s : ByteArray) (h : s.size ≤ 140737488351232) : define_Name.f s = some (nameB s) := by unfold define_Name.f; rw [if_pos (by omega)]

/-! ## Definitions -/
def okS (s : S43) : Prop := 0 ≤ s.f0 ∧ s.f0 ≤ 5 ∧ 1 ≤ s.f1 ∧ s.f1 ≤ 10000
def okSb (s : S43) : Bool := decide (0 ≤ s.f0 ∧ s.f0 ≤ 5 ∧ 1 ≤ s.f1 ∧ s.f1 ≤ 10000)
theorem okSb_iff (s : S43) : okSb s = true ↔ okS s := by unfold okSb okS; exact decide_eq_true_iff
def defB (nm : ByteArray) (l : List S43) : Bool := l.all okSb && nameB nm && decide (1 ≤ l.length ∧ l.length ≤ 6)
theorem rd_at (l : List S43) (i : Nat) (h : i < l.length) : rd_T43 l (i : Int) = l[i] := by
  unfold rd_T43
  rw [Int.toNat_natCast, List.getD_eq_getElem?_getD, List.getElem?_eq_getElem h]
  rfl
theorem rd_mem (l : List S43) (i : Int) (h0 : 0 ≤ i) (h : i < l.length) : rd_T43 l i ∈ l := by
  obtain ⟨n, rfl⟩ := Int.eq_ofNat_of_zero_le h0
  rw [rd_at l n (by omega)]
  exact List.getElem_mem _
theorem def_l0 (nm : ByteArray) (l : List S43) (hs : nm.size ≤ 140737488351232) (hl : l.length ≤ 140737488351232) : ∀ (d i k : Nat), i + d = l.length → d < k →
    define_Right.l0 k l (l.length : Int) (i : Int) nm l = some ((l.drop i).all okSb && nameB nm && decide (1 ≤ l.length ∧ l.length ≤ 6)) := by
  intro d
  induction d with
  | zero =>
    intro i k hi hk
    obtain ⟨k, rfl⟩ : ∃ m, k = m + 1 := ⟨k - 1, by omega⟩
    simp only [define_Right.l0]
    rw [if_neg (by omega), name_eq nm hs, List.drop_of_length_le (by omega)]
    simp only [Option.bind_some]
    by_cases hn : nameB nm = true
    · rw [if_pos hn, hn]
      by_cases h1 : 1 ≤ l.length
      · rw [if_pos (by omega)]
        simp [h1]
        omega
      · rw [if_neg (by omega)]
        simp [h1]
    · rw [if_neg hn]
      simp [hn]
  | succ d ih =>
    intro i k hi hk
    obtain ⟨k, rfl⟩ : ∃ m, k = m + 1 := ⟨k - 1, by omega⟩
    simp only [define_Right.l0]
    have hlt : i < l.length := by omega
    rw [if_pos (by omega), if_pos (by omega), if_pos (by omega), rd_at l i hlt, wrap_of _ (by omega) (by omega)]
    have e : (i : Int) + 1 = ((i + 1 : Nat) : Int) := by omega
    rw [e, ih (i + 1) k (by omega) (by omega)]
    have hd : l.drop i = l[i] :: l.drop (i + 1) := List.drop_eq_getElem_cons hlt
    rw [hd, List.all_cons]
    by_cases ok : okSb l[i] = true
    · obtain ⟨o1, o2, o3, o4⟩ := (okSb_iff _).1 ok
      rw [if_neg (by omega), if_neg (by omega), if_neg (by omega), if_neg (by omega), ok, Bool.true_and]
    · have : ¬ (0 ≤ l[i].f0 ∧ l[i].f0 ≤ 5 ∧ 1 ≤ l[i].f1 ∧ l[i].f1 ≤ 10000) := fun h => ok ((okSb_iff _).2 h)
      simp only [ok, Bool.false_and]
      by_cases c1 : l[i].f0 < 0
      · rw [if_pos c1]
      rw [if_neg c1]
      by_cases c2 : l[i].f0 > 5
      · rw [if_pos c2]
      rw [if_neg c2]
      by_cases c3 : l[i].f1 < 1
      · rw [if_pos c3]
      rw [if_neg c3, if_pos (by omega)]
theorem def_ev (nm : ByteArray) (l : List S43) (hs : nm.size ≤ 140737488351232) (hl : l.length ≤ 140737488351232) : ∃ K, ∀ k, K ≤ k → define_Right.f k nm l = some (defB nm l) := by
  refine ⟨l.length + 1, fun k hk => ?_⟩
  unfold define_Right.f
  have := def_l0 nm l hs hl l.length 0 k (by omega) (by omega)
  rw [show ((0 : Nat) : Int) = 0 from rfl] at this
  rw [this, List.drop_zero]
  rfl
/-- A definition is right. -/
structure DefP (nm : ByteArray) (l : List S43) : Prop where
  steps : ∀ s ∈ l, okS s
  name : nameB nm = true
  one : 1 ≤ l.length
  six : l.length ≤ 6
theorem defB_iff (nm : ByteArray) (l : List S43) : defB nm l = true ↔ DefP nm l := by
  unfold defB
  simp only [Bool.and_eq_true, decide_eq_true_eq, List.all_eq_true, okSb_iff]
  exact ⟨fun h => ⟨h.1.1, h.1.2, h.2.1, h.2.2⟩, fun h => ⟨⟨h.steps, h.name⟩, h.one, h.six⟩⟩
theorem DefP.at {nm : ByteArray} {l : List S43} (h : DefP nm l) (i : Int) (h0 : 0 ≤ i) (h1 : i < l.length) : okS (rd_T43 l i) := h.steps _ (rd_mem l i h0 h1)

theorem nameB_iff (s : ByteArray) : nameB s = true ↔ (∀ j : Nat, j < s.size → okB (bt s j) = true) ∧ 1 ≤ s.size ∧ s.size ≤ 20 := by
  unfold nameB
  simp only [Bool.and_eq_true, decide_eq_true_eq]
theorem refname_l0 (s : ByteArray) (h : s.size ≤ 140737488351232) : ∀ (d i k : Nat), i + d = s.size → d < k → (∀ j : Nat, j < i → okB (bt s j) = true) →
    palinoderef18_Name.l0 k s (i : Int) = some (nameB s) := by
  intro d
  induction d with
  | zero =>
    intro i k hi hk ok
    obtain ⟨k, rfl⟩ : ∃ m, k = m + 1 := ⟨k - 1, by omega⟩
    obtain rfl : i = s.size := by omega
    simp only [palinoderef18_Name.l0]
    rw [if_neg (by omega)]
    by_cases h1 : 1 ≤ s.size
    · rw [if_pos (by omega)]
      congr 1
      rw [Bool.eq_iff_iff, nameB_iff, decide_eq_true_iff]
      exact ⟨fun h => ⟨ok, h1, by omega⟩, fun h => by omega⟩
    · rw [if_neg (by omega)]
      congr 1
      rw [Bool.eq_iff_iff, nameB_iff]
      exact ⟨fun h => absurd h (by decide), fun h => absurd h.2.1 h1⟩
  | succ d ih =>
    intro i k hi hk ok
    obtain ⟨k, rfl⟩ : ∃ m, k = m + 1 := ⟨k - 1, by omega⟩
    simp only [palinoderef18_Name.l0]
    rw [if_pos (by omega), if_pos (by omega), wrap_of _ (by omega) (by omega)]
    have hr := bt_range s (i : Int)
    by_cases hok : okB (bt s (i : Int)) = true
    · have next := ih (i + 1) k (by omega) (by omega) (fun j hj => by
        rcases Nat.lt_succ_iff_lt_or_eq.1 hj with h | rfl
        · exact ok j h
        · exact hok)
      rw [show (i : Int) + 1 = ((i + 1 : Nat) : Int) by omega, next]
      have ok2 : (97 ≤ bt s (i : Int) ∧ bt s (i : Int) ≤ 122) ∨ (48 ≤ bt s (i : Int) ∧ bt s (i : Int) ≤ 57) ∨ bt s (i : Int) = 45 := of_decide_eq_true hok
      generalize bt s (i : Int) = c at *
      clear ih next ok hok
      (repeat' split) <;> first | rfl | omega
    · have hno : nameB s = false := by
        rw [Bool.eq_false_iff, Ne, nameB_iff]
        exact fun h => hok (h.1 i (by omega))
      rw [hno]
      have ok2 : ¬ ((97 ≤ bt s (i : Int) ∧ bt s (i : Int) ≤ 122) ∨ (48 ≤ bt s (i : Int) ∧ bt s (i : Int) ≤ 57) ∨ bt s (i : Int) = 45) := fun h => hok (decide_eq_true h)
      generalize bt s (i : Int) = c at *
      clear ih ok hok
      (repeat' split) <;> first | rfl | omega
theorem refname_ev (s : ByteArray) (h : s.size ≤ 140737488351232) : ∃ K, ∀ k, K ≤ k → palinoderef18_Name.f k s = some (nameB s) :=
  ⟨s.size + 1, fun k hk => refname_l0 s h s.size 0 k (by omega) (by omega) (fun j hj => absurd hj (Nat.not_lt_zero _))⟩
theorem refdef_l0 (nm : ByteArray) (l : List S43) (hl : l.length ≤ 6) : ∀ (d i k : Nat), i + d = l.length → d < k →
    palinoderef18_Right.l0 k (i : Int) nm l = some ((l.drop i).all okSb) := by
  intro d
  induction d with
  | zero =>
    intro i k hi hk
    obtain ⟨k, rfl⟩ : ∃ m, k = m + 1 := ⟨k - 1, by omega⟩
    simp only [palinoderef18_Right.l0]
    rw [if_neg (by omega), List.drop_of_length_le (by omega)]
    rfl
  | succ d ih =>
    intro i k hi hk
    obtain ⟨k, rfl⟩ : ∃ m, k = m + 1 := ⟨k - 1, by omega⟩
    simp only [palinoderef18_Right.l0]
    have hlt : i < l.length := by omega
    rw [if_pos (by omega), if_pos (by omega), rd_at l i hlt, wrap_of _ (by omega) (by omega), show (i : Int) + 1 = ((i + 1 : Nat) : Int) by omega, ih (i + 1) k (by omega) (by omega)]
    have hd : l.drop i = l[i] :: l.drop (i + 1) := List.drop_eq_getElem_cons hlt
    rw [hd, List.all_cons]
    by_cases ok : okSb l[i] = true
    · obtain ⟨o1, o2, o3, o4⟩ := (okSb_iff _).1 ok
      rw [if_neg (by omega), if_neg (by omega), if_neg (by omega), if_neg (by omega), ok, Bool.true_and]
    · have : ¬ (0 ≤ l[i].f0 ∧ l[i].f0 ≤ 5 ∧ 1 ≤ l[i].f1 ∧ l[i].f1 ≤ 10000) := fun h => ok ((okSb_iff _).2 h)
      simp only [ok, Bool.false_and]
      by_cases c1 : l[i].f0 < 0
      · rw [if_pos c1]
      rw [if_neg c1]
      by_cases c2 : l[i].f0 > 5
      · rw [if_pos c2]
      rw [if_neg c2]
      by_cases c3 : l[i].f1 < 1
      · rw [if_pos c3]
      rw [if_neg c3, if_pos (by omega)]
theorem refdef_ev (nm : ByteArray) (l : List S43) (hs : nm.size ≤ 140737488351232) : ∃ K, ∀ k, K ≤ k → palinoderef18_Right.f k nm l = some (defB nm l) := by
  obtain ⟨K, hK⟩ := refname_ev nm hs
  refine ⟨K + l.length + 3, fun k hk => ?_⟩
  obtain ⟨k, rfl⟩ : ∃ m, k = m + 1 := ⟨k - 1, by omega⟩
  unfold palinoderef18_Right.f
  rw [hK _ (by omega)]
  simp only [Option.bind_some]
  have no : (nameB nm = false ∨ ¬ (1 ≤ l.length ∧ l.length ≤ 6)) → palinoderef18_Right.j0 (k + 1) true nm l = some (defB nm l) := by
    intro h
    simp only [palinoderef18_Right.j0]
    rw [if_pos trivial]
    congr 1
    symm
    rw [Bool.eq_false_iff, Ne, defB_iff]
    intro hd
    rcases h with h | h
    · rw [hd.name] at h; cases h
    · exact h ⟨hd.one, hd.six⟩
  by_cases hn : nameB nm = true
  · rw [if_pos hn]
    by_cases h1 : (l.length : Int) < 1
    · rw [if_pos h1]
      exact no (.inr (by omega))
    · rw [if_neg h1]
      by_cases h6 : (l.length : Int) > 6
      · rw [decide_eq_true h6]
        exact no (.inr (by omega))
      · rw [decide_eq_false h6]
        simp only [palinoderef18_Right.j0]
        have := refdef_l0 nm l (by omega) l.length 0 k (by omega) (by omega)
        rw [show ((0 : Nat) : Int) = 0 from rfl] at this
        rw [if_neg (by decide), this, List.drop_zero]
        congr 1
        unfold defB
        rw [hn, decide_eq_true (show 1 ≤ l.length ∧ l.length ≤ 6 by omega), Bool.and_true, Bool.and_true]
  · rw [if_neg hn]
    exact no (.inl (Bool.eq_false_iff.2 hn))

/-! ## Tries -/
/-- The commands of some steps. -/
def triesL : List S43 → Int
  | [] => 0
  | s :: l => 2 * (s.f0 + 1) + triesL l
theorem triesL_range (l : List S43) (h : ∀ s ∈ l, okS s) : 2 * (l.length : Int) ≤ triesL l ∧ triesL l ≤ 12 * l.length := by
  induction l with
  | nil => simp [triesL]
  | cons s l ih =>
    obtain ⟨o1, o2, _, _⟩ := h s List.mem_cons_self
    have := ih (fun x hx => h x (List.mem_cons_of_mem _ hx))
    simp only [triesL, List.length_cons]
    omega
theorem triesL_append (l m : List S43) : triesL (l ++ m) = triesL l + triesL m := by
  induction l with
  | nil => simp [triesL]
  | cons s l ih => simp only [List.cons_append, triesL, ih]; omega
theorem tries_l0 (l : List S43) (hl : l.length ≤ 6) (ok : ∀ s ∈ l, okS s) : ∀ (d i k : Nat) (c : Int), i + d = l.length → d < k → 0 ≤ c → c ≤ 12 * i →
    define_Tries.l0 k c l (l.length : Int) (i : Int) = some (c + triesL (l.drop i)) := by
  intro d
  induction d with
  | zero =>
    intro i k c hi hk h0 h1
    obtain ⟨k, rfl⟩ : ∃ m, k = m + 1 := ⟨k - 1, by omega⟩
    simp only [define_Tries.l0]
    rw [if_neg (by omega), List.drop_of_length_le (by omega)]
    simp [triesL]
  | succ d ih =>
    intro i k c hi hk h0 h1
    obtain ⟨k, rfl⟩ : ∃ m, k = m + 1 := ⟨k - 1, by omega⟩
    have hlt : i < l.length := by omega
    obtain ⟨o1, o2, _, _⟩ := ok _ (List.getElem_mem hlt)
    have hd : l.drop i = l[i] :: l.drop (i + 1) := List.drop_eq_getElem_cons hlt
    simp only [define_Tries.l0]
    rw [if_pos (by omega), if_pos (by omega), if_pos (by omega), rd_at l i hlt, wrap_of (l[i].f0 + 1) (by omega) (by omega), wrap_of (2 * (l[i].f0 + 1)) (by omega) (by omega), wrap_of (c + 2 * (l[i].f0 + 1)) (by omega) (by omega), wrap_of ((i : Int) + 1) (by omega) (by omega),
      show (i : Int) + 1 = ((i + 1 : Nat) : Int) by omega, ih (i + 1) k _ (by omega) (by omega) (by omega) (by omega), hd]
    simp only [triesL]
    congr 1
    omega
/-- The most commands of a definition. -/
def triesR (nm : ByteArray) (l : List S43) : Int := if defB nm l = true then triesL l else 0
theorem tries_ev (nm : ByteArray) (l : List S43) (hs : nm.size ≤ 140737488351232) (hl : l.length ≤ 140737488351232) : ∃ K, ∀ k, K ≤ k → define_Tries.f k nm l = some (triesR nm l) := by
  obtain ⟨K, hK⟩ := def_ev nm l hs hl
  refine ⟨K + 8, fun k hk => ?_⟩
  unfold define_Tries.f triesR
  rw [hK k (by omega)]
  simp only [Option.bind_some]
  by_cases hd : defB nm l = true
  · have hp := (defB_iff nm l).1 hd
    have := tries_l0 l hp.six hp.steps l.length 0 k 0 (by omega) (by have := hp.six; omega) (by omega) (by omega)
    rw [if_pos hd, if_pos hd, show (0 : Int) = ((0 : Nat) : Int) from rfl] at *
    rw [show ((0 : Nat) : Int) = 0 from rfl] at *
    rw [this]
    simp
  · rw [if_neg hd, if_neg hd]
theorem examples_at : palinodelaw18_examples.f 40 = some true := by kernel_rfl
theorem examples_ev : ∃ K, ∀ k, K ≤ k → palinodelaw18_examples.f k = some true := Ev.of (g := fun k => palinodelaw18_examples.f k) (fun k => palinodelaw18_examples.mono k) examples_at
theorem examples_true : ∀ k_ r_, palinodelaw18_examples.f k_ = some r_ → r_ = true := by
  intro k r h
  obtain ⟨K, hK⟩ := examples_ev
  have h2 := at_rounds (g := fun k => palinodelaw18_examples.f k) (fun k => palinodelaw18_examples.mono k) (show k ≤ k + K by omega) h
  have h3 := hK (k + K) (by omega)
  have h4 : some r = some true := h2.symm.trans h3
  exact Option.some.inj h4
end Go.Proofs.Ytnmlnngmfagmfaa.Print
