import Derived.Test.YtfhlpkcapohnoaaXBytes
import Derived.Test.YtfhlpkcapohnoaaHDefineName
import Derived.Test.YtfhlpkcapohnoaaPrint2
import Derived.Test.YtfhlpkcapohnoaaPrint3
import Derived.Test.YtfhlpkcapohnoaaPrint2
import Derived.Test.YtfhlpkcapohnoaaPrint4
import Derived.Test.YtfhlpkcapohnoaaPrint5
namespace Go.Proofs.Ytfhlpkcapohnoaa.Print
open Go.RowKit Go.Proofs.YtfhlpkcapohnoaaX Go.Proofs.YtfhlpkcapohnoaaW.PrintWords
set_option linter.unusedVariables false
set_option linter.unusedSimpArgs false

/-- Where the first answers b from some number of rounds on. -/
def Al {α : Type} (g : Nat → Option α) (b : α) : Prop := ∃ K, ∀ k, K ≤ k → g k = some b
theorem name_eq (s : ByteArray) (h : s.size ≤ 140737488351232) : define_Name.f s = some (nameB s) := by unfold define_Name.f; rw [if_pos (by omega)]

/-! ## Definitions -/
def okS (s : S53) : Prop := 0 ≤ s.f0 ∧ s.f0 ≤ 5 ∧ 1 ≤ s.f1 ∧ s.f1 ≤ 10000
def okSb (s : S53) : Bool := decide (0 ≤ s.f0 ∧ s.f0 ≤ 5 ∧ 1 ≤ s.f1 ∧ s.f1 ≤ 10000)
theorem okSb_iff (s : S53) : okSb s = true ↔ okS s := by unfold okSb okS; exact decide_eq_true_iff
def defB (nm : ByteArray) (l : List S53) : Bool := l.all okSb && nameB nm && decide (1 ≤ l.length ∧ l.length ≤ 6)
theorem rd_at (l : List S53) (i : Nat) (h : i < l.length) : rd_T53 l (i : Int) = l[i] := by
  unfold rd_T53
  rw [Int.toNat_natCast, List.getD_eq_getElem?_getD, List.getElem?_eq_getElem h]
  rfl
theorem rd_mem (l : List S53) (i : Int) (h0 : 0 ≤ i) (h : i < l.length) : rd_T53 l i ∈ l := by
  obtain ⟨n, rfl⟩ := Int.eq_ofNat_of_zero_le h0
  rw [rd_at l n (by omega)]
  exact List.getElem_mem _
theorem def_l0 (nm : ByteArray) (l : List S53) (hs : nm.size ≤ 140737488351232) (hl : l.length ≤ 140737488351232) : ∀ (d i k : Nat), i + d = l.length → d < k →
    define_Right.l0 k l (l.length : Int) (i : Int) nm l = some ((l.drop i).all okSb && nameB nm && decide (1 ≤ l.length ∧ l.length ≤ 6)) := by
  intro d
  induction d with
  | zero =>
    intro i k hi hk
    obtain ⟨k, rfl⟩ : ∃ m, k = m + 1 := ⟨k - 1, by omega⟩
    simp only [define_Right.l0]
    rw [if_neg (by omega), name_eq nm hs, List.drop_of_length_le (by omega)]
    simp only [Option.bind_some]
    by_cases hn : nameB nm = true
    · rw [if_pos hn, hn]
      by_cases h1 : 1 ≤ l.length
      · rw [if_pos (by omega)]
        simp [h1]
        omega
      · rw [if_neg (by omega)]
        simp [h1]
    · rw [if_neg hn]
      simp [hn]
  | succ d ih =>
    intro i k hi hk
    obtain ⟨k, rfl⟩ : ∃ m, k = m + 1 := ⟨k - 1, by omega⟩
    simp only [define_Right.l0]
    have hlt : i < l.length := by omega
    rw [if_pos (by omega), if_pos (by omega), if_pos (by omega), rd_at l i hlt, wrap_of _ (by omega) (by omega)]
    have e : (i : Int) + 1 = ((i + 1 : Nat) : Int) := by omega
    rw [e, ih (i + 1) k (by omega) (by omega)]
    have hd : l.drop i = l[i] :: l.drop (i + 1) := List.drop_eq_getElem_cons hlt
    rw [hd, List.all_cons]
    by_cases ok : okSb l[i] = true
    · obtain ⟨o1, o2, o3, o4⟩ := (okSb_iff _).1 ok
      rw [if_neg (by omega), if_neg (by omega), if_neg (by omega), if_neg (by omega), ok, Bool.true_and]
    · have : ¬ (0 ≤ l[i].f0 ∧ l[i].f0 ≤ 5 ∧ 1 ≤ l[i].f1 ∧ l[i].f1 ≤ 10000) := fun h => ok ((okSb_iff _).2 h)
      simp only [ok, Bool.false_and]
      by_cases c1 : l[i].f0 < 0
      · rw [if_pos c1]
      rw [if_neg c1]
      by_cases c2 : l[i].f0 > 5
      · rw [if_pos c2]
      rw [if_neg c2]
      by_cases c3 : l[i].f1 < 1
      · rw [if_pos c3]
      rw [if_neg c3, if_pos (by omega)]
theorem def_ev (nm : ByteArray) (l : List S53) (hs : nm.size ≤ 140737488351232) (hl : l.length ≤ 140737488351232) : ∃ K, ∀ k, K ≤ k → define_Right.f k nm l = some (defB nm l) := by
  refine ⟨l.length + 1, fun k hk => ?_⟩
  unfold define_Right.f
  have := def_l0 nm l hs hl l.length 0 k (by omega) (by omega)
  rw [show ((0 : Nat) : Int) = 0 from rfl] at this
  rw [this, List.drop_zero]
  rfl
/-- A definition is right. -/
structure DefP (nm : ByteArray) (l : List S53) : Prop where
  steps : ∀ s ∈ l, okS s
  name : nameB nm = true
  one : 1 ≤ l.length
  six : l.length ≤ 6
theorem defB_iff (nm : ByteArray) (l : List S53) : defB nm l = true ↔ DefP nm l := by
  unfold defB
  simp only [Bool.and_eq_true, decide_eq_true_eq, List.all_eq_true, okSb_iff]
  exact ⟨fun h => ⟨h.1.1, h.1.2, h.2.1, h.2.2⟩, fun h => ⟨⟨h.steps, h.name⟩, h.one, h.six⟩⟩
theorem DefP.at {nm : ByteArray} {l : List S53} (h : DefP nm l) (i : Int) (h0 : 0 ≤ i) (h1 : i < l.length) : okS (rd_T53 l i) := h.steps _ (rd_mem l i h0 h1)

/-! ## Instances -/
/-- What an instance of a definition may be. -/
def RightP (nm : ByteArray) (l : List S53) (id df : ByteArray) (st at_ tr due : Int) (out : Bool) : Prop :=
  DefP nm l ∧ nameB id = true ∧ df = nm ∧
    if st = 1 ∨ st = 2 then 0 ≤ at_ ∧ at_ < l.length ∧ 0 ≤ tr ∧ tr ≤ (rd_T53 l at_).f0 ∧ 0 < due ∧ due ≤ 1099511637776
    else tr = 0 ∧ due = 0 ∧ out = false ∧ (st = 3 ∧ at_ = l.length ∨ st = 4 ∧ at_ = 0 ∨ st = 5 ∧ 0 ≤ at_ ∧ at_ < l.length)
theorem live_eq (id df : ByteArray) (st at_ tr due : Int) (out : Bool) : saga_Live.f id df st at_ tr due out = some (decide (st = 1 ∨ st = 2)) := by
  unfold saga_Live.f
  by_cases h : st = 1
  · rw [if_pos h]; simp [h]
  · rw [if_neg h]
    by_cases h2 : st = 2 <;> simp [h, h2]
theorem right_ev (nm : ByteArray) (l : List S53) (id df : ByteArray) (st at_ tr due : Int) (out : Bool) (hs : nm.size ≤ 140737488351232) (hl : l.length ≤ 140737488351232) (hid : id.size ≤ 140737488351232) :
    ∃ b : Bool, (b = true ↔ RightP nm l id df st at_ tr due out) ∧ ∃ K, ∀ k, K ≤ k → saga_Right.f k nm l id df st at_ tr due out = some b := by
  obtain ⟨K, hK⟩ := def_ev nm l hs hl
  unfold RightP
  by_cases hd0 : ¬ defB nm l = true
  · have hd := hd0
    refine ⟨false, ⟨fun h => absurd h (by decide), fun h => absurd ((defB_iff nm l).2 h.1) hd⟩, K + 1, fun k hk => ?_⟩
    obtain ⟨k, rfl⟩ : ∃ m, k = m + 1 := ⟨k - 1, by omega⟩
    unfold saga_Right.f
    rw [hK _ (by omega), Bool.eq_false_iff.2 hd]
    simp [saga_Right.j0]
  have hd := Classical.not_not.1 hd0
  have hdp := (defB_iff nm l).1 hd
  by_cases hn0 : ¬ nameB id = true
  · have hn := hn0
    refine ⟨false, ⟨fun h => absurd h (by decide), fun h => absurd h.2.1 hn⟩, K + 1, fun k hk => ?_⟩
    obtain ⟨k, rfl⟩ : ∃ m, k = m + 1 := ⟨k - 1, by omega⟩
    unfold saga_Right.f
    rw [hK _ (by omega), hd, name_eq id hid]
    simp [saga_Right.j0, hn]
  have hn := Classical.not_not.1 hn0
  by_cases hdf0 : ¬ df = nm
  · have hdf := hdf0
    refine ⟨false, ⟨fun h => absurd h (by decide), fun h => absurd h.2.2.1 hdf⟩, K + 1, fun k hk => ?_⟩
    obtain ⟨k, rfl⟩ : ∃ m, k = m + 1 := ⟨k - 1, by omega⟩
    unfold saga_Right.f
    have : (df.toList != nm.toList) = true := by rw [bne_iff_ne]; exact fun h => hdf (toList_eq_iff.1 h)
    rw [hK _ (by omega), hd, name_eq id hid, hn, this]
    simp [saga_Right.j0]
  have hdf := Classical.not_not.1 hdf0
  subst hdf
  have hst : (if at_ ≥ 0 then decide (at_ < (l.length : Int)) else false) = decide (0 ≤ at_ ∧ at_ < l.length) := by
    by_cases h : at_ ≥ 0
    · rw [if_pos h]; simp [h]
    · rw [if_neg h]
      symm
      simp
      omega
  have key : ∃ b : Bool, (b = true ↔ (if st = 1 ∨ st = 2 then 0 ≤ at_ ∧ at_ < l.length ∧ 0 ≤ tr ∧ tr ≤ (rd_T53 l at_).f0 ∧ 0 < due ∧ due ≤ 1099511637776
      else tr = 0 ∧ due = 0 ∧ out = false ∧ (st = 3 ∧ at_ = l.length ∨ st = 4 ∧ at_ = 0 ∨ st = 5 ∧ 0 ≤ at_ ∧ at_ < l.length))) ∧ ∀ k, 2 ≤ k → saga_Right.j1 k (l.length : Int) (decide (0 ≤ at_ ∧ at_ < l.length)) df l id df st at_ tr due out = some b := by
    by_cases hL : st = 1 ∨ st = 2
    · rw [if_pos hL]
      refine ⟨decide (0 ≤ at_ ∧ at_ < l.length ∧ 0 ≤ tr ∧ tr ≤ (rd_T53 l at_).f0 ∧ 0 < due ∧ due ≤ 1099511637776), decide_eq_true_iff, fun k hk => ?_⟩
      obtain ⟨k, rfl⟩ : ∃ m, k = m + 1 := ⟨k - 1, by omega⟩
      simp only [saga_Right.j1]
      rw [live_eq]
      simp only [Option.bind_some, hL, decide_true, if_true]
      by_cases h : 0 ≤ at_ ∧ at_ < l.length
      · obtain ⟨h1, h2⟩ := h
        by_cases h3 : 0 ≤ tr
        · by_cases h4 : tr ≤ (rd_T53 l at_).f0
          · by_cases h5 : 0 < due
            · simp [h1, h2, h3, h4, h5]
            · simp [h1, h2, h3, h4, h5]
          · simp [h1, h2, h3, h4]
        · simp [h1, h2, h3]
      · rw [if_neg (by simpa using h)]
        symm
        simp only [Option.some.injEq, decide_eq_false_iff_not]
        exact fun hh => h ⟨hh.1, hh.2.1⟩
    · rw [if_neg hL]
      refine ⟨decide (tr = 0 ∧ due = 0 ∧ out = false ∧ (st = 3 ∧ at_ = l.length ∨ st = 4 ∧ at_ = 0 ∨ st = 5 ∧ 0 ≤ at_ ∧ at_ < l.length)), decide_eq_true_iff, fun k hk => ?_⟩
      obtain ⟨k, rfl⟩ : ∃ m, k = m + 2 := ⟨k - 2, by omega⟩
      have hj2 : ∀ still : Bool, saga_Right.j2 (k + 1) (l.length : Int) (decide (0 ≤ at_ ∧ at_ < l.length)) still id df st at_ tr due out = some (still && decide (st = 3 ∧ at_ = l.length ∨ st = 4 ∧ at_ = 0 ∨ st = 5 ∧ 0 ≤ at_ ∧ at_ < l.length)) := by
        intro still
        simp only [saga_Right.j2]
        cases still with
        | false => simp
        | true =>
          by_cases s3 : st = 3
          · subst s3; by_cases q : at_ = (l.length : Int) <;> simp [q]
          by_cases s4 : st = 4
          · subst s4; by_cases q : at_ = 0 <;> simp [q]
          by_cases s5 : st = 5
          · subst s5; simp
          simp [s3, s4, s5]
      simp only [saga_Right.j1]
      rw [live_eq]
      simp only [Option.bind_some, hL, decide_false]
      rw [if_neg (by simp), hj2, hj2]
      by_cases h1 : tr = 0
      · by_cases h2 : due = 0
        · cases out <;> simp [h1, h2]
        · simp [h1, h2]
      · simp [h1]
  obtain ⟨b, hb, hj⟩ := key
  refine ⟨b, ⟨fun h => ⟨hdp, hn, rfl, hb.1 h⟩, fun h => hb.2 h.2.2.2⟩, K + 4, fun k hk => ?_⟩
  obtain ⟨k, rfl⟩ : ∃ m, k = m + 1 := ⟨k - 1, by omega⟩
  unfold saga_Right.f
  have : (df.toList != df.toList) = false := by simp
  rw [hK _ (by omega), hd, name_eq id hid, hn, this]
  simp only [Option.bind_some, if_true, saga_Right.j0]
  rw [if_neg (by simp)]
  by_cases h : at_ ≥ 0
  · rw [if_pos h] at hst ⊢
    rw [hst, hj k (by omega)]
  · rw [if_neg h] at hst ⊢
    rw [hst, hj k (by omega)]
end Go.Proofs.Ytfhlpkcapohnoaa.Print
