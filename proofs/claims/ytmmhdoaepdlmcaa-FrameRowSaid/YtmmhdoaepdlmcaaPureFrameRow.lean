/- All of some frames, one behind the other, are the texts, with one that is cut behind them, too, and it is told where that begins: for all arguments that the row lets in. -/
import Derived.Test.YtmmhdoaepdlmcaaFrameAll
import Derived.Test.YtmmhdoaepdlmcaaPrint9
namespace Go.Proofs.Ytmmhdoaepdlmcaa.Pure
open Go.RowKit Go.Proofs.Ytmmhdoaepdlmcaa.Print Go.Proofs.YtmmhdoaepdlmcaaX Go.Proofs.YtmmhdoaepdlmcaaW.PrintWords Go.Proofs.YtmmhdoaepdlmcaaW.PrintLast
set_option linter.unusedVariables false
set_option linter.unusedSimpArgs false

theorem row_j4 (l : List ByteArray) (s : ByteArray) (x2 : Int) (hl : l.length ≤ 20) (ok : ∀ s ∈ l, s.size ≤ 1048576) (hs : s.size ≤ 1048576) (h2 : 0 ≤ x2) :
    ∃ K, ∀ k, K ≤ k → palinodelaw03_FrameRow.j4 k l x2 true (cat l) (fr s) = some true := by
  refine ⟨l.length + 2, fun k hk => ?_⟩
  obtain ⟨k, rfl⟩ : ∃ m, k = m + 1 := ⟨k - 1, by omega⟩
  have hf := fr_small s hs
  have hc := cat_size l ok
  simp only [palinodelaw03_FrameRow.j4]
  have hm0 : 0 ≤ Int.tmod x2 ((fr s).size : Int) := Int.tmod_nonneg _ h2
  have hm1 : Int.tmod x2 ((fr s).size : Int) < ((fr s).size : Int) := Int.tmod_lt_of_pos _ (by omega)
  rw [if_neg (by omega), wrap_of _ (by omega) (by omega)]
  generalize Int.tmod x2 ((fr s).size : Int) = m at hm0 hm1
  obtain ⟨m, rfl⟩ := Int.eq_ofNat_of_zero_le hm0
  by_cases e : 1 + (m : Int) = ((fr s).size : Int)
  · rw [if_pos e]
  · rw [if_neg e, if_pos (by omega), if_pos (by omega)]
    have et : (1 + (m : Int)).toNat = m + 1 := by omega
    rw [et]
    have hz : ((fr s).extract 0 (m + 1)).size = m + 1 := by rw [ByteArray.size_extract]; omega
    rw [if_pos (by rw [hz]; omega)]
    obtain ⟨q, rfl⟩ : ∃ q, k = l.length + (q + 1) := ⟨k - l.length - 1, by omega⟩
    unfold frame_All.f
    rw [all_cat _ _ (by omega) l [] (q + 1) ok (by simp; omega), all_cut _ _ s q (m + 1) hs (by omega) (by omega)]
    have hz2 : (cat l ++ (fr s).extract 0 (m + 1)).size = (cat l).size + (m + 1) := by rw [append_size, hz]
    simp only [Option.bind_some, if_true, List.nil_append]
    rw [hz2, wrap_of _ (by omega) (by omega), if_pos (by omega), is_some_iff _ _ (by decide)]
    rfl
theorem row_j3 (l : List ByteArray) (s : ByteArray) (x2 : Int) (hl : l.length ≤ 20) (ok : ∀ s ∈ l, s.size ≤ 1048576) (hs : s.size ≤ 1048576) (hw : -9223372036854775808 ≤ x2 ∧ x2 ≤ 9223372036854775807) :
    ∃ K, ∀ k, K ≤ k → palinodelaw03_FrameRow.j3 k l s x2 true (cat l) (fr s) false = some true := by
  by_cases c : x2 < 0
  · obtain ⟨K, hK⟩ := row_j4 l s (-(x2 + 1)) hl ok hs (by omega)
    refine ⟨K + 1, fun k hk => ?_⟩
    obtain ⟨k, rfl⟩ : ∃ m, k = m + 1 := ⟨k - 1, by omega⟩
    simp only [palinodelaw03_FrameRow.j3]
    rw [if_neg (by decide), if_pos c, wrap_of (x2 + 1) (by omega) (by omega), wrap_of (-(x2 + 1)) (by omega) (by omega)]
    exact hK k (by omega)
  · obtain ⟨K, hK⟩ := row_j4 l s x2 hl ok hs (by omega)
    refine ⟨K + 1, fun k hk => ?_⟩
    obtain ⟨k, rfl⟩ : ∃ m, k = m + 1 := ⟨k - 1, by omega⟩
    simp only [palinodelaw03_FrameRow.j3]
    rw [if_neg (by decide), if_neg c]
    exact hK k (by omega)
theorem row_l1 (l : List ByteArray) (s : ByteArray) (x2 : Int) (hl : l.length ≤ 20) (ok : ∀ s ∈ l, s.size ≤ 1048576) (hs : s.size ≤ 140737488351232) (hw : -9223372036854775808 ≤ x2 ∧ x2 ≤ 9223372036854775807) :
    ∃ K, ∀ (d i k : Nat), i + d = l.length → K + d ≤ k → palinodelaw03_FrameRow.l1 k l s x2 true (cat l) l (i : Int) = some true := by
  obtain ⟨K1, h1⟩ := put_ev s hs
  by_cases c : s.size ≤ 1048576
  · obtain ⟨K2, h2⟩ := row_j3 l s x2 hl ok c hw
    refine ⟨K1 + K2 + 1, fun d => ?_⟩
    induction d with
    | zero =>
      intro i k hi hk
      obtain ⟨k, rfl⟩ : ∃ m, k = m + 1 := ⟨k - 1, by omega⟩
      simp only [palinodelaw03_FrameRow.l1]
      have hf := fr_small s c
      rw [if_neg (by omega), h1 k (by omega), putR_fr s c]
      simp only [Option.bind_some, Option.isNone_none, if_true]
      rw [show (((fr s).size : Int) == 0) = false by rw [beq_eq_false_iff_ne]; omega]
      exact h2 k (by omega)
    | succ d ih =>
      intro i k hi hk
      obtain ⟨k, rfl⟩ : ∃ m, k = m + 1 := ⟨k - 1, by omega⟩
      simp only [palinodelaw03_FrameRow.l1]
      rw [if_pos (by omega), if_pos (by omega), if_pos (by omega), if_pos trivial, wrap_of _ (by omega) (by omega), show (i : Int) + 1 = ((i + 1 : Nat) : Int) by omega]
      exact ih (i + 1) k (by omega) (by omega)
  · refine ⟨K1 + 2, fun d => ?_⟩
    induction d with
    | zero =>
      intro i k hi hk
      obtain ⟨k, rfl⟩ : ∃ m, k = m + 2 := ⟨k - 2, by omega⟩
      simp only [palinodelaw03_FrameRow.l1]
      rw [if_neg (by omega), h1 _ (by omega), putR_no s (by omega)]
      simp [palinodelaw03_FrameRow.j3]
      omega
    | succ d ih =>
      intro i k hi hk
      obtain ⟨k, rfl⟩ : ∃ m, k = m + 1 := ⟨k - 1, by omega⟩
      simp only [palinodelaw03_FrameRow.l1]
      rw [if_pos (by omega), if_pos (by omega), if_pos (by omega), if_pos trivial, wrap_of _ (by omega) (by omega), show (i : Int) + 1 = ((i + 1 : Nat) : Int) by omega]
      exact ih (i + 1) k (by omega) (by omega)
theorem rdOf_at (l : List ByteArray) (i : Nat) (h : i < l.length) : rdOf ByteArray.empty l (i : Int) = l[i] := by
  unfold rdOf
  rw [Int.toNat_natCast, List.getD_eq_getElem?_getD, List.getElem?_eq_getElem h]
  rfl
theorem row_l0 (l : List ByteArray) (s : ByteArray) (x2 : Int) (hl : l.length ≤ 20) (hz : ∀ s ∈ l, s.size ≤ 140737488351232) (hs : s.size ≤ 140737488351232) (hw : -9223372036854775808 ≤ x2 ∧ x2 ≤ 9223372036854775807) :
    ∀ (d i : Nat), i + d = l.length → (∀ s ∈ l.take i, s.size ≤ 1048576) → ∃ K, ∀ k, K ≤ k → palinodelaw03_FrameRow.l0 k l s x2 true (cat (l.take i)) (i : Int) = some true := by
  intro d
  induction d with
  | zero =>
    intro i hi ok
    rw [List.take_of_length_le (by omega)] at ok ⊢
    obtain ⟨K, hK⟩ := row_l1 l s x2 hl ok hs hw
    refine ⟨K + l.length + l.length + 4, fun k hk => ?_⟩
    obtain ⟨k, rfl⟩ : ∃ m, k = m + 2 := ⟨k - 2, by omega⟩
    have hc := cat_size l ok
    simp only [palinodelaw03_FrameRow.l0]
    rw [if_neg (by omega)]
    have ha : frame_All.f (k + 1) (cat l) = some (l, ((cat l).size : Int), none) := by
      obtain ⟨q, hq⟩ : ∃ q, k + 1 = l.length + (q + 1) := ⟨k + 1 - l.length - 1, by omega⟩
      have h1 := all_cat (cat l) ⟨#[]⟩ (by show 0 ≤ 2000000; omega) l [] (q + 1) ok (by simp; omega)
      rw [app_nil, List.nil_append, all_end] at h1
      unfold frame_All.f
      rw [hq]
      exact h1
    rw [ha]
    simp only [Option.bind_some, if_true, Option.isNone_none]
    simp only [palinodelaw03_FrameRow.j1]
    rw [if_neg (by decide)]
    have := hK l.length 0 k (by omega) (by omega)
    exact this
  | succ d ih =>
    intro i hi ok
    have hlt : i < l.length := by omega
    have hmem : l[i] ∈ l := List.getElem_mem hlt
    obtain ⟨K1, h1⟩ := put_ev l[i] (hz _ hmem)
    by_cases c : l[i].size ≤ 1048576
    · have tk : l.take (i + 1) = l.take i ++ [l[i]] := (List.take_append_getElem hlt).symm
      obtain ⟨K2, h2⟩ := ih (i + 1) (by omega) (by
        rw [tk]
        intro x hx
        rcases List.mem_append.1 hx with hx | hx
        · exact ok x hx
        · rw [List.mem_singleton.1 hx]; exact c)
      refine ⟨K1 + K2 + 1, fun k hk => ?_⟩
      obtain ⟨k, rfl⟩ : ∃ m, k = m + 1 := ⟨k - 1, by omega⟩
      have hc := cat_size (l.take i) ok
      have hf := fr_small _ c
      have hlen : (l.take i).length ≤ 20 := by rw [List.length_take]; omega
      simp only [palinodelaw03_FrameRow.l0]
      rw [if_pos (by omega), if_pos (by omega), rdOf_at l i hlt, h1 k (by omega), putR_fr _ c]
      simp only [Option.bind_some, Option.isNone_none, if_true]
      rw [if_pos (by omega), wrap_of _ (by omega) (by omega), show (i : Int) + 1 = ((i + 1 : Nat) : Int) by omega, ← cat_snoc, ← tk]
      exact h2 k (by omega)
    · refine ⟨K1 + 1, fun k hk => ?_⟩
      obtain ⟨k, rfl⟩ : ∃ m, k = m + 1 := ⟨k - 1, by omega⟩
      simp only [palinodelaw03_FrameRow.l0]
      rw [if_pos (by omega), if_pos (by omega), rdOf_at l i hlt, h1 k (by omega), putR_no _ (by omega)]
      simp
      omega

theorem FrameRow : palinodelaw03_FrameRow.Pure := by
  refine ⟨examples_true, ?_⟩
  intro l s x2 v1 v2 v3
  obtain ⟨K0, h0⟩ := examples_ev
  obtain ⟨n, hn, hn1, hn2⟩ : ∃ n : Nat, mn (l.length : Int) 20 = (n : Int) ∧ n ≤ l.length ∧ n ≤ 20 := by
    unfold mn
    split
    · exact ⟨20, rfl, by omega, by omega⟩
    · exact ⟨l.length, rfl, by omega, by omega⟩
  have hz : ∀ x ∈ l.take n, x.size ≤ 140737488351232 := fun x hx => v1.2.2 x (List.mem_of_mem_take hx)
  obtain ⟨K1, h1⟩ := row_l0 (l.take n) s x2 (by rw [List.length_take]; omega) hz v2 (wf_i64 v3) (l.take n).length 0 (by omega) (by simp)
  refine ⟨K0 + K1, ?_⟩
  unfold palinodelaw03_FrameRow.f
  rw [h0 _ (by omega), hn]
  simp only [Option.bind_some, Int.toNat_natCast]
  rw [if_pos (by omega), if_pos (by omega)]
  exact h1 _ (by omega)
end Go.Proofs.Ytmmhdoaepdlmcaa.Pure
