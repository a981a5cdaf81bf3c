/- What a filter says yes to, one with more bits set, of as many bytes, says yes to as well: for all arguments that the row lets in. -/
import Derived.Test.YtadfbclebdocnaaBloomBits
import Derived.Test.YtadfbclebdocnaaHBloomMore
namespace Go.Proofs.Ytadfbclebdocnaa.Pure
open Go.RowKit Go.Proofs.Ytadfbclebdocnaa.Print Go.Proofs.YtadfbclebdocnaaX Go.Proofs.YtadfbclebdocnaaW.PrintWords Go.Proofs.YtadfbclebdocnaaW.PrintLast
set_option linter.unusedVariables false
set_option linter.unusedSimpArgs false

theorem bits_in (s : ByteArray) : InB (bytesOf s) := bytesOf_range s
theorem mbit_has' (s : ByteArray) (p : Nat) : (mbit s p != 0) = true ↔ has (bytesOf s) p := by
  have h := mbit_has (bits_in s) p
  have e : strOfNums (bytesOf s) = s := bytesOf_inj (bytesOf_strOfNums (bits_in s))
  rw [e] at h
  exact h
theorem ors_in {xs : List Int} (h : InB xs) (o : ByteArray) (i : Nat) : InB (ors xs o i) := by
  induction i with
  | zero => exact h
  | succ i ih =>
    intro x hx
    rcases List.mem_or_eq_of_mem_set hx with hx | rfl
    · exact ih x hx
    · exact or_range _ _
theorem ors_has {xs : List Int} (h : InB xs) (o : ByteArray) (q : Nat) (hq : has xs q) (i : Nat) : has (ors xs o i) q := by
  induction i with
  | zero => exact hq
  | succ i ih =>
    have hb := bt_range o (i : Int)
    unfold has at ih ⊢
    simp only [ors]
    rw [getD_set]
    split
    · rename_i c
      rw [← c.1] at ih
      rw [testBit_or8 _ _ (getD_in (ors_in h o i) _) (by omega), ih, Bool.true_or]
    · exact ih
theorem ors_last (xs : List Int) (o : ByteArray) (i j : Nat) (h : i ≤ j) : (ors xs o i).getD j 0 = xs.getD j 0 := by
  induction i with
  | zero => rfl
  | succ i ih =>
    simp only [ors]
    rw [getD_set, if_neg (by omega), ih (by omega)]
theorem more_may (s o key : ByteArray) (h : mayR s key = true) : mayR (strOfNums (ors (bytesOf s) o (min (s.size - 1) o.size))) key = true := by
  have hz : (strOfNums (ors (bytesOf s) o (min (s.size - 1) o.size))).size = s.size := by rw [size_strOfNums, ors_length, bytesOf_length]
  obtain ⟨f, hf⟩ : ∃ f, strOfNums (ors (bytesOf s) o (min (s.size - 1) o.size)) = f := ⟨_, rfl⟩
  have hby : bytesOf f = ors (bytesOf s) o (min (s.size - 1) o.size) := by rw [← hf, bytesOf_strOfNums (ors_in (bits_in s) o _)]
  rw [hf] at hz ⊢
  clear hf
  unfold mayR at h ⊢
  by_cases c : s.size ≤ 1
  · rw [dif_pos (by omega)]
  · rw [dif_neg c] at h
    rw [dif_neg (by omega)]
    have hr : mayK f key (f.size - 1) (by omega) = mayK f key (s.size - 1) (by omega) := by congr 1; omega
    rw [hr]
    obtain ⟨N, hN, hN2⟩ : ∃ N, s.size - 1 = N ∧ 0 < N := ⟨s.size - 1, rfl, by omega⟩
    have hr2 : ∀ g : ByteArray, ∀ h2, mayK g key (s.size - 1) h2 = mayK g key N hN2 := by intro g h2; congr 1
    rw [hr2] at h ⊢
    have hbt : bt f (N : Int) = bt s (N : Int) := by
      rw [bt_eq, bt_eq, hby, Int.toNat_natCast, ors_last _ _ _ _ (by omega)]
    unfold mayK at h ⊢
    rw [hbt]
    by_cases c2 : bt s (N : Int) = 0 ∨ 30 < bt s (N : Int)
    · rw [if_pos c2]
    · rw [if_neg c2] at h ⊢
      rw [List.all_eq_true] at h ⊢
      intro p hp
      rw [mbit_has', hby]
      exact ors_has (bits_in s) o p.val ((mbit_has' s p.val).1 (h p hp)) _
theorem BloomMoreWalk (s o key : ByteArray) (w : World) (hs : s.size ≤ 140737488351232) (ho : o.size ≤ 140737488351232) (hk : key.size ≤ 140737488351232) :
    Calls Try.prog 7 #[.string s, .string o, .string key] w fun e w' => e = .returned (.bool true) ∧ Below w.heap.size w w' :=
  palinodelaw11_BloomMore.calls s o key w hs ho hk examples_ev (more_may s o key)
end Go.Proofs.Ytadfbclebdocnaa.Pure
