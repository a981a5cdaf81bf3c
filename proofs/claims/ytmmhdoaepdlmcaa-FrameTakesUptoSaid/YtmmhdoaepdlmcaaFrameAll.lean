import Derived.Test.YtmmhdoaepdlmcaaFrameEx
import Derived.Test.YtmmhdoaepdlmcaaPrint7
import Derived.Test.YtmmhdoaepdlmcaaPrint7
import Derived.Test.YtmmhdoaepdlmcaaHErrorsIs
namespace Go.Proofs.Ytmmhdoaepdlmcaa.Print
open Go.RowKit Go.Proofs.YtmmhdoaepdlmcaaX Go.Proofs.YtmmhdoaepdlmcaaW.PrintWords Go.Proofs.YtmmhdoaepdlmcaaW.PrintLast
set_option linter.unusedVariables false
set_option linter.unusedSimpArgs false

/-- A text's frame. -/
def fr (s : ByteArray) : ByteArray := strOfNums (numL s.size) ++ s ++ fourS (sumR s)
theorem putR_fr (s : ByteArray) (h : s.size ≤ 1048576) : putR s = (fr s, none) := by unfold putR fr; rw [if_neg (by omega)]
theorem putR_no (s : ByteArray) (h : 1048576 < s.size) : putR s = (⟨#[]⟩, some 5) := by unfold putR; rw [if_pos h]
theorem fr_size (s : ByteArray) : (fr s).size = bsize s.size + 1 + s.size + 4 := by
  unfold fr
  rw [append_size, textL_size, fourS_size]
theorem fr_small (s : ByteArray) (h : s.size ≤ 1048576) : 5 ≤ (fr s).size ∧ (fr s).size ≤ 1048584 := by
  have := bsize_text h
  rw [fr_size]
  omega
/-- Some texts' frames, one behind the other. -/
def cat : List ByteArray → ByteArray
  | [] => ⟨#[]⟩
  | s :: l => fr s ++ cat l
theorem nil_app (a : ByteArray) : (⟨#[]⟩ : ByteArray) ++ a = a := by apply bytesOf_inj; rw [bytesOf_append]; rfl
theorem app_nil (a : ByteArray) : a ++ (⟨#[]⟩ : ByteArray) = a := by apply bytesOf_inj; rw [bytesOf_append, bytesOf_nil, List.append_nil]
theorem app_assoc (a b c : ByteArray) : a ++ b ++ c = a ++ (b ++ c) := by apply bytesOf_inj; simp only [bytesOf_append, List.append_assoc]
theorem cat_snoc (l : List ByteArray) (s : ByteArray) : cat (l ++ [s]) = cat l ++ fr s := by
  induction l with
  | nil => simp only [List.nil_append, cat]; rw [app_nil, nil_app]
  | cons x l ih => simp only [List.cons_append, cat]; rw [ih, app_assoc]
theorem cat_size (l : List ByteArray) (h : ∀ s ∈ l, s.size ≤ 1048576) : (cat l).size ≤ 1048584 * l.length := by
  induction l with
  | nil => exact Nat.le_refl _
  | cons x l ih =>
    have h1 := fr_small x (h x List.mem_cons_self)
    have h2 := ih (fun s hs => h s (List.mem_cons_of_mem _ hs))
    simp only [cat, List.length_cons]
    rw [append_size]
    omega
theorem next_some (b : ByteArray) (h : 0 < b.size) (hb : b.size ≤ 9223372036854775807) : frame_next.f b = some (takeR b) := by
  unfold frame_next.f
  rw [if_neg (by rw [toList_nil_iff]; omega), take_eq b hb]
  rfl
theorem all_step (x0 : ByteArray) (acc : List ByteArray) (s rest : ByteArray) (k : Nat) (hs : s.size ≤ 1048576) (ha : acc.length < 8796093022208) (hr : rest.size ≤ 1000000000000) :
    frame_All.l0 (k + 1) x0 acc (fr s ++ rest) = frame_All.l0 k x0 (acc ++ [s]) rest := by
  have h1 := fr_small s hs
  conv => lhs; unfold frame_All.l0
  rw [next_some _ (by rw [append_size]; omega) (by rw [append_size]; omega)]
  have ht : takeR (fr s ++ rest) = (s, rest, none) := takeR_put s hs rest
  rw [ht]
  simp [errors_Is.f, ha]
theorem all_cat (x0 : ByteArray) (tail : ByteArray) (ht : tail.size ≤ 2000000) : ∀ (l acc : List ByteArray) (k : Nat), (∀ s ∈ l, s.size ≤ 1048576) → acc.length + l.length ≤ 1000 →
    frame_All.l0 (l.length + k) x0 acc (cat l ++ tail) = frame_All.l0 k x0 (acc ++ l) tail := by
  intro l
  induction l with
  | nil => intro acc k h hl; simp only [cat, List.length_nil, Nat.zero_add, List.append_nil]; rw [nil_app]
  | cons s l ih =>
    intro acc k h hl
    simp only [List.length_cons] at hl ⊢
    have h2 := cat_size l (fun s hs => h s (List.mem_cons_of_mem _ hs))
    simp only [cat]
    rw [app_assoc, show l.length + 1 + k = (l.length + k) + 1 by omega, all_step x0 acc s _ _ (h s List.mem_cons_self) (by omega) (by rw [append_size]; omega),
      ih (acc ++ [s]) k (fun s hs => h s (List.mem_cons_of_mem _ hs)) (by simp; omega)]
    simp
theorem all_end (x0 : ByteArray) (acc : List ByteArray) (k : Nat) : frame_All.l0 (k + 1) x0 acc ⟨#[]⟩ = some (acc, (x0.size : Int), none) := by
  conv => lhs; unfold frame_All.l0
  have : frame_next.f (⟨#[]⟩ : ByteArray) = some (⟨#[]⟩, ⟨#[]⟩, some 0) := by
    unfold frame_next.f
    rw [if_pos (by rw [toList_nil_iff]; rfl)]
  rw [this]
  simp [errors_Is.f]
theorem takeR_short (s : ByteArray) (h : s.size ≤ 1048576) (c : Nat) (hc : c < (fr s).size) : takeR ((fr s).extract 0 c) = (⟨#[]⟩, ⟨#[]⟩, some 2) := by
  have hz := textL_size s
  rw [fr_size] at hc
  unfold takeR
  by_cases c1 : c < (strOfNums (numL s.size) ++ s).size
  · have e : (fr s).extract 0 c = (strOfNums (numL s.size) ++ s).extract 0 c := by
      apply bytesOf_inj
      unfold fr
      rw [bytesOf_extract, bytesOf_extract, bytesOf_append _ (fourS _), List.drop_zero, List.drop_zero, Nat.sub_zero, List.take_append_of_le_length (by rw [bytesOf_length]; omega)]
    rw [e, readText_short s h c c1]
  · obtain ⟨d, rfl⟩ : ∃ d, c = (strOfNums (numL s.size) ++ s).size + d := ⟨c - (strOfNums (numL s.size) ++ s).size, by omega⟩
    have e : (fr s).extract 0 ((strOfNums (numL s.size) ++ s).size + d) = strOfNums (numL s.size) ++ s ++ (fourS (sumR s)).extract 0 d := by
      apply bytesOf_inj
      unfold fr
      rw [bytesOf_extract, bytesOf_append _ (fourS _), bytesOf_append _ (ByteArray.extract _ _ _), bytesOf_extract (fourS _), List.drop_zero, List.drop_zero, Nat.sub_zero, Nat.sub_zero, List.take_append, bytesOf_length,
        List.take_of_length_le (by rw [bytesOf_length]; omega), Nat.add_sub_cancel_left]
    have hf := fourS_size (sumR s)
    have hz2 : ((fourS (sumR s)).extract 0 d).size = d := by rw [ByteArray.size_extract]; omega
    rw [e, readText_text s h]
    simp only
    rw [hz2, if_pos (by omega)]
theorem all_cut (x0 : ByteArray) (acc : List ByteArray) (s : ByteArray) (k c : Nat) (h : s.size ≤ 1048576) (h0 : 0 < c) (hc : c < (fr s).size) :
    frame_All.l0 (k + 1) x0 acc ((fr s).extract 0 c) = some (acc, wrap64 ((x0.size : Int) - (c : Int)), some 2) := by
  have h1 := fr_small s h
  have hz : ((fr s).extract 0 c).size = c := by rw [ByteArray.size_extract]; omega
  conv => lhs; unfold frame_All.l0
  rw [next_some _ (by omega) (by omega), takeR_short s h c hc, hz]
  simp [errors_Is.f]
end Go.Proofs.Ytmmhdoaepdlmcaa.Print
