/- A filter says yes of each key that it was made of, with any others; one of no keys says it of none: for all arguments that the row lets in. -/
import Derived.Test.YtadfbclebdocnaaBloomBits
import Derived.Test.YtadfbclebdocnaaPrint2
namespace Go.Proofs.Ytadfbclebdocnaa.Pure
open Go.RowKit Go.Proofs.Ytadfbclebdocnaa.Print Go.Proofs.YtadfbclebdocnaaX Go.Proofs.YtadfbclebdocnaaW.PrintWords Go.Proofs.YtadfbclebdocnaaW.PrintLast
set_option linter.unusedVariables false
set_option linter.unusedSimpArgs false

theorem yes_l0 (l : List ByteArray) (each : Int) (key : ByteArray) (he : 1 ≤ each ∧ each ≤ 20) (hl : l.length ≤ 2000) (hk : key.size ≤ 140737488351232) (hx : ∀ x ∈ l, x.size ≤ 140737488351232) (f : ByteArray) (hf : f.size ≤ 140737488355328) (hy : ∀ x ∈ l, mayR f x = true) :
    ∀ (n i k : Nat), l.length - i = n → i ≤ l.length → n < k → palinodelaw11_BloomYes.l0 k l each key true f (i : Int) = some true := by
  intro n
  induction n with
  | zero =>
    intro i k hn hi hk2
    obtain ⟨k, rfl⟩ : ∃ j, k = j + 1 := ⟨k - 1, by omega⟩
    simp only [palinodelaw11_BloomYes.l0]
    rw [if_neg (by omega), make_eq' [] each (by simp), Option.bind_some]
    have hm := makeR_nil each he
    have h2 := none_of each he key
    have hz : (makeR [] each).1.size ≤ 140737488355328 := by rw [hm]; simp only [size_strOfNums, List.length_append, List.length_replicate, List.length_singleton]; omega
    have h3 : (makeR [] each).2 = none := by rw [hm]
    rw [h3, may_eq _ key hz (by omega), h2]
    rfl
  | succ n ih =>
    intro i k hn hi hk2
    obtain ⟨k, rfl⟩ : ∃ j, k = j + 1 := ⟨k - 1, by omega⟩
    have hi' : i < l.length := by omega
    have hkv : rdOf ByteArray.empty l (i : Int) = l[i]'hi' := by
      unfold rdOf
      rw [Int.toNat_natCast, List.getD_eq_getElem?_getD, List.getElem?_eq_getElem hi']
      rfl
    have hm := List.getElem_mem hi'
    have hs := hx _ hm
    simp only [palinodelaw11_BloomYes.l0]
    rw [if_pos (by omega), if_pos (by omega), hkv, may_eq f _ hf (by omega), hy _ hm, Option.bind_some, if_pos rfl, wrap_of _ (by omega) (by omega), show (i : Int) + 1 = ((i + 1 : Nat) : Int) by omega]
    exact ih (i + 1) k (by omega) (by omega) (by omega)
theorem BloomYes : palinodelaw11_BloomYes.Pure := by
  refine ⟨examples_true, ?_⟩
  intro l each key v1 v2 v3
  refine ⟨l.length + 1, ?_⟩
  unfold palinodelaw11_BloomYes.f
  rw [examples_ev, make_eq' l each (fun x hx => by have := v1.2.2 x hx; omega)]
  simp only [Option.bind_some]
  by_cases c : (makeR l each).2.isNone = true
  · rw [if_pos c]
    have h0 : (makeR l each).2 = none := by simpa using c
    obtain ⟨he, e⟩ := makeR_ok l each h0
    have hl : l.length ≤ 2000 := by
      unfold makeR at h0
      rw [if_neg (by omega)] at h0
      by_cases c2 : 2000 < l.length
      · rw [if_pos c2] at h0; cases h0
      · omega
    have hz : (makeR l each).1.size ≤ 140737488355328 := by
      rw [e, size_strOfNums, List.length_append, keys_length, List.length_replicate]
      unfold nBytes
      have h1 : l.length * each.toNat ≤ 2000 * 20 := Nat.mul_le_mul hl (by omega)
      simp only [List.length_singleton]
      generalize l.length * each.toNat = q at h1
      omega
    have := yes_l0 l each key he hl v3 v1.2.2 _ hz (fun x hx => yes_of l each h0 x hx) l.length 0 (l.length + 1) (by omega) (by omega) (by omega)
    exact this
  · rw [if_neg c]
    have e : (makeR l each).1 = ⟨#[]⟩ := by
      unfold makeR at c ⊢
      split
      · rfl
      · split
        · rfl
        · rename_i h1 h2; rw [if_neg h1, if_neg h2] at c; simp at c
    rw [e, if_pos trivial, ByteArray.toList_eq]
    rfl
end Go.Proofs.Ytadfbclebdocnaa.Pure
