/- In whatever order keys stand, and once more, the filter of as many is the same: for all arguments that the row lets in. -/
import Derived.Test.YtadfbclebdocnaaBloomBits
import Derived.Test.YtadfbclebdocnaaPrint3
namespace Go.Proofs.Ytadfbclebdocnaa.Pure
open Go.RowKit Go.Proofs.Ytadfbclebdocnaa.Print Go.Proofs.YtadfbclebdocnaaX Go.Proofs.YtadfbclebdocnaaW.PrintWords Go.Proofs.YtadfbclebdocnaaW.PrintLast
set_option linter.unusedVariables false
set_option linter.unusedSimpArgs false

theorem order_l0 (l : List ByteArray) (each : Int) (hl : l.length ≤ 200) (hx : ∀ x ∈ l, x.size ≤ 140737488351232) :
    ∀ (n k : Nat), n ≤ l.length → n < k → palinodelaw11_BloomOrder.l0 k l each true (l.drop n).reverse ((n : Int) - 1) = some true := by
  intro n
  induction n with
  | zero =>
    intro k hn hk
    obtain ⟨k, rfl⟩ : ∃ j, k = j + 1 := ⟨k - 1, by omega⟩
    simp only [palinodelaw11_BloomOrder.l0]
    have hr : l.reverse.length = l.length := List.length_reverse
    have hs : ∀ (a b : List ByteArray), (∀ x ∈ a, x ∈ l) → (∀ x ∈ b, x ∈ l) → ∀ x ∈ a ++ b, x.size ≤ 9223372036854775807 := fun a b ha hb x h => by
      have := hx x ((List.mem_append.1 h).elim (ha x) (hb x)); omega
    have hrev : ∀ x ∈ l.reverse, x ∈ l := fun x h => List.mem_reverse.1 h
    rw [if_neg (by omega), List.drop_zero, List.nil_append, List.length_nil, if_pos (by omega), Option.bind_some, hr, if_pos (by omega), make_eq' _ each (hs _ _ (fun _ h => h) hrev), Option.bind_some, if_pos (by omega), make_eq' _ each (hs _ _ hrev (fun _ h => h)), Option.bind_some]
    rw [makeR_perm (List.perm_append_comm (l₁ := l) (l₂ := l.reverse)) each]
    simp only [if_true]
    split <;> rfl
  | succ n ih =>
    intro k hn hk
    obtain ⟨k, rfl⟩ : ∃ j, k = j + 1 := ⟨k - 1, by omega⟩
    have hkv : rdOf ByteArray.empty l (n : Int) = l[n]'hn := by
      unfold rdOf
      rw [Int.toNat_natCast, List.getD_eq_getElem?_getD, List.getElem?_eq_getElem hn]
      rfl
    simp only [palinodelaw11_BloomOrder.l0]
    have hr : (l.drop (n + 1)).reverse.length ≤ 200 := by rw [List.length_reverse, List.length_drop]; omega
    rw [show ((n + 1 : Nat) : Int) - 1 = (n : Int) by omega, if_pos (by omega), if_pos (by omega), if_pos (by omega), if_pos (by omega), hkv, wrap_of _ (by omega) (by omega), ← List.reverse_cons, ← List.drop_eq_getElem_cons hn]
    exact ih k (by omega) (by omega)
theorem BloomOrder : palinodelaw11_BloomOrder.Pure := by
  refine ⟨examples_true, ?_⟩
  intro l each v1 v2
  refine ⟨l.length + 1, ?_⟩
  unfold palinodelaw11_BloomOrder.f
  rw [examples_ev, Option.bind_some]
  obtain ⟨n, hn, ha⟩ : ∃ n : Nat, mn (l.length : Int) 200 = (n : Int) ∧ n ≤ l.length ∧ n ≤ 200 := by
    unfold mn
    split
    · exact ⟨200, rfl, by omega, by omega⟩
    · exact ⟨l.length, rfl, by omega, by omega⟩
  have hz : (l.take n).length = n := by rw [List.length_take]; omega
  rw [hn, Int.toNat_natCast, if_pos (by omega), if_pos (by omega), hz, wrap_of _ (by omega) (by omega)]
  have h := order_l0 (l.take n) each (by omega) (fun x h => v1.2.2 x (List.mem_of_mem_take h)) n (l.length + 1) (by omega) (by omega)
  rw [List.drop_eq_nil_of_le (by omega), List.reverse_nil] at h
  exact h
end Go.Proofs.Ytadfbclebdocnaa.Pure
