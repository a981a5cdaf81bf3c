/- Contracts proved by hand: see the theorems' own lines. -/
import Derived.Test.YtadfbclebdocnaaPrint0
namespace Go.Proofs.Ytadfbclebdocnaa.Print
open Go.RowKit Go.Proofs.YtadfbclebdocnaaW.PrintWords Go.Proofs.YtadfbclebdocnaaW.PrintLast Go.Proofs.YtadfbclebdocnaaX
set_option linter.unusedVariables false
set_option linter.unusedSimpArgs false

/-- The hash of the first bytes. -/
def hashTo (s : ByteArray) : Nat → Int
  | 0 => 14695981039346656037
  | k + 1 => (bits .xor .u64 (hashTo s k) (bt s k)) * 1099511628211 % 18446744073709551616
def bloom_Hash.f (a0 : ByteArray) : Option Int := if a0.size ≤ 9223372036854775807 then some (hashTo a0 a0.size) else none

set_option maxHeartbeats 4000000 in
set_option maxRecDepth 100000 in
theorem bloom_Hash.calls (a0 : ByteArray) (r : Int) (w : World) (h : bloom_Hash.f a0 = some r) :
    Calls Try.prog 12 #[.string a0] w fun e w' => e = .returned (.int .u64 r) ∧ Below w.heap.size w w' := by
  have hsz : a0.size ≤ 9223372036854775807 := by
    unfold bloom_Hash.f at h
    by_cases hs : a0.size ≤ 9223372036854775807
    · exact hs
    · rw [if_neg hs] at h; cases h
  have H : hashTo a0 a0.size = r := by
    unfold bloom_Hash.f at h
    rw [if_pos hsz] at h
    exact Option.some.inj h
  clear h
  have kb := fun (W : World) => print_bytes (P := Try.prog) 9 36 5 Try.underlying9 Try.underlying36 Try.underlying5 a0 W
  have hcell : ∀ k : Nat, k < a0.size → (Lib.bytesWorld w 5 a0).cell? ⟨w.heap.size, k, none⟩ = some (.int .u8 (bt a0 k)) := by
    intro k hk
    rw [Lib.bytesWorld_cell w 5 a0 k hk]
    have h1 : ((k : Int)).toNat < a0.size := by omega
    have h2 := bt_at a0 (k : Int) h1
    rw [← h2]
    have h3 : k < a0.data.toList.length := by rw [data_length]; omega
    rw [List.getD_eq_getElem?_getD, List.getElem?_eq_getElem h3, Option.getD_some]
    rfl
  have HB := Aside0.mk (bytes_below (B := w.heap.size) (Below.refl w.heap.size w) (Nat.le_refl _) 5 a0)
  have HC := Aside0.mk hcell
  have HH := Aside0.mk H
  clear hcell H
  go_enter Try.func12, Try.ntmps12
  go_wp2
  go_loop [3, 9] (fun v i => ∃ k : Nat, k ≤ a0.size ∧ i = .int .i64 k ∧ v = .int .u64 (hashTo a0 k)) (fun _ i => a0.size - (intOf i).toNat)
  case atStart => exact ⟨0, Nat.zero_le _, rfl, rfl⟩
  case round =>
    obtain ⟨k, hk, rfl, rfl⟩ := hrel
    by_cases hlt : k < a0.size
    · have hc := HC.out k hlt
      have hr := bt_range a0 k
      have hw : bt a0 (k : Int) % 18446744073709551616 = bt a0 (k : Int) := by omega
      go_wp2
      exact ⟨⟨k + 1, by omega, by go_num, by simp only [hashTo]; rw [IntKind.wrap_u64]⟩, by simp [intOf]; omega⟩
    · obtain rfl : k = a0.size := by omega
      go_wp2
      go_ret
      exact ⟨by rw [← HH.out]; rfl, HB.out⟩
end Go.Proofs.Ytadfbclebdocnaa.Print
