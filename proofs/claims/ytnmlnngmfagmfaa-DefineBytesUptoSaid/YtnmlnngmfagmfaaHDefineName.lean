/- Contracts proved by hand: see the theorems' own lines. -/
import Derived.Test.YtnmlnngmfagmfaaPrint0
namespace Go.Proofs.Ytnmlnngmfagmfaa.Print
open Go.RowKit Go.Proofs.YtnmlnngmfagmfaaW.PrintWords Go.Proofs.YtnmlnngmfagmfaaX
set_option linter.unusedVariables false
set_option linter.unusedSimpArgs false

/-- A letter, a digit or a hyphen. -/
def okB (c : Int) : Bool := decide ((97 ≤ c ∧ c ≤ 122) ∨ (48 ≤ c ∧ c ≤ 57) ∨ c = 45)
def nameB (s : ByteArray) : Bool := decide (∀ j : Nat, j < s.size → okB (bt s j) = true) && decide (1 ≤ s.size ∧ s.size ≤ 20)
def define_Name.f (a0 : ByteArray) : Option Bool := if a0.size ≤ 9223372036854775807 then some (nameB a0) else none

set_option maxHeartbeats 4000000 in
set_option maxRecDepth 100000 in
theorem define_Name.calls (a0 : ByteArray) (r : Bool) (w : World) (h : define_Name.f a0 = some r) :
    Calls Try.prog 9 #[.string a0] w fun e w' => e = .returned (.bool r) ∧ Below w.heap.size w w' := by
  have hsz : a0.size ≤ 9223372036854775807 := by
    unfold define_Name.f at h
    by_cases hs : a0.size ≤ 9223372036854775807
    · exact hs
    · rw [if_neg hs] at h; cases h
  have H : nameB a0 = r := by
    unfold define_Name.f at h
    rw [if_pos hsz] at h
    exact Option.some.inj h
  clear h
  have kb := fun (W : World) => print_bytes (P := Try.prog) 9 47 5 Try.underlying9 Try.underlying47 Try.underlying5 a0 W
  have hcell : ∀ k : Nat, k < a0.size → (Lib.bytesWorld w 5 a0).cell? ⟨w.heap.size, k, none⟩ = some (.int .u8 (bt a0 k)) := by
    intro k hk
    rw [Lib.bytesWorld_cell w 5 a0 k hk]
    have h1 : ((k : Int)).toNat < a0.size := by omega
    have h2 := bt_at a0 (k : Int) h1
    rw [← h2]
    have h3 : k < a0.data.toList.length := by rw [data_length]; omega
    rw [List.getD_eq_getElem?_getD, List.getElem?_eq_getElem h3, Option.getD_some]
    rfl
  have HB := Aside0.mk (bytes_below (B := w.heap.size) (Below.refl w.heap.size w) (Nat.le_refl _) 5 a0)
  have HC := Aside0.mk hcell
  have HH := Aside0.mk H
  clear hcell H
  go_enter Try.func9, Try.ntmps9
  go_wp2
  go_loop [8] (fun i => ∃ k : Nat, k ≤ a0.size ∧ i = .int .i64 k ∧ Aside0 (∀ j : Nat, j < k → okB (bt a0 j) = true)) (fun i => a0.size - (intOf i).toNat)
  case atStart => exact ⟨0, Nat.zero_le _, rfl, ⟨fun j hj => absurd hj (Nat.not_lt_zero _)⟩⟩
  case round =>
    obtain ⟨k, hk, rfl, HK⟩ := hrel
    by_cases hlt : k < a0.size
    · have hc := HC.out k hlt
      have hr := bt_range a0 k
      obtain ⟨c, hcc⟩ : ∃ c, bt a0 k = c := ⟨_, rfl⟩
      rw [hcc] at hc hr
      have HCC := Aside0.mk hcc
      clear hcc
      by_cases ok : okB c = true
      · have next : Aside0 (∀ j : Nat, j < k + 1 → okB (bt a0 j) = true) := ⟨fun j hj => by
          rcases Nat.lt_succ_iff_lt_or_eq.1 hj with h | rfl
          · exact HK.out j h
          · rw [HCC.out]; exact ok⟩
        have ok2 : (97 ≤ c ∧ c ≤ 122) ∨ (48 ≤ c ∧ c ≤ 57) ∨ c = 45 := of_decide_eq_true ok
        clear ok
        rcases ok2 with ⟨o1, o2⟩ | ⟨o1, o2⟩ | rfl
        · have t1 : decide (c < 97) = false := decide_eq_false (by omega)
          have t2 : decide (122 < c) = false := decide_eq_false (by omega)
          as_aux_lemma =>
          go_wp2
          exact ⟨⟨k + 1, by omega, by go_num, next⟩, by simp [intOf]; omega⟩
        · have t1 : decide (c < 97) = true := decide_eq_true (by omega)
          have t2 : decide (c < 48) = false := decide_eq_false (by omega)
          have t3 : decide (57 < c) = false := decide_eq_false (by omega)
          as_aux_lemma =>
          go_wp2
          exact ⟨⟨k + 1, by omega, by go_num, next⟩, by simp [intOf]; omega⟩
        · go_wp2
          exact ⟨⟨k + 1, by omega, by go_num, next⟩, by simp [intOf]; omega⟩
      · have ok2 : ¬ ((97 ≤ c ∧ c ≤ 122) ∨ (48 ≤ c ∧ c ≤ 57) ∨ c = 45) := fun h => ok (decide_eq_true h)
        have hno : r = false := by
          rw [← HH.out, nameB]
          have : ¬ (∀ j : Nat, j < a0.size → okB (bt a0 j) = true) := fun h => ok (by rw [← HCC.out]; exact h k hlt)
          simp [this]
        subst hno
        clear ok
        have t0 : (c != 45) = true := by rw [bne_iff_ne]; omega
        by_cases p1 : c < 97
        · have t1 : decide (c < 97) = true := decide_eq_true p1
          by_cases p2 : c < 48
          · have t2 : decide (c < 48) = true := decide_eq_true p2
            as_aux_lemma =>
            go_wp2
            go_ret
            exact ⟨rfl, HB.out⟩
          · have t2 : decide (c < 48) = false := decide_eq_false p2
            have t3 : decide (57 < c) = true := decide_eq_true (by omega)
            as_aux_lemma =>
            go_wp2
            go_ret
            exact ⟨rfl, HB.out⟩
        · have t1 : decide (c < 97) = false := decide_eq_false p1
          have t2 : decide (122 < c) = true := decide_eq_true (by omega)
          have t3 : decide (c < 48) = false := decide_eq_false (by omega)
          have t4 : decide (57 < c) = true := decide_eq_true (by omega)
          as_aux_lemma =>
          go_wp2
          go_ret
          exact ⟨rfl, HB.out⟩
    · obtain rfl : k = a0.size := by omega
      have all : ∀ j : Nat, j < a0.size → okB (bt a0 j) = true := HK.out
      have hres : decide (1 ≤ a0.size ∧ a0.size ≤ 20) = r := by
        rw [← HH.out, nameB, decide_eq_true all]
        rfl
      clear all
      by_cases z : a0.size = 0
      · have e0 : (a0.toList != ([] : List UInt8)) = false := by
          rw [bne_eq_false_iff_eq, ByteArray.toList_eq]
          apply List.eq_nil_of_length_eq_zero
          rw [data_length, z]
        have hr0 : r = false := by rw [← hres]; exact decide_eq_false (by omega)
        subst hr0
        have e1 : a0.toList.isEmpty = true := by rw [ByteArray.toList_eq]; exact List.isEmpty_iff.2 (List.eq_nil_of_length_eq_zero (by rw [data_length, z]))
        clear z hres
        as_aux_lemma =>
        go_wp2
        go_ret
        exact ⟨rfl, HB.out⟩
      · have e0 : (a0.toList != ([] : List UInt8)) = true := by
          rw [bne_iff_ne, ByteArray.toList_eq]
          intro h
          have h1 := data_length a0
          rw [h] at h1
          exact z (by simpa using h1.symm)
        have hr1 : r = decide ((a0.size : Int) ≤ 20) := by
          rw [← hres, decide_eq_decide]
          omega
        subst hr1
        have e1 : a0.toList.isEmpty = false := by
          rw [ByteArray.toList_eq]
          cases hl : a0.data.toList with
          | nil => exact absurd (by have h1 := data_length a0; rw [hl] at h1; simpa using h1.symm) z
          | cons _ _ => rfl
        clear z hres
        as_aux_lemma =>
        go_wp2
        go_ret
        exact ⟨by first | rfl | simp, HB.out⟩
end Go.Proofs.Ytnmlnngmfagmfaa.Print
