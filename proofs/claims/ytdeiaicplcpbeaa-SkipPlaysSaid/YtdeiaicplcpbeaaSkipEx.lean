import Derived.Test.YtdeiaicplcpbeaaSkipAbs
import Derived.Test.YtdeiaicplcpbeaaPrint1
namespace Go.Proofs.Ytdeiaicplcpbeaa.Print
open Go.RowKit Go.Proofs.YtdeiaicplcpbeaaX Go.Proofs.YtdeiaicplcpbeaaW.PrintWords Go.Proofs.YtdeiaicplcpbeaaW.PrintLast
set_option linter.unusedVariables false
set_option linter.unusedSimpArgs false

theorem lit_toList (a : Array UInt8) : (⟨a⟩ : ByteArray).toList = a.toList := (toList_data ⟨a⟩).symm
theorem ex1 : findO ⟨#[98]⟩ [] = none := rfl
theorem ex2 : putO ⟨#[98]⟩ ⟨#[49]⟩ 3 [] = [(⟨#[98]⟩, ⟨#[49]⟩, 3)] := rfl
theorem ex3 : findO ⟨#[97]⟩ [(⟨#[98]⟩, ⟨#[49]⟩, 3)] = none := by
  simp [findO, moreO, List.dropWhile_cons, bless, lit_toList, Op.bytesLess]
theorem ex4 : putO ⟨#[97]⟩ ⟨#[50]⟩ 1 [(⟨#[98]⟩, ⟨#[49]⟩, 3)] = [(⟨#[97]⟩, ⟨#[50]⟩, 1), (⟨#[98]⟩, ⟨#[49]⟩, 3)] := by
  unfold putO; rw [ex3]
  simp [lessO, moreO, List.dropWhile_cons, List.takeWhile_cons, bless, lit_toList, Op.bytesLess, show hgt 1 = 1 from rfl]
theorem ex5 : findO ⟨#[98]⟩ [(⟨#[97]⟩, ⟨#[50]⟩, 1), (⟨#[98]⟩, ⟨#[49]⟩, 3)] = some (⟨#[98]⟩, ⟨#[49]⟩, 3) := by
  simp [findO, moreO, List.dropWhile_cons, bless, lit_toList, Op.bytesLess]
theorem ex6 : putO ⟨#[98]⟩ ⟨#[51]⟩ 9 [(⟨#[97]⟩, ⟨#[50]⟩, 1), (⟨#[98]⟩, ⟨#[49]⟩, 3)] = [(⟨#[97]⟩, ⟨#[50]⟩, 1), (⟨#[98]⟩, ⟨#[51]⟩, 3)] := by
  unfold putO; rw [ex5]
  simp [setO, lit_toList]
theorem ex7 : laneO 1 [(⟨#[97]⟩, ⟨#[50]⟩, 1), (⟨#[98]⟩, ⟨#[51]⟩, 3)] = [⟨#[98]⟩] := by
  rfl
theorem ex8 : seekO ⟨#[97, 97]⟩ [(⟨#[97]⟩, ⟨#[50]⟩, 1), (⟨#[98]⟩, ⟨#[51]⟩, 3)] = (⟨#[98]⟩, ⟨#[51]⟩, true) := by
  simp [seekO, moreO, List.dropWhile_cons, bless, lit_toList, Op.bytesLess]
theorem ex9 : heightO ⟨#[98]⟩ [(⟨#[97]⟩, ⟨#[50]⟩, 1), (⟨#[98]⟩, ⟨#[51]⟩, 3)] = 3 := by
  simp [heightO, findO, moreO, List.dropWhile_cons, bless, lit_toList, Op.bytesLess]
theorem ex10 : heightO ⟨#[99]⟩ [(⟨#[97]⟩, ⟨#[50]⟩, 1), (⟨#[98]⟩, ⟨#[51]⟩, 3)] = 0 := by
  simp [heightO, findO, moreO, List.dropWhile_cons, bless, lit_toList, Op.bytesLess]
def l1 : List One := [(⟨#[98]⟩, ⟨#[49]⟩, 3)]
def l2 : List One := [(⟨#[97]⟩, ⟨#[50]⟩, 1), (⟨#[98]⟩, ⟨#[49]⟩, 3)]
def l3 : List One := [(⟨#[97]⟩, ⟨#[50]⟩, 1), (⟨#[98]⟩, ⟨#[51]⟩, 3)]
theorem exP1 {n0 lb : Nat} {w : World} (hS : LS n0 w lb []) :
    Calls Try.prog 9 #[.pointer (some ⟨lb, 0, none⟩), .string ⟨#[98]⟩, .string ⟨#[49]⟩, .int .i64 3] w fun e w' => e = .returned (.bool true) ∧ LS n0 w' lb l1 ∧ Below n0 w w' := by
  refine (put_as n0 lb _ _ _ _ _ hS (by decide)).mono ?_
  rintro e w' ⟨rfl, h1, h2⟩
  rw [ex2] at h1
  exact ⟨rfl, h1, h2⟩
theorem exP2 {n0 lb : Nat} {w : World} (hS : LS n0 w lb l1) :
    Calls Try.prog 9 #[.pointer (some ⟨lb, 0, none⟩), .string ⟨#[97]⟩, .string ⟨#[50]⟩, .int .i64 1] w fun e w' => e = .returned (.bool true) ∧ LS n0 w' lb l2 ∧ Below n0 w w' := by
  refine (put_as n0 lb _ _ _ _ _ hS (by decide)).mono ?_
  rintro e w' ⟨rfl, h1, h2⟩
  unfold l1 at h1 ⊢
  rw [ex4] at h1
  rw [ex3]
  exact ⟨rfl, h1, h2⟩
theorem exP3 {n0 lb : Nat} {w : World} (hS : LS n0 w lb l2) :
    Calls Try.prog 9 #[.pointer (some ⟨lb, 0, none⟩), .string ⟨#[98]⟩, .string ⟨#[51]⟩, .int .i64 9] w fun e w' => e = .returned (.bool false) ∧ LS n0 w' lb l3 ∧ Below n0 w w' := by
  refine (put_as n0 lb _ _ _ _ _ hS (by decide)).mono ?_
  rintro e w' ⟨rfl, h1, h2⟩
  unfold l2 at h1 ⊢
  rw [ex6] at h1
  rw [ex5]
  exact ⟨rfl, h1, h2⟩
theorem exL {n0 lb : Nat} {w : World} (hS : LS n0 w lb l3) :
    Calls Try.prog 17 #[.pointer (some ⟨lb, 0, none⟩), .int .i64 1] w fun e w' => ∃ A c, e = .returned (.slice A 1 c) ∧ Kd.C Kd.string w' A 1 [⟨#[98]⟩] ∧ Below w.heap.size w w' := by
  refine (lane_as hS (by decide)).mono ?_
  rintro e w' ⟨v, rfl, h1, h2⟩
  unfold l3 at h1
  rw [ex7] at h1
  obtain ⟨A, c, rfl, _, h3⟩ := h1.reads
  exact ⟨A, c, rfl, h3, h2⟩
theorem exS {n0 lb : Nat} {w : World} (hS : LS n0 w lb l3) :
    Calls Try.prog 13 #[.pointer (some ⟨lb, 0, none⟩), .string ⟨#[97, 97]⟩] w fun e w' => e = .returned (.tuple #[.string ⟨#[98]⟩, .string ⟨#[51]⟩, .bool true]) ∧ Below w.heap.size w w' := by
  refine (seek_as hS).mono ?_
  unfold l3
  rw [ex8]
  exact fun e w' h => h
theorem exH3 {n0 lb : Nat} {w : World} (hS : LS n0 w lb l3) :
    Calls Try.prog 15 #[.pointer (some ⟨lb, 0, none⟩), .string ⟨#[98]⟩] w fun e w' => e = .returned (.int .i64 3) ∧ Below w.heap.size w w' := by
  refine (height_as hS).mono ?_
  unfold l3
  rw [ex9]
  exact fun e w' h => h
theorem exH0 {n0 lb : Nat} {w : World} (hS : LS n0 w lb l3) :
    Calls Try.prog 15 #[.pointer (some ⟨lb, 0, none⟩), .string ⟨#[99]⟩] w fun e w' => e = .returned (.int .i64 0) ∧ Below w.heap.size w w' := by
  refine (height_as hS).mono ?_
  unfold l3
  rw [ex10]
  exact fun e w' h => h
theorem exN {n0 lb : Nat} {w : World} (hS : LS n0 w lb l3) :
    Calls Try.prog 20 #[.pointer (some ⟨lb, 0, none⟩)] w fun e w' => e = .returned (.int .i64 2) ∧ Below w.heap.size w w' := (len_as hS).mono (fun e w' h => h)
set_option maxHeartbeats 4000000 in
set_option maxRecDepth 100000 in
theorem examples_calls (w : World) : Calls Try.prog 7 #[] w fun e w' => e = .returned (.bool true) ∧ Below w.heap.size w w' := by
  have hn := new_as w
  go_enter Try.func7, Try.ntmps7
  go_upto_region 4 with (first
    | (go_at_call 8; refine hn.mono ?_; rintro e w1 ⟨lb, rfl, hS, hB⟩))

  go_upto_region 5 with
    (go_at_call 9
     first
      | (refine (exP1 hS).mono ?_; clear hS; rintro e w2 ⟨he, hS1, hB1⟩; subst he)
      | (refine (exP2 hS1).mono ?_; clear hS1; rintro e w3 ⟨he, hS2, hB2⟩; subst he)
      | (refine (exP3 hS2).mono ?_; clear hS2; rintro e w4 ⟨he, hS3, hB3⟩; subst he))
  have hB4 : Below w.heap.size w w4 := hB.trans (hB1.trans (hB2.trans hB3))
  go_upto_region 6 with (go_at_call 17; refine (exL hS3).mono ?_; rintro e w5 ⟨A, c, he, hC, hB5⟩; subst he; have hS5 := hS3.below hB5; clear hS3)
  go_upto_region 7 with (go_at_call 13; refine (exS hS5).mono ?_; rintro e w6 ⟨he, hB6⟩; subst he; have hS6 := hS5.below hB6; have hC6 := Kd.C_below hC hB6; clear hS5 hC)
  obtain ⟨ad, hA, hc0⟩ := Kd.at_string hC6 0 (by decide) (by decide)
  subst hA
  have hcz : w6.cell? ad = some (.string ⟨#[98]⟩) := by
    rw [show ad = ad.add (Int.toNat 0) by unfold Addr.add; split <;> simp_all] at *
    exact hc0
  clear hc0
  have hB6' := below_step (below_step hB4 hB5) hB6
  go_wp2_with (first
    | (go_at_call 15; refine (exH3 hS6).mono ?_; rintro e w7 ⟨he, hB7⟩; subst he; have hS7 := hS6.below hB7; clear hS6)
    | (go_at_call 15; refine (exH0 hS7).mono ?_; rintro e w8 ⟨he, hB8⟩; subst he; have hS8 := hS7.below hB8; clear hS7)
    | (go_at_call 20; refine (exN hS8).mono ?_; rintro e w9 ⟨he, hB9⟩; subst he))
  go_ret
  exact ⟨rfl, below_step (below_step (below_step hB6' hB7) hB8) hB9⟩
end Go.Proofs.Ytdeiaicplcpbeaa.Print
