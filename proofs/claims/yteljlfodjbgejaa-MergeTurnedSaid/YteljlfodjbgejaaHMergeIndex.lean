/- Contracts proved by hand: see the theorems' own lines. -/
import Derived.Deep.LoopGhost
import Derived.Lib.SliceRun
import Derived.Shelf.SlicesQ.IndexFunc
import Derived.Test.YteljlfodjbgejaaHStringsCompare
import Derived.Test.YteljlfodjbgejaaPrint0
import Derived.WalkKit
namespace Go.Proofs.Yteljlfodjbgejaa.Print
open Go.RowKit Go.Proofs.YteljlfodjbgejaaW.PrintWords Go.Proofs.YteljlfodjbgejaaW.PrintLast Go.Proofs.YteljlfodjbgejaaX
set_option linter.unusedVariables false
set_option linter.unusedSimpArgs false

/-- The number of the first one of which it is true, counted from i; -1: of none. -/
def idxF {α : Type} (p : α → Bool) : List α → Nat → Int
  | [], _ => -1
  | x :: l, i => if p x = true then (i : Int) else idxF p l (i + 1)
def entV4 (x : S34) : Value := .agg #[.string x.f0, .int .i64 x.f1, .bool x.f2, .string x.f3]
theorem drop_rd (l : List S34) (i : Nat) (h : i < l.length) : l.drop i = rd_T34 l (i : Int) :: l.drop (i + 1) := by
  rw [List.drop_eq_getElem_cons h]
  unfold rd_T34
  rw [Int.toNat_natCast, List.getD_eq_getElem?_getD, List.getElem?_eq_getElem h]
  rfl
set_option maxHeartbeats 4000000 in
set_option maxRecDepth 100000 in
theorem indexEnt_calls (A0 : Option Addr) (c0 : Nat) (l : List S34) (p : S34 → Bool) (g : Nat) (lb : Array Value) (eg : ∀ args w, (callFunc g args).run Try.prog w = .ok (.enter g args) w) (w : World) (hr0 : Kd.C k34 w A0 l.length l) (hbig : l.length ≤ 4611686018427387904)
    (hp : ∀ (W : World) (x : S34), Below w.heap.size w W → Calls Try.prog g (#[entV4 x] ++ lb) W fun e w' => e = .returned (.bool (p x)) ∧ Below w.heap.size w w') :
    Calls Try.prog 27 #[.slice A0 l.length c0, .func (.func g) #[] lb] w fun e w' => e = .returned (.int .i64 (idxF p l 0)) ∧ Below w.heap.size w w' := by
  have hu := Try.underlying34
  have HR := Aside0.mk hr0
  have HP := Aside0.mk hp
  clear hr0 hp
  go_enter Try.func27, Try.ntmps27
  go_wp2
  go_loopg [5, 8] l.length (fun gg _ s8 wr => ∃ kk : Nat, kk ≤ l.length ∧ l.length - kk ≤ gg ∧ s8 = .int .i64 kk ∧ Aside0 (Below w.heap.size w wr) ∧ Aside0 (idxF p l 0 = idxF p (l.drop kk) kk))
  case atStart => exact ⟨0, Nat.zero_le _, by omega, rfl, ⟨Below.refl _ w⟩, ⟨rfl⟩⟩
  case round =>
    obtain ⟨kk, hkk, hg, rfl, BW, A⟩ := hrel
    by_cases hlt : kk < l.length
    · have hltz : (kk : Int) < (l.length : Int) := by omega
      obtain ⟨ad, hA, hx0, hx1, hx2, hx3⟩ := at_T34 (Kd.C_below HR.out BW.out) (kk : Int) (by omega) hltz
      subst hA
      rw [Int.toNat_natCast] at hx0 hx1 hx2 hx3
      have hcall := HP.out wr (rd_T34 l (kk : Int)) BW.out
      have hd := drop_rd l kk hlt
      have hA := A.out
      rw [hd] at hA
      have A := Aside0.mk hA
      clear hA hd
      generalize rd_T34 l (kk : Int) = y at hx0 hx1 hx2 hx3 hcall A
      unfold entV4 at hcall
      cases hq : p y with
      | true =>
        rw [hq] at hcall
        go_wp2_with (go_at_fn g; refine hcall.mono ?_; rintro e w' ⟨rfl, hb'⟩)
        go_ret
        refine ⟨?_, hb'⟩
        have := A.out
        simp only [idxF] at this
        rw [if_pos hq] at this
        rw [this]
        rfl
      | false =>
        rw [hq] at hcall
        go_wp2_with (go_at_fn g; refine hcall.mono ?_; rintro e w' ⟨rfl, hb'⟩)
        go_roundg (l.length - (kk + 1))
        case measure => omega
        case rel =>
          refine ⟨kk + 1, by omega, by omega, by go_num, ⟨hb'⟩, ⟨?_⟩⟩
          have := A.out
          simp only [idxF] at this
          rw [if_neg (by rw [hq]; decide)] at this
          exact this
    · have hltz : ¬ (kk : Int) < (l.length : Int) := by omega
      have : kk = l.length := by omega
      subst this
      go_wp2
      go_ret
      refine ⟨?_, BW.out⟩
      rw [A.out, List.drop_length]
      rfl
theorem cell_allocE {W : World} {a : Addr} {v : Value} (o : Obj) (h : W.cell? a = some v) : (W.alloc o).cell? a = some v := Lib.cell?_alloc_some _ h
/-- keys' closure: is its key another one than the first one's? -/
def keyNe (k : ByteArray) (x : S34) : Bool := x.f0.toList != k.toList
set_option maxHeartbeats 4000000 in
set_option maxRecDepth 100000 in
theorem keyNe_calls (bl : Nat) (A0 : Option Addr) (c0 : Nat) (l : List S34) (hn : 0 < l.length) (x : S34) (W : World) (hb : W.heap[bl]? = some (.cells #[.slice A0 l.length c0] 24 (0, 0))) (hr0 : Kd.C k34 W A0 l.length l) :
    Calls Try.prog 37 #[entV4 x, .pointer (some ⟨bl, 0, none⟩)] W fun e w' => e = .returned (.bool (keyNe (rd_T34 l 0).f0 x)) ∧ Below W.heap.size W w' := by
  have hu := Try.underlying34
  have BL := Aside0.mk hb
  have HL := Aside0.mk (Array.getElem?_eq_some_iff.1 hb).1
  have HB := Aside0.mk (Below.refl W.heap.size W)
  have hne : Aside0 (bl ≠ W.heap.size) := ⟨by have := HL.out; omega⟩
  obtain ⟨hcl, hfl⟩ := Zk1 BL
  obtain ⟨ad, hA, hx0, hx1, hx2, hx3⟩ := at_T34 hr0 0 (by omega) (by omega)
  subst hA
  rw [show (0 : Int).toNat * 4 = 0 from rfl] at hx0 hx1 hx2 hx3
  have hy0 : ∀ o : Obj, (W.alloc o).cell? ad = some (.string (rd_T34 l 0).f0) := fun o => by have h := cell_allocE o hx0; rwa [show ad.add 0 = ad from by unfold Addr.add; split <;> simp_all] at h
  have hz0 : ∀ o : Obj, (W.alloc o).cell? ⟨bl, 0, none⟩ = some (.slice (some ad) l.length c0) := fun o => cell_allocE o hcl
  have hnn : (0 < l.length) = True := eq_true hn
  clear hb hr0 hx0 hx1 hx2 hx3 hcl hfl
  unfold entV4 keyNe
  generalize rd_T34 l 0 = y at hy0 ⊢
  go_enter Try.func37, Try.ntmps37
  go_wp2
  go_quiet (fail)
  go_wp2
  go_ret
  exact ⟨rfl, pw_below_drewN ((Below.refl _ W).alloc (Nat.le_refl _) _) nq⟩
/-- Fold's closure: is its number at most so much? -/
def seqLe (s : Int) (x : S34) : Bool := decide (x.f1 ≤ s)
set_option maxHeartbeats 4000000 in
set_option maxRecDepth 100000 in
theorem seqLe_calls (bl : Nat) (s : Int) (x : S34) (W : World) (hb : W.heap[bl]? = some (.cells #[.int .i64 s] 3 (0, 0))) :
    Calls Try.prog 28 #[entV4 x, .pointer (some ⟨bl, 0, none⟩)] W fun e w' => e = .returned (.bool (seqLe s x)) ∧ Below W.heap.size W w' := by
  have hu := Try.underlying34
  have BL := Aside0.mk hb
  have HB := Aside0.mk (Below.refl W.heap.size W)
  obtain ⟨hcl, hfl⟩ := Zk1 BL
  have hz0 : ∀ o : Obj, (W.alloc o).cell? ⟨bl, 0, none⟩ = some (.int .i64 s) := fun o => cell_allocE o hcl
  clear hb hcl hfl
  unfold entV4 seqLe
  go_enter Try.func28, Try.ntmps28
  go_wp2
  go_ret
  exact ⟨rfl, (Below.refl _ W).alloc (Nat.le_refl _) _⟩
end Go.Proofs.Yteljlfodjbgejaa.Print
