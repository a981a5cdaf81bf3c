/- Contracts proved by hand: see the theorems' own lines. -/
import Derived.Deep.LoopGhost
import Derived.Test.YteljlfodjbgejaaHMergeIndex
import Derived.Test.YteljlfodjbgejaaPrint0
import Derived.Test.YteljlfodjbgejaaPrint4
import Derived.WalkKit
namespace Go.Proofs.Yteljlfodjbgejaa.Print
open Go.RowKit Go.Proofs.YteljlfodjbgejaaW.PrintWords Go.Proofs.YteljlfodjbgejaaW.PrintLast Go.Proofs.YteljlfodjbgejaaX
set_option linter.unusedVariables false
set_option linter.unusedSimpArgs false

theorem drop_rdL (l : List (List S34)) (i : Nat) (h : i < l.length) : l.drop i = rd_L4 l (i : Int) :: l.drop (i + 1) := by
  rw [List.drop_eq_getElem_cons h]
  unfold rd_L4
  rw [Int.toNat_natCast, List.getD_eq_getElem?_getD, List.getElem?_eq_getElem h]
  rfl
/-- What a predicate over lists is to say. -/
def PredL (g : Nat) (lb : Array Value) (p : List S34 → Bool) (ls : List (List S34)) (w : World) : Prop := ∀ (W : World) (A : Option Addr) (c : Nat) (x : List S34), x ∈ ls → Below w.heap.size w W → Kd.C k34 W A x.length x → x.length ≤ c → Calls Try.prog g (#[.slice A x.length c] ++ lb) W fun e w' => e = .returned (.bool (p x)) ∧ Below w.heap.size w w'
set_option maxHeartbeats 4000000 in
set_option maxRecDepth 100000 in
theorem indexList_calls (A0 : Option Addr) (c0 : Nat) (l : List (List S34)) (p : List S34 → Bool) (g : Nat) (lb : Array Value) (eg : ∀ args w, (callFunc g args).run Try.prog w = .ok (.enter g args) w) (w : World) (hr0 : Kd.C (Kd.slice 34 k34) w A0 l.length l) (hbig : l.length ≤ 4611686018427387904)
    (hp : PredL g lb p l w) :
    Calls Try.prog 34 #[.slice A0 l.length c0, .func (.func g) #[] lb] w fun e w' => e = .returned (.int .i64 (idxF p l 0)) ∧ Below w.heap.size w w' := by
  have HR := Aside0.mk hr0
  have HP := Aside0.mk hp
  clear hr0 hp
  go_enter Try.func34, Try.ntmps34
  go_wp2
  go_loopg [5, 8] l.length (fun gg _ s8 wr => ∃ kk : Nat, kk ≤ l.length ∧ l.length - kk ≤ gg ∧ s8 = .int .i64 kk ∧ Aside0 (Below w.heap.size w wr) ∧ Aside0 (idxF p l 0 = idxF p (l.drop kk) kk))
  case atStart => exact ⟨0, Nat.zero_le _, by omega, rfl, ⟨Below.refl _ w⟩, ⟨rfl⟩⟩
  case round =>
    obtain ⟨kk, hkk, hg, rfl, BW, A⟩ := hrel
    by_cases hlt : kk < l.length
    · have hltz : (kk : Int) < (l.length : Int) := by omega
      obtain ⟨ad, A1, c1, hA, hx0, hx1, hx2⟩ := at_L4 (Kd.C_below HR.out BW.out) (kk : Int) (by omega) hltz
      subst hA
      rw [Int.toNat_natCast] at hx0
      have hd := drop_rdL l kk hlt
      have hcall := HP.out wr A1 c1 (rd_L4 l (kk : Int)) (List.mem_of_mem_drop (show _ ∈ l.drop kk by rw [hd]; exact List.mem_cons_self)) BW.out hx2 hx1
      have hA := A.out
      rw [hd] at hA
      have A := Aside0.mk hA
      clear hA hd hx1 hx2
      generalize rd_L4 l (kk : Int) = y at hx0 hcall A
      cases hq : p y with
      | true =>
        rw [hq] at hcall
        go_wp2_with (go_at_fn g; refine hcall.mono ?_; rintro e w' ⟨rfl, hb'⟩)
        go_ret
        refine ⟨?_, hb'⟩
        have := A.out
        simp only [idxF] at this
        rw [if_pos hq] at this
        rw [this]
        rfl
      | false =>
        rw [hq] at hcall
        go_wp2_with (go_at_fn g; refine hcall.mono ?_; rintro e w' ⟨rfl, hb'⟩)
        go_roundg (l.length - (kk + 1))
        case measure => omega
        case rel =>
          refine ⟨kk + 1, by omega, by omega, by go_num, ⟨hb'⟩, ⟨?_⟩⟩
          have := A.out
          simp only [idxF] at this
          rw [if_neg (by rw [hq]; decide)] at this
          exact this
    · have hltz : ¬ (kk : Int) < (l.length : Int) := by omega
      have : kk = l.length := by omega
      subst this
      go_wp2
      go_ret
      refine ⟨?_, BW.out⟩
      rw [A.out, List.drop_length]
      rfl
theorem idxF_any {α : Type} (p : α → Bool) : ∀ (l : List α) (i : Nat), decide (0 ≤ idxF p l i) = l.any p := by
  intro l
  induction l with
  | nil => intro i; rfl
  | cons x l ih =>
    intro i
    rw [List.any_cons]
    by_cases h : p x = true
    · have e : idxF p (x :: l) i = (i : Int) := by simp only [idxF]; rw [if_pos h]
      rw [e, h, decide_eq_true (by omega)]; rfl
    · have e : idxF p (x :: l) i = idxF p l (i + 1) := by simp only [idxF]; rw [if_neg h]
      rw [e, ih, Bool.eq_false_iff.2 h]; rfl
set_option maxHeartbeats 4000000 in
set_option maxRecDepth 100000 in
theorem anyList_calls (A0 : Option Addr) (c0 : Nat) (l : List (List S34)) (p : List S34 → Bool) (g : Nat) (lb : Array Value) (eg : ∀ args w, (callFunc g args).run Try.prog w = .ok (.enter g args) w) (w : World) (hr0 : Kd.C (Kd.slice 34 k34) w A0 l.length l) (hbig : l.length ≤ 4611686018427387904)
    (hp : PredL g lb p l w) :
    Calls Try.prog 23 #[.slice A0 l.length c0, .func (.func g) #[] lb] w fun e w' => e = .returned (.bool (l.any p)) ∧ Below w.heap.size w w' := by
  have hc := indexList_calls A0 c0 l p g lb eg w hr0 hbig hp
  rw [← idxF_any p l 0]
  generalize idxF p l 0 = r at hc ⊢
  clear hr0 hp
  go_enter Try.func23, Try.ntmps23
  go_wp2_with (go_at_call 34; refine hc.mono ?_; rintro e w' ⟨rfl, hb'⟩)
  go_ret
  exact ⟨rfl, hb'⟩
/-- Merge's closure: is a list not sorted? -/
theorem notSorted_calls (k : Nat) (ls : List (List S34)) (p : List S34 → Bool) (w : World) (h : ∀ x ∈ ls, block_Sorted.f k x = some (p x)) : PredL 24 #[] (fun x => !p x) ls w := by
  intro W A c x hx hb hr hc
  have hs := block_Sorted.calls k A c x (p x) W hr hc (h x hx)
  show Calls Try.prog 24 #[.slice A x.length c] W fun e w' => e = .returned (.bool (!p x)) ∧ Below w.heap.size w w'
  clear hr hc h hx
  generalize p x = r at hs ⊢
  go_enter Try.func24, Try.ntmps24
  go_wp2_with (go_at_call 19; refine hs.mono ?_; rintro e w' ⟨rfl, hb'⟩)
  go_ret
  exact ⟨rfl, below_step hb hb'⟩
end Go.Proofs.Yteljlfodjbgejaa.Print
