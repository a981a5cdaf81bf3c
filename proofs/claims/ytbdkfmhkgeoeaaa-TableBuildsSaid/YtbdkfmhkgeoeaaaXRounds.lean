/- Words of this session's own. -/
import Derived.Test.YtbdkfmhkgeoeaaaWAll
import Derived.OrdersIn
import Derived.Deep.Quiet
import Derived.Lib.QuietBelow
import Derived.RangeFuncCalls
namespace Go.Proofs.YtbdkfmhkgeoeaaaX
open Go.RowKit Go.Sort Go.Proofs.YtbdkfmhkgeoeaaaW.PrintWords Go.Proofs.YtbdkfmhkgeoeaaaW.PrintLast
set_option linter.unusedVariables false
set_option linter.unusedSimpArgs false

/-! ## A region whose order is drawn, in a round of a range over a function, whose operations may call: walked as anywhere, where none defers -/
def noDefer : Op → Bool
  | .defer _ => false
  | _ => true
theorem rowsIn_wideR {n : Nat} {P : Program} {row : String} {args : Array Value} {w : World} {R : Value → World → Prop} (l : Nat) (h : Rows P row args w R) : RowsIn (Fence.wide.inRound l) n P row args w R := fun c cs _ => by
  obtain ⟨v, w', r, s⟩ := h c cs
  exact ⟨v, w', r, stepsIn_wide.2 s⟩
section
variable {P : Program} {n : Nat} {ops : Array Oper} {Q : Exit → Act → World → Prop} {md : Region.Mode}
theorem uponIn_round (l : Nat) {o : Oper} {a : Act} {K K' : Act → World → Prop} (hK : ∀ a w, K a w → K' a w) (r : Result Next) (h : o.upon P a K Q r) : o.uponIn (Fence.wide.inRound l) n P a K' Q r := by
  cases r with
  | halt q w' => cases q <;> first | exact h | exact h.elim
  | ok x w' =>
    cases x with
    | value v => exact hK _ _ h
    | skip => exact hK _ _ h
    | defer d => exact hK _ _ h
    | enter f args =>
      refine ⟨(fun e => by cases e), CallsIn.inRound l ((callsIn_wide (n := n - 1)).2 ((show Calls P f args w' _ from h).mono fun e w'' hh => ?_))⟩
      cases e with
      | returned v => exact hK _ _ hh
      | panicked c => exact hh
      | outgrown => exact hh
    | row rw args => exact ⟨(fun e => by cases e), (rowsIn_wideR l h).mono fun v w'' hh => hK _ _ hh⟩
    | _ => exact (show False from h).elim
theorem wpOpIn_round (l : Nat) (hp : ∀ (i : Nat) (o : Oper), ops[i]? = some o → noDefer o.op = true) (hQ : ¬ LetsOut Q) {i : Nat} {K K' : Act → World → Prop} {a : Act} {w : World} (hK : ∀ a w, K a w → K' a w) (h : wpOp P ops Q i K a w) : wpOpIn (Fence.wide.inRound l) n P ops Q i K' a w := by
  unfold wpOp at h
  unfold wpOpIn
  cases ho : ops[i]? with
  | none => rw [ho] at h; exact hK _ _ h
  | some o =>
    rw [ho] at h
    simp only at h ⊢
    have hpl := hp i o ho
    have hs : Oper.semAt (Fence.wide.inRound l).round a.eval o = execOp a.eval o := Oper.semAt_eq _ _ o (fun c e => by rw [e] at hpl; cases hpl)
    split
    · rename_i hw
      rw [if_pos hw] at h
      rcases h with h | ⟨_, h⟩
      · refine ⟨fun _ _ => trivial, ?_⟩
        rw [hs]
        exact uponIn_round l hK _ h
      · exact (hQ h).elim
    · rename_i hw
      rw [if_neg hw] at h
      exact ⟨fun _ _ => trivial, hK _ _ h⟩
theorem wpAnyIn_round (l : Nat) (hp : ∀ (i : Nat) (o : Oper), ops[i]? = some o → noDefer o.op = true) (hQ : ¬ LetsOut Q) : ∀ (fuel : Nat) (li : Array Bool) (a : Act) (w : World), wpAny P md ops Q fuel li a w → wpAnyIn (Fence.wide.inRound l) n P md ops Q fuel li a w := by
  intro fuel
  induction fuel with
  | zero => exact fun l a w h => h
  | succ fuel ih =>
    intro li a w h
    exact ⟨h.1, fun i hi => wpOpIn_round l hp hQ (fun a w => ih _ a w) (h.2 i hi)⟩
theorem all_noDefer (hp : ops.all (fun o => noDefer o.op) = true) (i : Nat) (o : Oper) (hi : ops[i]? = some o) : noDefer o.op = true := by
  rw [Array.all_eq_true] at hp
  obtain ⟨hlt, rfl⟩ := Array.getElem?_eq_some_iff.1 hi
  exact hp i hlt
theorem startC_ {id m : Nat} {a : Act} {w : World} {S : World → Prop} {ds : List Nat} {lp : Nat} (l : Array Bool) (hm : P.follows .mixedOrders = true) (hp : ops.all (fun o => noDefer o.op) = true) (hQ : ¬ LetsOut Q) (hn : ops.size = m) (hl : Array.replicate m false = l) (hS : S w.drew)
    (h : S w.drew → wpAnyLast P .any ops Q S ds m l a w.drew) : (Code.region id ops true).wpIn (Fence.wide.inRound lp) n P Q a w := by
  subst hn
  subst hl
  exact wpIn_region_any hm (wpAnyIn_round lp (all_noDefer hp) hQ _ _ _ _ (wpAny_of_last _ _ _ _ (h hS)))
end
end Go.Proofs.YtbdkfmhkgeoeaaaX
