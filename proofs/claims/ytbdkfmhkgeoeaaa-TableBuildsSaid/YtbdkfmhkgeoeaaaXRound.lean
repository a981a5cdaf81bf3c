/- Words of this session's own. -/
import Derived.Test.YtbdkfmhkgeoeaaaWAll
import Derived.OrdersIn
namespace Go.Proofs.YtbdkfmhkgeoeaaaX
open Go.RowKit Go.Proofs.YtbdkfmhkgeoeaaaW.PrintWords Go.Proofs.YtbdkfmhkgeoeaaaW.PrintLast
set_option linter.unusedVariables false
set_option linter.unusedSimpArgs false

/-! ## A region whose order is drawn, in a round of a range over a function: walked as anywhere, where no operation of it calls or defers -/
def plainOp : Op → Bool
  | .move _ | .assign _ | .load _ _ | .store _ _ _ | .binOp _ _ _ _ _ | .unOp _ _ _ | .convert _ _ _ | .indexAddr _ _ _ => true
  | _ => false
theorem run_v {P : Program} {w : World} (m : Sem Value) : (∃ h w', (do let x ← m; pure (Next.value x) : Sem Next).run P w = .halt h w') ∨ (∃ v w', (do let x ← m; pure (Next.value x) : Sem Next).run P w = .ok (.value v) w') := by
  simp only [Sem.run_bind, Sem.run_pure]
  cases m.run P w with
  | ok v w' => exact .inr ⟨v, w', rfl⟩
  | halt h w' => exact .inl ⟨h, w', rfl⟩
theorem run_u {P : Program} {w : World} (m : Sem Unit) : (∃ h w', (do m; pure Next.skip : Sem Next).run P w = .halt h w') ∨ (∃ w', (do m; pure Next.skip : Sem Next).run P w = .ok .skip w') := by
  simp only [Sem.run_bind, Sem.run_pure]
  cases m.run P w with
  | ok v w' => exact .inr ⟨w', rfl⟩
  | halt h w' => exact .inl ⟨h, w', rfl⟩
theorem plain_run {P : Program} (o : Oper) (h : plainOp o.op = true) (ρ : Operand → Value) (w : World) :
    (∃ q w', (execOp ρ o).run P w = .halt q w') ∨ (∃ v w', (execOp ρ o).run P w = .ok (.value v) w') ∨ (∃ w', (execOp ρ o).run P w = .ok .skip w') := by
  unfold execOp
  cases ho : o.op <;> rw [ho] at h <;> first | (cases h; done) | skip
  all_goals first
    | exact .inr (.inl ⟨_, _, rfl⟩)
    | exact (run_v _).elim .inl (fun h => .inr (.inl h))
    | exact (run_u _).elim .inl (fun h => .inr (.inr h))
section
variable {P : Program} {F : Fence} {n : Nat} {ops : Array Oper} {Q : Exit → Act → World → Prop} {md : Region.Mode}
theorem plain_about (o : Oper) (h : plainOp o.op = true) (w : World) (ρ : Operand → Value) : o.about P w ρ = none := by
  unfold Oper.about
  cases ho : o.op <;> rw [ho] at h <;> first | rfl | (cases h; done)
theorem plain_semAt (o : Oper) (h : plainOp o.op = true) (ro : Option Nat) (ρ : Operand → Value) : Oper.semAt ro ρ o = execOp ρ o :=
  Oper.semAt_eq ro ρ o (fun c e => by rw [e] at h; cases h)
theorem wpOpIn_of_plain (hp : ∀ (i : Nat) (o : Oper), ops[i]? = some o → plainOp o.op = true) (hQ : ¬ LetsOut Q) {i : Nat} {K K' : Act → World → Prop} {a : Act} {w : World} (hK : ∀ a w, K a w → K' a w) (h : wpOp P ops Q i K a w) : wpOpIn F n P ops Q i K' a w := by
  unfold wpOp at h
  unfold wpOpIn
  cases ho : ops[i]? with
  | none => rw [ho] at h; exact hK _ _ h
  | some o =>
    rw [ho] at h
    simp only at h ⊢
    have hpl := hp i o ho
    have hab : ∀ f, o.about P w a.eval = some f → F.fn f := fun f e => by rw [plain_about o hpl] at e; cases e
    split
    · rename_i hw
      rw [if_pos hw] at h
      rcases h with h | ⟨_, h⟩
      · refine ⟨hab, ?_⟩
        rw [plain_semAt o hpl]
        unfold Oper.wp at h
        rcases plain_run (P := P) o hpl a.eval w with ⟨q, w', e⟩ | ⟨v, w', e⟩ | ⟨w', e⟩
        · rw [e] at h ⊢
          cases q <;> first | exact h | exact h.elim
        · rw [e] at h ⊢
          exact hK _ _ h
        · rw [e] at h ⊢
          exact hK _ _ h
      · exact (hQ h).elim
    · rename_i hw
      rw [if_neg hw] at h
      exact ⟨hab, hK _ _ h⟩
theorem wpAnyIn_of_plain (hp : ∀ (i : Nat) (o : Oper), ops[i]? = some o → plainOp o.op = true) (hQ : ¬ LetsOut Q) : ∀ (fuel : Nat) (l : Array Bool) (a : Act) (w : World), wpAny P md ops Q fuel l a w → wpAnyIn F n P md ops Q fuel l a w := by
  intro fuel
  induction fuel with
  | zero => exact fun l a w h => h
  | succ fuel ih =>
    intro l a w h
    exact ⟨h.1, fun i hi => wpOpIn_of_plain hp hQ (fun a w => ih _ a w) (h.2 i hi)⟩
theorem startR_ {id m : Nat} {a : Act} {w : World} {S : World → Prop} {ds : List Nat} (l : Array Bool) (hm : P.follows .mixedOrders = true) (hp : ops.all (fun o => plainOp o.op) = true) (hQ : ¬ LetsOut Q) (hn : ops.size = m) (hl : Array.replicate m false = l) (hS : S w.drew)
    (h : S w.drew → wpAnyLast P .any ops Q S ds m l a w.drew) : (Code.region id ops true).wpIn F n P Q a w := by
  subst hn
  subst hl
  refine wpIn_region_any hm (wpAnyIn_of_plain (fun i o hi => ?_) hQ _ _ _ _ (wpAny_of_last _ _ _ _ (h hS)))
  rw [Array.all_eq_true] at hp
  obtain ⟨hlt, rfl⟩ := Array.getElem?_eq_some_iff.1 hi
  exact hp i hlt
end
end Go.Proofs.YtbdkfmhkgeoeaaaX
