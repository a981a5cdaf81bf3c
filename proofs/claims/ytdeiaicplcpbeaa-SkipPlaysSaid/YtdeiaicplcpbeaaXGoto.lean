/- Words of this session's own. -/
import Derived.ScopeJumps
import Derived.WalkMore
namespace Go.Proofs.YtdeiaicplcpbeaaX
section
variable {P : Program} {a : Act} {w : World} {Q : Exit → Act → World → Prop}
/-- A scope whose label is only jumped to from ahead of it: at each jump the walk goes on with what stands behind the label. -/
theorem wp_scope_fwd {c rest : Code} (l : Nat) (hf : findLabel c l = some rest)
    (first : c.wp P (Exit.jump l (fun a w => rest.wp P (Exit.jump l (fun _ _ => False) Q) a w) Q) a w) : (Code.scope c).wp P Q a w :=
  wp_scope_jumps l (fun a w => rest.wp P (Exit.jump l (fun _ _ => False) Q) a w) (fun _ _ => 0) hf first (fun a w h => wp_mono h fun e a' w' hq => by
    cases e <;> first | exact hq | exact hq.2.elim)
theorem jump_goto {l : Nat} {J : Act → World → Prop} (h : J a w) : Exit.jump l J Q (.goto l) a w := ⟨rfl, h⟩
theorem jump_normal {l : Nat} {J : Act → World → Prop} : Exit.jump l J Q .normal a w = Q .normal a w := rfl
theorem jump_exit {l id : Nat} {J : Act → World → Prop} : Exit.jump l J Q (.exit id) a w = Q (.exit id) a w := rfl
theorem jump_ret {l : Nat} {J : Act → World → Prop} : Exit.jump l J Q .ret a w = Q .ret a w := rfl
theorem jump_panic {l : Nat} {J : Act → World → Prop} {ch : List PanicEntry} : Exit.jump l J Q (.panic ch) a w = Q (.panic ch) a w := rfl
end
end Go.Proofs.YtdeiaicplcpbeaaX
