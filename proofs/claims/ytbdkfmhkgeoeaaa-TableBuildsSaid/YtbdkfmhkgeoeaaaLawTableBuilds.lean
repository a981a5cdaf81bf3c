-- Printed out of the translation by a program of this session's own. Not trusted: Lean checks it.
import Derived.Test.YtbdkfmhkgeoeaaaRows
import Derived.Test.YtbdkfmhkgeoeaaaPrint0
import Derived.Test.YtbdkfmhkgeoeaaaPureTableBuilds
import Derived.Test.YtbdkfmhkgeoeaaaXRead
import Derived.WalkKit
import Derived.ProofKit
import Derived.OpenShut
import Derived.ShutString
import Derived.ChangeOld
import Derived.Below
import Derived.SizedLaws
import Derived.KernelRfl
namespace Go.Proofs.Ytbdkfmhkgeoeaaa.tableBuilds
open Go.ChangeShapes Go.WideShapes Go.ChangeAt Go.RowKit Go.Proofs.Ytbdkfmhkgeoeaaa Go.Proofs.Ytbdkfmhkgeoeaaa.Print Go.Proofs.YtbdkfmhkgeoeaaaX Go.Proofs.YtbdkfmhkgeoeaaaW.PrintWords
open Go.ChangeMaps (open_string shut_string)
set_option linter.unusedVariables false
set_option linter.unusedSimpArgs false
theorem own : ownKnob Try.prog.godebug = none := by kernel_rfl
theorem laidOut : laidOutB Try.prog = true := by kernel_rfl
theorem Rd_t9 : Rd Try.prog 9 Kd.string (fun s : ByteArray => s.size ≤ 140737488351232) := Rd_string Try.underlying9
theorem Rd_t3 : Rd Try.prog 3 (Kd.int .i64) (fun n : Int => (Lit.int .i64 n).wf = true) := Rd_int Try.underlying3
theorem Rd_t4 : Rd Try.prog 4 Kd.bool (fun _ : Bool => True) := Rd_bool Try.underlying4
set_option maxRecDepth 100000 in
theorem Rd_t36 : Rd Try.prog 36 k36 V36 := by
  intro H enc w fuel cs d ps hf hw
  obtain ⟨xs, n, _, hx, hlen, hxl, hg⟩ := DataW.trod_struct Try.underlying36 hf
  obtain ⟨rfl, _⟩ := Prod.mk.inj hx
  simp only [DataW.weights, Try.underlying36] at hw
  have hC : Try.prog.cellsOf 36 = 4 := by kernel_rfl
  rw [hC] at hlen
  have e3 : Try.prog.cellsOf 3 = 1 := by kernel_rfl
  have e4 : Try.prog.cellsOf 4 = 1 := by kernel_rfl
  have e9 : Try.prog.cellsOf 9 = 1 := by kernel_rfl
  match cs, hlen, xs, hxl with
  | [c0, c1, c2, c3], _, [y0, y1, y2, y3], _ =>
    obtain ⟨z0, K0, W0⟩ := Rd_t9 H enc w n [c0] y0.1 y0.2 (by simpa [e9] using hg 0 _ rfl) (fun q hq => hw q (weightsEach_mem (j := 0) rfl rfl q hq))
    obtain ⟨z1, K1, W1⟩ := Rd_t3 H enc w n [c1] y1.1 y1.2 (by simpa [e3] using hg 1 _ rfl) (fun q hq => hw q (weightsEach_mem (j := 1) rfl rfl q hq))
    obtain ⟨z2, K2, W2⟩ := Rd_t4 H enc w n [c2] y2.1 y2.2 (by simpa [e4] using hg 2 _ rfl) (fun q hq => hw q (weightsEach_mem (j := 2) rfl rfl q hq))
    obtain ⟨z3, K3, W3⟩ := Rd_t9 H enc w n [c3] y3.1 y3.2 (by simpa [e9] using hg 3 _ rfl) (fun q hq => hw q (weightsEach_mem (j := 3) rfl rfl q hq))
    exact ⟨⟨z0, z1, z2, z3⟩, ⟨[c0], [c1, c2, c3], rfl, K0, ⟨[c1], [c2, c3], rfl, K1, ⟨[c2], [c3], rfl, K2, K3⟩⟩⟩, ⟨W0, W1, W3⟩⟩
theorem Rd_t22 : Rd Try.prog 22 (Kd.slice 36 k36) (fun l : List (S36) => l.length ≤ maxLen ∧ l.length * 48 ≤ 140737488351232 ∧ ∀ x ∈ l, V36 x) := Rd_slice Try.underlying22 (by kernel_rfl) (by kernel_rfl) Rd_t36
set_option maxRecDepth 100000 in
theorem lifted (os : Os) (started : os.Started) (H : Type) (enc : TypeId × Value → H) :
    ReturnsInHanded {} Try.checked os 3 .any (Rows.tableBuildsSpec.pre6 enc Try.prog Try.f3 Rows.tableBuildsRow.domain false) (Rows.tableBuildsSpec.post enc Try.prog Try.f3 false true false false) := by
  refine returnsInHanded_of_change_sized (C := Try.checked) own started (by kernel_rfl) Try.func3
    (ChangeSpec.witness6 (enc := enc) (C := Try.checked) false ⟨#[], #[.slice none 0 0, .int .i64 0, .int .i64 0], []⟩ 8 (by kernel_rfl) (by kernel_rfl) (by kernel_rfl) (by kernel_rfl)) ?_
  intro W base args ds gs before hval0 hW hcnd hsz0 _
  have hsz : (DataW.weightsEach Try.prog (Try.f3.params.toList ++ Rows.tableBuildsSpec.plain.varTypes Try.prog) (ds ++ gs)).all (· ≤ reachBytes) = true := hsz0
  have hval : ∀ (j : Nat) t v, Try.f3.params[j]? = some t → args[j]? = some v → Value.okWide Try.prog W .any base t v := hval0
  have hW' := hW
  obtain ⟨p, q, hA0, hV, rfl, hfz, hnd⟩ := hW
  have hA : DataW.TrodAll enc Try.prog W 0 (fun _ => true) true Try.f3.params.toList args.toList ds p := hA0
  rw [Try.params3] at hA hval hsz
  obtain ⟨v0, vs0, d0, ds0, p0, q0, hargs, rfl, rfl, h0, r0⟩ := trodAll_cons hA
  obtain ⟨v1, vs1, d1, ds1, p1, q1, rfl, rfl, rfl, h1, r1⟩ := trodAll_cons r0
  obtain ⟨v2, vs2, d2, ds2, p2, q2, rfl, rfl, rfl, h2, r2⟩ := trodAll_cons r1
  obtain ⟨rfl, rfl, rfl⟩ := trodAll_nil r2
  obtain rfl : args = #[v0, v1, v2] := by cases args; simp_all
  obtain ⟨rfl, rfl⟩ := trodVars_none hV
  obtain ⟨a0, len0, cap0, rfl⟩ := okWide_slice Try.underlying22 (hval 0 22 v0 rfl rfl)
  have k0 := h0
  have lt0 : ∀ x ∈ p0, x.block < W.heap.size := by obtain ⟨m, hm⟩ := k0; exact DataW.trod_lt m _ _ _ hm
  obtain ⟨l0, KK0, w0⟩ := Rd_t22.arg hsz (j := 0) rfl rfl h0
  obtain ⟨A0, c0, he0, hc0, hr0⟩ := KK0
  simp [Value.cells] at he0
  obtain ⟨rfl, rfl, rfl⟩ := he0
  obtain ⟨a1, rfl, rfl, rfl, w1⟩ := open_int Try.underlying3 (hval 1 3 v1 rfl rfl) h1
  obtain ⟨a2, rfl, rfl, rfl, w2⟩ := open_int Try.underlying3 (hval 2 3 v2 rfl rfl) h2
  refine (Pure.tableBuildsWalk _ _ l0 a1 a2 W hr0 hc0 w0 w1 w2).mono fun e W' ⟨he, bel⟩ => ?_
  subst he
  exact ⟨_, rfl, _, _, _, [], _, [], hW', trodAll_mk1 (shut_bool Try.underlying4 _), (trodAll_cons_mk (Below.trod laidOut (by kernel_rfl) (of_decide_eq_true (by kernel_rfl)) k0 bel lt0) (trodAll_cons_mk (shut_int Try.underlying3 w1) (trodAll_cons_mk (shut_int Try.underlying3 w2) trodAll_mk0))), rfl, bel.frame _, fun h => by cases h⟩
theorem over : Rows.tableBuildsRow.holds Try.pinned (OpenSpec.ofChange Rows.tableBuildsSpec) :=
  OpenClaim.holds_of_wide 3 Try.f3 rfl rfl rfl rfl rfl rfl rfl ⟨rfl, rfl, rfl, rfl, rfl⟩ rfl rfl rfl rfl rfl (by kernel_rfl) Try.func3 (by kernel_rfl)
    (of_decide_eq_true (by kernel_rfl)) (by unfold Func.isWrapper; first | (rw [if_pos (by decide +kernel)]; kernel_rfl) | (rw [if_neg (by decide +kernel)]; exact ⟨rfl, rfl⟩))
    (fun os started H enc _ => lifted os started H enc)
theorem proved : Rows.TableBuildsSaid := over
#print axioms proved
end Go.Proofs.Ytbdkfmhkgeoeaaa.tableBuilds
namespace Go.Proofs.Ytbdkfmhkgeoeaaa
/-- The row, under a short name, for the claim. -/
theorem tableBuilds_holds : Rows.TableBuildsSaid := tableBuilds.proved
end Go.Proofs.Ytbdkfmhkgeoeaaa
