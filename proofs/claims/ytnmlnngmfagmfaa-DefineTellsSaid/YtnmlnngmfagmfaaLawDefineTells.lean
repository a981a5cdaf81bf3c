-- Printed out of the translation by a program of this session's own. Not trusted: Lean checks it.
import Derived.Test.YtnmlnngmfagmfaaRows
import Derived.Test.YtnmlnngmfagmfaaPrint7
import Derived.Test.YtnmlnngmfagmfaaPureDefineTells
import Derived.Test.YtnmlnngmfagmfaaXRead
import Derived.WalkKit
import Derived.ProofKit
import Derived.OpenShut
import Derived.ShutString
import Derived.ChangeOld
import Derived.Below
import Derived.SizedLaws
import Derived.KernelRfl
namespace Go.Proofs.Ytnmlnngmfagmfaa.defineTells
open Go.ChangeShapes Go.WideShapes Go.ChangeAt Go.RowKit Go.Proofs.Ytnmlnngmfagmfaa Go.Proofs.Ytnmlnngmfagmfaa.Print Go.Proofs.YtnmlnngmfagmfaaX Go.Proofs.YtnmlnngmfagmfaaW.PrintWords
open Go.ChangeMaps (open_string shut_string)
set_option linter.unusedVariables false
set_option linter.unusedSimpArgs false
theorem own : ownKnob Try.prog.godebug = none := by kernel_rfl
theorem laidOut : laidOutB Try.prog = true := by kernel_rfl
theorem Rd_t9 : Rd Try.prog 9 Kd.string (fun s : ByteArray => s.size ≤ 140737488351232) := Rd_string Try.underlying9
theorem Rd_t3 : Rd Try.prog 3 (Kd.int .i64) (fun n : Int => (Lit.int .i64 n).wf = true) := Rd_int Try.underlying3
theorem Rd_t43 : Rd Try.prog 43 k43 V43 := by
  intro H enc w fuel cs d ps hf hw
  obtain ⟨xs, n, _, hx, hlen, hxl, hg⟩ := DataW.trod_struct Try.underlying43 hf
  obtain ⟨rfl, _⟩ := Prod.mk.inj hx
  simp only [DataW.weights, Try.underlying43] at hw
  have hC : Try.prog.cellsOf 43 = 2 := by kernel_rfl
  rw [hC] at hlen
  have e3 : Try.prog.cellsOf 3 = 1 := by kernel_rfl
  match cs, hlen, xs, hxl with
  | [c0, c1], _, [y0, y1], _ =>
    obtain ⟨z0, K0, W0⟩ := Rd_t3 H enc w n [c0] y0.1 y0.2 (by simpa [e3] using hg 0 _ rfl) (fun q hq => hw q (weightsEach_mem (j := 0) rfl rfl q hq))
    obtain ⟨z1, K1, W1⟩ := Rd_t3 H enc w n [c1] y1.1 y1.2 (by simpa [e3] using hg 1 _ rfl) (fun q hq => hw q (weightsEach_mem (j := 1) rfl rfl q hq))
    exact ⟨⟨z0, z1⟩, ⟨[c0], [c1], rfl, K0, K1⟩, ⟨W0, W1⟩⟩
theorem Rd_t22 : Rd Try.prog 22 (Kd.slice 43 k43) (fun l : List (S43) => l.length ≤ maxLen ∧ l.length * 16 ≤ 140737488351232 ∧ ∀ x ∈ l, V43 x) := Rd_slice Try.underlying22 (by kernel_rfl) (by kernel_rfl) Rd_t43
theorem Rd_t24 : Rd Try.prog 24 k24 V24 := by
  intro H enc w fuel cs d ps hf hw
  obtain ⟨xs, n, _, hx, hlen, hxl, hg⟩ := DataW.trod_struct Try.underlying24 hf
  obtain ⟨rfl, _⟩ := Prod.mk.inj hx
  simp only [DataW.weights, Try.underlying24] at hw
  have hC : Try.prog.cellsOf 24 = 2 := by kernel_rfl
  rw [hC] at hlen
  have e9 : Try.prog.cellsOf 9 = 1 := by kernel_rfl
  have e22 : Try.prog.cellsOf 22 = 1 := by kernel_rfl
  match cs, hlen, xs, hxl with
  | [c0, c1], _, [y0, y1], _ =>
    obtain ⟨z0, K0, W0⟩ := Rd_t9 H enc w n [c0] y0.1 y0.2 (by simpa [e9] using hg 0 _ rfl) (fun q hq => hw q (weightsEach_mem (j := 0) rfl rfl q hq))
    obtain ⟨z1, K1, W1⟩ := Rd_t22 H enc w n [c1] y1.1 y1.2 (by simpa [e22] using hg 1 _ rfl) (fun q hq => hw q (weightsEach_mem (j := 1) rfl rfl q hq))
    exact ⟨⟨z0, z1⟩, ⟨[c0], [c1], rfl, K0, K1⟩, ⟨W0, W1⟩⟩
set_option maxRecDepth 100000 in
theorem lifted (os : Os) (started : os.Started) (H : Type) (enc : TypeId × Value → H) :
    ReturnsInHanded {} Try.checked os 3 .any (Rows.defineTellsSpec.pre6 enc Try.prog Try.f3 Rows.defineTellsRow.domain false) (Rows.defineTellsSpec.post enc Try.prog Try.f3 false true false false) := by
  refine returnsInHanded_of_change_sized (C := Try.checked) own started (by kernel_rfl) Try.func3
    (ChangeSpec.witness6 (enc := enc) (C := Try.checked) false ⟨#[], #[.string ByteArray.empty, .agg #[.string ByteArray.empty, .slice none 0 0]], []⟩ 8 (by kernel_rfl) (by kernel_rfl) (by kernel_rfl) (by kernel_rfl)) ?_
  intro W base args ds gs before hval0 hW hcnd hsz0 _
  have hsz : (DataW.weightsEach Try.prog (Try.f3.params.toList ++ Rows.defineTellsSpec.plain.varTypes Try.prog) (ds ++ gs)).all (· ≤ reachBytes) = true := hsz0
  have hval : ∀ (j : Nat) t v, Try.f3.params[j]? = some t → args[j]? = some v → Value.okWide Try.prog W .any base t v := hval0
  have hW' := hW
  obtain ⟨p, q, hA0, hV, rfl, hfz, hnd⟩ := hW
  have hA : DataW.TrodAll enc Try.prog W 0 (fun _ => true) true Try.f3.params.toList args.toList ds p := hA0
  rw [Try.params3] at hA hval hsz
  obtain ⟨v0, vs0, d0, ds0, p0, q0, hargs, rfl, rfl, h0, r0⟩ := trodAll_cons hA
  obtain ⟨v1, vs1, d1, ds1, p1, q1, rfl, rfl, rfl, h1, r1⟩ := trodAll_cons r0
  obtain ⟨rfl, rfl, rfl⟩ := trodAll_nil r1
  obtain rfl : args = #[v0, v1] := by cases args; simp_all
  obtain ⟨rfl, rfl⟩ := trodVars_none hV
  obtain ⟨a0, rfl, rfl, rfl, y0⟩ := open_string Try.underlying9 (hval 0 9 v0 rfl rfl) h0
  have w0 : a0.size ≤ 140737488351232 := by
    have z := sized_string hsz (j := 0) (t := 9) rfl rfl
    rw [Array.length_toList] at z
    exact z
  obtain ⟨cs1, rfl, hcs1⟩ := okWide_struct Try.underlying24 (hval 1 24 v1 rfl rfl)
  have k1 := h1
  have lt1 : ∀ x ∈ p1, x.block < W.heap.size := by obtain ⟨m, hm⟩ := k1; exact DataW.trod_lt m _ _ _ hm
  obtain ⟨y1, KK1, w1⟩ := Rd_t24.arg hsz (j := 1) rfl rfl h1
  obtain ⟨A1_1, c1_1, he1, hc1_1, hr1_1⟩ := k24_open KK1
  obtain rfl : cs1 = #[.string y1.f0, .slice A1_1 (y1.f1).length c1_1] := by
    have h_ := congrArg List.toArray he1
    simpa [Value.cells] using h_
  obtain ⟨w1_0, w1_1⟩ := w1
  refine (Print.palinodelaw18_DefineTells.walk Pure.DefineTells a0 y1.f0 _ _ y1.f1 W w0 w1_0 hr1_1 hc1_1 w1_1).mono fun e W' ⟨he, bel⟩ => ?_
  subst he
  exact ⟨_, rfl, _, _, _, [], _, [], hW', trodAll_mk1 (shut_bool Try.underlying4 _), (trodAll_cons_mk (shut_string Try.underlying9 y0) (trodAll_cons_mk (Below.trod laidOut (by kernel_rfl) (of_decide_eq_true (by kernel_rfl)) k1 bel lt1) trodAll_mk0)), rfl, bel.frame _, fun h => by cases h⟩
theorem over : Rows.defineTellsRow.holds Try.pinned (OpenSpec.ofChange Rows.defineTellsSpec) :=
  OpenClaim.holds_of_wide 3 Try.f3 rfl rfl rfl rfl rfl rfl rfl ⟨rfl, rfl, rfl, rfl, rfl⟩ rfl rfl rfl rfl rfl (by kernel_rfl) Try.func3 (by kernel_rfl)
    (of_decide_eq_true (by kernel_rfl)) (by unfold Func.isWrapper; first | (rw [if_pos (by decide +kernel)]; kernel_rfl) | (rw [if_neg (by decide +kernel)]; exact ⟨rfl, rfl⟩))
    (fun os started H enc _ => lifted os started H enc)
theorem proved : Rows.DefineTellsSaid := over
#print axioms proved
end Go.Proofs.Ytnmlnngmfagmfaa.defineTells
namespace Go.Proofs.Ytnmlnngmfagmfaa
/-- The row, under a short name, for the claim. -/
theorem defineTells_holds : Rows.DefineTellsSaid := defineTells.proved
end Go.Proofs.Ytnmlnngmfagmfaa
