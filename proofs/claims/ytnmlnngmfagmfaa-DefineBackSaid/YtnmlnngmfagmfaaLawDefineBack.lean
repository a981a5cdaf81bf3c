-- Printed out of the translation by a program of this session's own. Not trusted: Lean checks it.
import Derived.Test.YtnmlnngmfagmfaaRows
import Derived.Test.YtnmlnngmfagmfaaPrint11
import Derived.Test.YtnmlnngmfagmfaaPureDefineBack
import Derived.Test.YtnmlnngmfagmfaaXRead
import Derived.WalkKit
import Derived.ProofKit
import Derived.OpenShut
import Derived.ShutString
import Derived.ChangeOld
import Derived.Below
import Derived.SizedLaws
import Derived.KernelRfl
namespace Go.Proofs.Ytnmlnngmfagmfaa.defineBack
open Go.ChangeShapes Go.WideShapes Go.ChangeAt Go.RowKit Go.Proofs.Ytnmlnngmfagmfaa Go.Proofs.Ytnmlnngmfagmfaa.Print Go.Proofs.YtnmlnngmfagmfaaX Go.Proofs.YtnmlnngmfagmfaaW.PrintWords
open Go.ChangeMaps (open_string shut_string)
set_option linter.unusedVariables false
set_option linter.unusedSimpArgs false
theorem own : ownKnob Try.prog.godebug = none := by kernel_rfl
theorem laidOut : laidOutB Try.prog = true := by kernel_rfl
theorem Rd_t9 : Rd Try.prog 9 Kd.string (fun s : ByteArray => s.size ≤ 140737488351232) := Rd_string Try.underlying9
theorem Rd_t3 : Rd Try.prog 3 (Kd.int .i64) (fun n : Int => (Lit.int .i64 n).wf = true) := Rd_int Try.underlying3
theorem Rd_t43 : Rd Try.prog 43 k43 V43 := by
  intro H enc w fuel cs d ps hf hw
  obtain ⟨xs, n, _, hx, hlen, hxl, hg⟩ := DataW.trod_struct Try.underlying43 hf
  obtain ⟨rfl, _⟩ := Prod.mk.inj hx
  simp only [DataW.weights, Try.underlying43] at hw
  have hC : Try.prog.cellsOf 43 = 2 := by kernel_rfl
  rw [hC] at hlen
  have e3 : Try.prog.cellsOf 3 = 1 := by kernel_rfl
  match cs, hlen, xs, hxl with
  | [c0, c1], _, [y0, y1], _ =>
    obtain ⟨z0, K0, W0⟩ := Rd_t3 H enc w n [c0] y0.1 y0.2 (by simpa [e3] using hg 0 _ rfl) (fun q hq => hw q (weightsEach_mem (j := 0) rfl rfl q hq))
    obtain ⟨z1, K1, W1⟩ := Rd_t3 H enc w n [c1] y1.1 y1.2 (by simpa [e3] using hg 1 _ rfl) (fun q hq => hw q (weightsEach_mem (j := 1) rfl rfl q hq))
    exact ⟨⟨z0, z1⟩, ⟨[c0], [c1], rfl, K0, K1⟩, ⟨W0, W1⟩⟩
theorem Rd_t22 : Rd Try.prog 22 (Kd.slice 43 k43) (fun l : List (S43) => l.length ≤ maxLen ∧ l.length * 16 ≤ 140737488351232 ∧ ∀ x ∈ l, V43 x) := Rd_slice Try.underlying22 (by kernel_rfl) (by kernel_rfl) Rd_t43
theorem Rd_t24 : Rd Try.prog 24 k24 V24 := by
  intro H enc w fuel cs d ps hf hw
  obtain ⟨xs, n, _, hx, hlen, hxl, hg⟩ := DataW.trod_struct Try.underlying24 hf
  obtain ⟨rfl, _⟩ := Prod.mk.inj hx
  simp only [DataW.weights, Try.underlying24] at hw
  have hC : Try.prog.cellsOf 24 = 2 := by kernel_rfl
  rw [hC] at hlen
  have e9 : Try.prog.cellsOf 9 = 1 := by kernel_rfl
  have e22 : Try.prog.cellsOf 22 = 1 := by kernel_rfl
  match cs, hlen, xs, hxl with
  | [c0, c1], _, [y0, y1], _ =>
    obtain ⟨z0, K0, W0⟩ := Rd_t9 H enc w n [c0] y0.1 y0.2 (by simpa [e9] using hg 0 _ rfl) (fun q hq => hw q (weightsEach_mem (j := 0) rfl rfl q hq))
    obtain ⟨z1, K1, W1⟩ := Rd_t22 H enc w n [c1] y1.1 y1.2 (by simpa [e22] using hg 1 _ rfl) (fun q hq => hw q (weightsEach_mem (j := 1) rfl rfl q hq))
    exact ⟨⟨z0, z1⟩, ⟨[c0], [c1], rfl, K0, K1⟩, ⟨W0, W1⟩⟩
set_option maxRecDepth 100000 in
theorem lifted (os : Os) (started : os.Started) (H : Type) (enc : TypeId × Value → H) :
    ReturnsInHanded {} Try.checked os 5 .any (Rows.defineBackSpec.pre6 enc Try.prog Try.f5 Rows.defineBackRow.domain false) (Rows.defineBackSpec.post enc Try.prog Try.f5 false true false false) := by
  refine returnsInHanded_of_change_sized (C := Try.checked) own started (by kernel_rfl) Try.func5
    (ChangeSpec.witness6 (enc := enc) (C := Try.checked) false ⟨#[], #[.agg #[.string ByteArray.empty, .slice none 0 0], .string ByteArray.empty, .int .i64 0, .string ByteArray.empty], []⟩ 8 (by kernel_rfl) (by kernel_rfl) (by kernel_rfl) (by kernel_rfl)) ?_
  intro W base args ds gs before hval0 hW hcnd hsz0 _
  have hsz : (DataW.weightsEach Try.prog (Try.f5.params.toList ++ Rows.defineBackSpec.plain.varTypes Try.prog) (ds ++ gs)).all (· ≤ reachBytes) = true := hsz0
  have hval : ∀ (j : Nat) t v, Try.f5.params[j]? = some t → args[j]? = some v → Value.okWide Try.prog W .any base t v := hval0
  have hW' := hW
  obtain ⟨p, q, hA0, hV, rfl, hfz, hnd⟩ := hW
  have hA : DataW.TrodAll enc Try.prog W 0 (fun _ => true) true Try.f5.params.toList args.toList ds p := hA0
  rw [Try.params5] at hA hval hsz
  obtain ⟨v0, vs0, d0, ds0, p0, q0, hargs, rfl, rfl, h0, r0⟩ := trodAll_cons hA
  obtain ⟨v1, vs1, d1, ds1, p1, q1, rfl, rfl, rfl, h1, r1⟩ := trodAll_cons r0
  obtain ⟨v2, vs2, d2, ds2, p2, q2, rfl, rfl, rfl, h2, r2⟩ := trodAll_cons r1
  obtain ⟨v3, vs3, d3, ds3, p3, q3, rfl, rfl, rfl, h3, r3⟩ := trodAll_cons r2
  obtain ⟨rfl, rfl, rfl⟩ := trodAll_nil r3
  obtain rfl : args = #[v0, v1, v2, v3] := by cases args; simp_all
  obtain ⟨rfl, rfl⟩ := trodVars_none hV
  obtain ⟨cs0, rfl, hcs0⟩ := okWide_struct Try.underlying24 (hval 0 24 v0 rfl rfl)
  have k0 := h0
  have lt0 : ∀ x ∈ p0, x.block < W.heap.size := by obtain ⟨m, hm⟩ := k0; exact DataW.trod_lt m _ _ _ hm
  obtain ⟨y0, KK0, w0⟩ := Rd_t24.arg hsz (j := 0) rfl rfl h0
  obtain ⟨A0_1, c0_1, he0, hc0_1, hr0_1⟩ := k24_open KK0
  obtain rfl : cs0 = #[.string y0.f0, .slice A0_1 (y0.f1).length c0_1] := by
    have h_ := congrArg List.toArray he0
    simpa [Value.cells] using h_
  obtain ⟨w0_0, w0_1⟩ := w0
  obtain ⟨a1, rfl, rfl, rfl, y1⟩ := open_string Try.underlying9 (hval 1 9 v1 rfl rfl) h1
  have w1 : a1.size ≤ 140737488351232 := by
    have z := sized_string hsz (j := 1) (t := 9) rfl rfl
    rw [Array.length_toList] at z
    exact z
  obtain ⟨a2, rfl, rfl, rfl, w2⟩ := open_int Try.underlying3 (hval 2 3 v2 rfl rfl) h2
  obtain ⟨a3, rfl, rfl, rfl, y3⟩ := open_string Try.underlying9 (hval 3 9 v3 rfl rfl) h3
  have w3 : a3.size ≤ 140737488351232 := by
    have z := sized_string hsz (j := 3) (t := 9) rfl rfl
    rw [Array.length_toList] at z
    exact z
  refine (Print.palinodelaw18_DefineBack.walk Pure.DefineBack y0.f0 _ _ y0.f1 a1 a2 a3 W w0_0 hr0_1 hc0_1 w0_1 w1 w2 w3).mono fun e W' ⟨he, bel⟩ => ?_
  subst he
  exact ⟨_, rfl, _, _, _, [], _, [], hW', trodAll_mk1 (shut_bool Try.underlying4 _), (trodAll_cons_mk (Below.trod laidOut (by kernel_rfl) (of_decide_eq_true (by kernel_rfl)) k0 bel lt0) (trodAll_cons_mk (shut_string Try.underlying9 y1) (trodAll_cons_mk (shut_int Try.underlying3 w2) (trodAll_cons_mk (shut_string Try.underlying9 y3) trodAll_mk0)))), rfl, bel.frame _, fun h => by cases h⟩
theorem over : Rows.defineBackRow.holds Try.pinned (OpenSpec.ofChange Rows.defineBackSpec) :=
  OpenClaim.holds_of_wide 5 Try.f5 rfl rfl rfl rfl rfl rfl rfl ⟨rfl, rfl, rfl, rfl, rfl⟩ rfl rfl rfl rfl rfl (by kernel_rfl) Try.func5 (by kernel_rfl)
    (of_decide_eq_true (by kernel_rfl)) (by unfold Func.isWrapper; first | (rw [if_pos (by decide +kernel)]; kernel_rfl) | (rw [if_neg (by decide +kernel)]; exact ⟨rfl, rfl⟩))
    (fun os started H enc _ => lifted os started H enc)
theorem proved : Rows.DefineBackSaid := over
#print axioms proved
end Go.Proofs.Ytnmlnngmfagmfaa.defineBack
namespace Go.Proofs.Ytnmlnngmfagmfaa
/-- The row, under a short name, for the claim. -/
theorem defineBack_holds : Rows.DefineBackSaid := defineBack.proved
end Go.Proofs.Ytnmlnngmfagmfaa
