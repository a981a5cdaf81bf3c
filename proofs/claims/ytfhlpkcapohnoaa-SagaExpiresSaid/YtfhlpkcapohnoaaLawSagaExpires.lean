-- Printed out of the translation by a program of this session's own. Not trusted: Lean checks it.
import Derived.Test.YtfhlpkcapohnoaaRows
import Derived.Test.YtfhlpkcapohnoaaPrint21
import Derived.Test.YtfhlpkcapohnoaaPureSagaExpires
import Derived.Test.YtfhlpkcapohnoaaXRead
import Derived.WalkKit
import Derived.ProofKit
import Derived.OpenShut
import Derived.ShutString
import Derived.ChangeOld
import Derived.Below
import Derived.SizedLaws
import Derived.KernelRfl
namespace Go.Proofs.Ytfhlpkcapohnoaa.sagaExpires
open Go.ChangeShapes Go.WideShapes Go.ChangeAt Go.RowKit Go.Proofs.Ytfhlpkcapohnoaa Go.Proofs.Ytfhlpkcapohnoaa.Print Go.Proofs.YtfhlpkcapohnoaaX Go.Proofs.YtfhlpkcapohnoaaW.PrintWords
open Go.ChangeMaps (open_string shut_string)
set_option linter.unusedVariables false
set_option linter.unusedSimpArgs false
theorem own : ownKnob Try.prog.godebug = none := by kernel_rfl
theorem laidOut : laidOutB Try.prog = true := by kernel_rfl
theorem Rd_t9 : Rd Try.prog 9 Kd.string (fun s : ByteArray => s.size ≤ 140737488351232) := Rd_string Try.underlying9
theorem Rd_t3 : Rd Try.prog 3 (Kd.int .i64) (fun n : Int => (Lit.int .i64 n).wf = true) := Rd_int Try.underlying3
theorem Rd_t53 : Rd Try.prog 53 k53 V53 := by
  intro H enc w fuel cs d ps hf hw
  obtain ⟨xs, n, _, hx, hlen, hxl, hg⟩ := DataW.trod_struct Try.underlying53 hf
  obtain ⟨rfl, _⟩ := Prod.mk.inj hx
  simp only [DataW.weights, Try.underlying53] at hw
  have hC : Try.prog.cellsOf 53 = 2 := by kernel_rfl
  rw [hC] at hlen
  have e3 : Try.prog.cellsOf 3 = 1 := by kernel_rfl
  match cs, hlen, xs, hxl with
  | [c0, c1], _, [y0, y1], _ =>
    obtain ⟨z0, K0, W0⟩ := Rd_t3 H enc w n [c0] y0.1 y0.2 (by simpa [e3] using hg 0 _ rfl) (fun q hq => hw q (weightsEach_mem (j := 0) rfl rfl q hq))
    obtain ⟨z1, K1, W1⟩ := Rd_t3 H enc w n [c1] y1.1 y1.2 (by simpa [e3] using hg 1 _ rfl) (fun q hq => hw q (weightsEach_mem (j := 1) rfl rfl q hq))
    exact ⟨⟨z0, z1⟩, ⟨[c0], [c1], rfl, K0, K1⟩, ⟨W0, W1⟩⟩
theorem Rd_t22 : Rd Try.prog 22 (Kd.slice 53 k53) (fun l : List (S53) => l.length ≤ maxLen ∧ l.length * 16 ≤ 140737488351232 ∧ ∀ x ∈ l, V53 x) := Rd_slice Try.underlying22 (by kernel_rfl) (by kernel_rfl) Rd_t53
theorem Rd_t24 : Rd Try.prog 24 k24 V24 := by
  intro H enc w fuel cs d ps hf hw
  obtain ⟨xs, n, _, hx, hlen, hxl, hg⟩ := DataW.trod_struct Try.underlying24 hf
  obtain ⟨rfl, _⟩ := Prod.mk.inj hx
  simp only [DataW.weights, Try.underlying24] at hw
  have hC : Try.prog.cellsOf 24 = 2 := by kernel_rfl
  rw [hC] at hlen
  have e9 : Try.prog.cellsOf 9 = 1 := by kernel_rfl
  have e22 : Try.prog.cellsOf 22 = 1 := by kernel_rfl
  match cs, hlen, xs, hxl with
  | [c0, c1], _, [y0, y1], _ =>
    obtain ⟨z0, K0, W0⟩ := Rd_t9 H enc w n [c0] y0.1 y0.2 (by simpa [e9] using hg 0 _ rfl) (fun q hq => hw q (weightsEach_mem (j := 0) rfl rfl q hq))
    obtain ⟨z1, K1, W1⟩ := Rd_t22 H enc w n [c1] y1.1 y1.2 (by simpa [e22] using hg 1 _ rfl) (fun q hq => hw q (weightsEach_mem (j := 1) rfl rfl q hq))
    exact ⟨⟨z0, z1⟩, ⟨[c0], [c1], rfl, K0, K1⟩, ⟨W0, W1⟩⟩
theorem Rd_t4 : Rd Try.prog 4 Kd.bool (fun _ : Bool => True) := Rd_bool Try.underlying4
theorem Rd_t26 : Rd Try.prog 26 k26 V26 := by
  intro H enc w fuel cs d ps hf hw
  obtain ⟨xs, n, _, hx, hlen, hxl, hg⟩ := DataW.trod_struct Try.underlying26 hf
  obtain ⟨rfl, _⟩ := Prod.mk.inj hx
  simp only [DataW.weights, Try.underlying26] at hw
  have hC : Try.prog.cellsOf 26 = 7 := by kernel_rfl
  rw [hC] at hlen
  have e3 : Try.prog.cellsOf 3 = 1 := by kernel_rfl
  have e4 : Try.prog.cellsOf 4 = 1 := by kernel_rfl
  have e9 : Try.prog.cellsOf 9 = 1 := by kernel_rfl
  match cs, hlen, xs, hxl with
  | [c0, c1, c2, c3, c4, c5, c6], _, [y0, y1, y2, y3, y4, y5, y6], _ =>
    obtain ⟨z0, K0, W0⟩ := Rd_t9 H enc w n [c0] y0.1 y0.2 (by simpa [e9] using hg 0 _ rfl) (fun q hq => hw q (weightsEach_mem (j := 0) rfl rfl q hq))
    obtain ⟨z1, K1, W1⟩ := Rd_t9 H enc w n [c1] y1.1 y1.2 (by simpa [e9] using hg 1 _ rfl) (fun q hq => hw q (weightsEach_mem (j := 1) rfl rfl q hq))
    obtain ⟨z2, K2, W2⟩ := Rd_t3 H enc w n [c2] y2.1 y2.2 (by simpa [e3] using hg 2 _ rfl) (fun q hq => hw q (weightsEach_mem (j := 2) rfl rfl q hq))
    obtain ⟨z3, K3, W3⟩ := Rd_t3 H enc w n [c3] y3.1 y3.2 (by simpa [e3] using hg 3 _ rfl) (fun q hq => hw q (weightsEach_mem (j := 3) rfl rfl q hq))
    obtain ⟨z4, K4, W4⟩ := Rd_t3 H enc w n [c4] y4.1 y4.2 (by simpa [e3] using hg 4 _ rfl) (fun q hq => hw q (weightsEach_mem (j := 4) rfl rfl q hq))
    obtain ⟨z5, K5, W5⟩ := Rd_t3 H enc w n [c5] y5.1 y5.2 (by simpa [e3] using hg 5 _ rfl) (fun q hq => hw q (weightsEach_mem (j := 5) rfl rfl q hq))
    obtain ⟨z6, K6, W6⟩ := Rd_t4 H enc w n [c6] y6.1 y6.2 (by simpa [e4] using hg 6 _ rfl) (fun q hq => hw q (weightsEach_mem (j := 6) rfl rfl q hq))
    exact ⟨⟨z0, z1, z2, z3, z4, z5, z6⟩, ⟨[c0], [c1, c2, c3, c4, c5, c6], rfl, K0, ⟨[c1], [c2, c3, c4, c5, c6], rfl, K1, ⟨[c2], [c3, c4, c5, c6], rfl, K2, ⟨[c3], [c4, c5, c6], rfl, K3, ⟨[c4], [c5, c6], rfl, K4, ⟨[c5], [c6], rfl, K5, K6⟩⟩⟩⟩⟩⟩, ⟨W0, W1, W2, W3, W4, W5⟩⟩
set_option maxRecDepth 100000 in
theorem lifted (os : Os) (started : os.Started) (H : Type) (enc : TypeId × Value → H) :
    ReturnsInHanded {} Try.checked os 11 .any (Rows.sagaExpiresSpec.pre6 enc Try.prog Try.f11 Rows.sagaExpiresRow.domain false) (Rows.sagaExpiresSpec.post enc Try.prog Try.f11 false true false false) := by
  refine returnsInHanded_of_change_sized (C := Try.checked) own started (by kernel_rfl) Try.func11
    (ChangeSpec.witness6 (enc := enc) (C := Try.checked) false ⟨#[], #[.agg #[.string ByteArray.empty, .slice none 0 0], .agg #[.string ByteArray.empty, .string ByteArray.empty, .int .i64 0, .int .i64 0, .int .i64 0, .int .i64 0, .bool false], .int .i64 0, .int .i64 0, .int .i64 0], []⟩ 8 (by kernel_rfl) (by kernel_rfl) (by kernel_rfl) (by kernel_rfl)) ?_
  intro W base args ds gs before hval0 hW hcnd hsz0 _
  have hsz : (DataW.weightsEach Try.prog (Try.f11.params.toList ++ Rows.sagaExpiresSpec.plain.varTypes Try.prog) (ds ++ gs)).all (· ≤ reachBytes) = true := hsz0
  have hval : ∀ (j : Nat) t v, Try.f11.params[j]? = some t → args[j]? = some v → Value.okWide Try.prog W .any base t v := hval0
  have hW' := hW
  obtain ⟨p, q, hA0, hV, rfl, hfz, hnd⟩ := hW
  have hA : DataW.TrodAll enc Try.prog W 0 (fun _ => true) true Try.f11.params.toList args.toList ds p := hA0
  rw [Try.params11] at hA hval hsz
  obtain ⟨v0, vs0, d0, ds0, p0, q0, hargs, rfl, rfl, h0, r0⟩ := trodAll_cons hA
  obtain ⟨v1, vs1, d1, ds1, p1, q1, rfl, rfl, rfl, h1, r1⟩ := trodAll_cons r0
  obtain ⟨v2, vs2, d2, ds2, p2, q2, rfl, rfl, rfl, h2, r2⟩ := trodAll_cons r1
  obtain ⟨v3, vs3, d3, ds3, p3, q3, rfl, rfl, rfl, h3, r3⟩ := trodAll_cons r2
  obtain ⟨v4, vs4, d4, ds4, p4, q4, rfl, rfl, rfl, h4, r4⟩ := trodAll_cons r3
  obtain ⟨rfl, rfl, rfl⟩ := trodAll_nil r4
  obtain rfl : args = #[v0, v1, v2, v3, v4] := by cases args; simp_all
  obtain ⟨rfl, rfl⟩ := trodVars_none hV
  obtain ⟨cs0, rfl, hcs0⟩ := okWide_struct Try.underlying24 (hval 0 24 v0 rfl rfl)
  have k0 := h0
  have lt0 : ∀ x ∈ p0, x.block < W.heap.size := by obtain ⟨m, hm⟩ := k0; exact DataW.trod_lt m _ _ _ hm
  obtain ⟨y0, KK0, w0⟩ := Rd_t24.arg hsz (j := 0) rfl rfl h0
  obtain ⟨A0_1, c0_1, he0, hc0_1, hr0_1⟩ := k24_open KK0
  obtain rfl : cs0 = #[.string y0.f0, .slice A0_1 (y0.f1).length c0_1] := by
    have h_ := congrArg List.toArray he0
    simpa [Value.cells] using h_
  obtain ⟨w0_0, w0_1⟩ := w0
  obtain ⟨cs1, rfl, hcs1⟩ := okWide_struct Try.underlying26 (hval 1 26 v1 rfl rfl)
  have k1 := h1
  have lt1 : ∀ x ∈ p1, x.block < W.heap.size := by obtain ⟨m, hm⟩ := k1; exact DataW.trod_lt m _ _ _ hm
  obtain ⟨y1, KK1, w1⟩ := Rd_t26.arg hsz (j := 1) rfl rfl h1
  have he1 := k26_open KK1
  obtain rfl : cs1 = #[.string y1.f0, .string y1.f1, .int .i64 y1.f2, .int .i64 y1.f3, .int .i64 y1.f4, .int .i64 y1.f5, .bool y1.f6] := by
    have h_ := congrArg List.toArray he1
    simpa [Value.cells] using h_
  obtain ⟨w1_0, w1_1, w1_2, w1_3, w1_4, w1_5⟩ := w1
  obtain ⟨a2, rfl, rfl, rfl, w2⟩ := open_int Try.underlying3 (hval 2 3 v2 rfl rfl) h2
  obtain ⟨a3, rfl, rfl, rfl, w3⟩ := open_int Try.underlying3 (hval 3 3 v3 rfl rfl) h3
  obtain ⟨a4, rfl, rfl, rfl, w4⟩ := open_int Try.underlying3 (hval 4 3 v4 rfl rfl) h4
  refine (Print.palinodelaw19_SagaExpires.walk Pure.SagaExpires y0.f0 _ _ y0.f1 y1.f0 y1.f1 y1.f2 y1.f3 y1.f4 y1.f5 y1.f6 a2 a3 a4 W w0_0 hr0_1 hc0_1 w0_1 w1_0 w1_1 w1_2 w1_3 w1_4 w1_5 w2 w3 w4).mono fun e W' ⟨he, bel⟩ => ?_
  subst he
  exact ⟨_, rfl, _, _, _, [], _, [], hW', trodAll_mk1 (shut_bool Try.underlying4 _), (trodAll_cons_mk (Below.trod laidOut (by kernel_rfl) (of_decide_eq_true (by kernel_rfl)) k0 bel lt0) (trodAll_cons_mk (Below.trod laidOut (by kernel_rfl) (of_decide_eq_true (by kernel_rfl)) k1 bel lt1) (trodAll_cons_mk (shut_int Try.underlying3 w2) (trodAll_cons_mk (shut_int Try.underlying3 w3) (trodAll_cons_mk (shut_int Try.underlying3 w4) trodAll_mk0))))), rfl, bel.frame _, fun h => by cases h⟩
theorem over : Rows.sagaExpiresRow.holds Try.pinned (OpenSpec.ofChange Rows.sagaExpiresSpec) :=
  OpenClaim.holds_of_wide 11 Try.f11 rfl rfl rfl rfl rfl rfl rfl ⟨rfl, rfl, rfl, rfl, rfl⟩ rfl rfl rfl rfl rfl (by kernel_rfl) Try.func11 (by kernel_rfl)
    (of_decide_eq_true (by kernel_rfl)) (by unfold Func.isWrapper; first | (rw [if_pos (by decide +kernel)]; kernel_rfl) | (rw [if_neg (by decide +kernel)]; exact ⟨rfl, rfl⟩))
    (fun os started H enc _ => lifted os started H enc)
theorem proved : Rows.SagaExpiresSaid := over
#print axioms proved
end Go.Proofs.Ytfhlpkcapohnoaa.sagaExpires
namespace Go.Proofs.Ytfhlpkcapohnoaa
/-- The row, under a short name, for the claim. -/
theorem sagaExpires_holds : Rows.SagaExpiresSaid := sagaExpires.proved
end Go.Proofs.Ytfhlpkcapohnoaa
