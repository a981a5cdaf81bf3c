-- Printed out of the translation by a program of this session's own. Not trusted: Lean checks it.
import Derived.Test.YtnmlnngmfagmfaaRows
import Derived.Test.YtnmlnngmfagmfaaPrint14
import Derived.Test.YtnmlnngmfagmfaaPureDefineBytes
import Derived.Test.YtnmlnngmfagmfaaXBulk
import Derived.WalkKit
import Derived.ProofKit
import Derived.OpenShut
import Derived.ShutString
import Derived.ChangeOld
import Derived.Below
import Derived.SizedLaws
import Derived.KernelRfl
namespace Go.Proofs.Ytnmlnngmfagmfaa.defineBytes
open Go.ChangeShapes Go.WideShapes Go.ChangeAt Go.RowKit Go.Proofs.Ytnmlnngmfagmfaa Go.Proofs.Ytnmlnngmfagmfaa.Print Go.Proofs.YtnmlnngmfagmfaaX Go.Proofs.YtnmlnngmfagmfaaW.PrintWords
open Go.ChangeMaps (open_string shut_string)
set_option linter.unusedVariables false
set_option linter.unusedSimpArgs false
theorem own : ownKnob Try.prog.godebug = none := by kernel_rfl
theorem laidOut : laidOutB Try.prog = true := by kernel_rfl
theorem RdB_t9 : RdB Try.prog 9 Kd.string (fun s : ByteArray => s.size ≤ 140737488351232) (fun y_ : ByteArray => (y_.size + 1)) := RdB_string Try.underlying9
theorem RdB_t3 : RdB Try.prog 3 (Kd.int .i64) (fun n : Int => (Lit.int .i64 n).wf = true) (fun y_ : Int => 1) := RdB_int Try.underlying3
theorem RdB_t43 : RdB Try.prog 43 k43 V43 (fun y_ : S43 => (1 + 1 + 1)) := by
  intro H enc w fuel cs d ps hf hw
  obtain ⟨xs, n, _, hx, hlen, hxl, hg⟩ := DataW.trod_struct Try.underlying43 hf
  obtain ⟨rfl, _⟩ := Prod.mk.inj hx
  simp only [DataW.weights, Try.underlying43] at hw
  have hC : Try.prog.cellsOf 43 = 2 := by kernel_rfl
  rw [hC] at hlen
  have e3 : Try.prog.cellsOf 3 = 1 := by kernel_rfl
  match cs, hlen, xs, hxl with
  | [c0, c1], _, [y0, y1], _ =>
    obtain ⟨z0, K0, W0, Q0⟩ := RdB_t3 H enc w n [c0] y0.1 y0.2 (by simpa [e3] using hg 0 _ rfl) (fun q hq => hw q (weightsEach_mem (j := 0) rfl rfl q hq))
    obtain ⟨z1, K1, W1, Q1⟩ := RdB_t3 H enc w n [c1] y1.1 y1.2 (by simpa [e3] using hg 1 _ rfl) (fun q hq => hw q (weightsEach_mem (j := 1) rfl rfl q hq))
    refine ⟨⟨z0, z1⟩, ⟨[c0], [c1], rfl, K0, K1⟩, ⟨W0, W1⟩, ?_⟩
    simp only [Rows.uptoBulk, Rows.uptoBulkAll, List.map_cons, List.map_nil]
    try dsimp only at Q0
    try dsimp only at Q1
    omega
theorem RdB_t22 : RdB Try.prog 22 (Kd.slice 43 k43) (fun l : List (S43) => l.length ≤ maxLen ∧ l.length * 16 ≤ 140737488351232 ∧ ∀ x ∈ l, V43 x) (fun y_ : List (S43) => ((y_.map fun y_ : S43 => (1 + 1 + 1)).sum + 1)) := RdB_slice Try.underlying22 (by kernel_rfl) (by kernel_rfl) RdB_t43
theorem RdB_t24 : RdB Try.prog 24 k24 V24 (fun y_ : S24 => ((y_.f0.size + 1) + ((y_.f1.map fun y_ : S43 => (1 + 1 + 1)).sum + 1) + 1)) := by
  intro H enc w fuel cs d ps hf hw
  obtain ⟨xs, n, _, hx, hlen, hxl, hg⟩ := DataW.trod_struct Try.underlying24 hf
  obtain ⟨rfl, _⟩ := Prod.mk.inj hx
  simp only [DataW.weights, Try.underlying24] at hw
  have hC : Try.prog.cellsOf 24 = 2 := by kernel_rfl
  rw [hC] at hlen
  have e9 : Try.prog.cellsOf 9 = 1 := by kernel_rfl
  have e22 : Try.prog.cellsOf 22 = 1 := by kernel_rfl
  match cs, hlen, xs, hxl with
  | [c0, c1], _, [y0, y1], _ =>
    obtain ⟨z0, K0, W0, Q0⟩ := RdB_t9 H enc w n [c0] y0.1 y0.2 (by simpa [e9] using hg 0 _ rfl) (fun q hq => hw q (weightsEach_mem (j := 0) rfl rfl q hq))
    obtain ⟨z1, K1, W1, Q1⟩ := RdB_t22 H enc w n [c1] y1.1 y1.2 (by simpa [e22] using hg 1 _ rfl) (fun q hq => hw q (weightsEach_mem (j := 1) rfl rfl q hq))
    refine ⟨⟨z0, z1⟩, ⟨[c0], [c1], rfl, K0, K1⟩, ⟨W0, W1⟩, ?_⟩
    simp only [Rows.uptoBulk, Rows.uptoBulkAll, List.map_cons, List.map_nil]
    try dsimp only at Q0
    try dsimp only at Q1
    omega
set_option maxRecDepth 100000 in
theorem lifted (os : Os) (started : os.Started) (H : Type) (enc : TypeId × Value → H) (F0 : Stop.Interp) :
    ReturnsInHanded {} Try.checked os 4 .any ((Rows.OpenSpec.upto Rows.defineBytesSpec).pre6 enc Try.prog Try.f4 Rows.defineBytesUptoRow.domain false) (((Rows.OpenSpec.upto Rows.defineBytesSpec).at F0).post enc Try.prog Try.f4 false true false false) := by
  refine returnsInHanded_of_cond_sized (C := Try.checked) (s := Rows.OpenSpec.upto Rows.defineBytesSpec) (k := Rows.uptoSmall) rfl own started (by kernel_rfl) Try.func4
    (OpenSpec.witness (enc := enc) (C := Try.checked) (s := Rows.OpenSpec.upto Rows.defineBytesSpec) (k := Rows.uptoSmall) rfl false ⟨#[], #[.agg #[.string ByteArray.empty, .slice none 0 0], .string ByteArray.empty], []⟩ 8 (by kernel_rfl) (by kernel_rfl) (by kernel_rfl) (x := ([.agg [.lit (.string []), .nil], .lit (.string [])], [], [])) (by kernel_rfl) (by kernel_rfl) (by kernel_rfl)) ?_
  intro W base args ds gs before hval0 hW hcnd hkk0 hsz0 _
  have hsz : (DataW.weightsEach Try.prog (Try.f4.params.toList ++ Rows.defineBytesSpec.plain.varTypes Try.prog) (ds ++ gs)).all (· ≤ reachBytes) = true := hsz0
  have hval : ∀ (j : Nat) t v, Try.f4.params[j]? = some t → args[j]? = some v → Value.okWide Try.prog W .any base t v := hval0
  have hW' := hW
  obtain ⟨p, q, hA0, hV, rfl, hfz, hnd⟩ := hW
  have hA : DataW.TrodAll enc Try.prog W 0 (fun _ => true) true Try.f4.params.toList args.toList ds p := hA0
  rw [Try.params4] at hA hval hsz
  obtain ⟨v0, vs0, d0, ds0, p0, q0, hargs, rfl, rfl, h0, r0⟩ := trodAll_cons hA
  obtain ⟨v1, vs1, d1, ds1, p1, q1, rfl, rfl, rfl, h1, r1⟩ := trodAll_cons r0
  obtain ⟨rfl, rfl, rfl⟩ := trodAll_nil r1
  obtain rfl : args = #[v0, v1] := by cases args; simp_all
  obtain ⟨rfl, rfl⟩ := trodVars_none hV
  obtain ⟨cs0, rfl, hcs0⟩ := okWide_struct Try.underlying24 (hval 0 24 v0 rfl rfl)
  have k0 := h0
  have lt0 : ∀ x ∈ p0, x.block < W.heap.size := by obtain ⟨m, hm⟩ := k0; exact DataW.trod_lt m _ _ _ hm
  obtain ⟨y0, KK0, w0, bq0⟩ := RdB_t24.arg hsz (j := 0) rfl rfl h0
  obtain ⟨A0_1, c0_1, he0, hc0_1, hr0_1⟩ := k24_open KK0
  obtain rfl : cs0 = #[.string y0.f0, .slice A0_1 (y0.f1).length c0_1] := by
    have h_ := congrArg List.toArray he0
    simpa [Value.cells] using h_
  obtain ⟨w0_0, w0_1⟩ := w0
  obtain ⟨a1, rfl, rfl, rfl, y1⟩ := open_string Try.underlying9 (hval 1 9 v1 rfl rfl) h1
  have w1 : a1.size ≤ 140737488351232 := by
    have z := sized_string hsz (j := 1) (t := 9) rfl rfl
    rw [Array.length_toList] at z
    exact z
  have hkk : Rows.uptoBulkAll ([_, _] ++ []) ≤ 1048576 := of_decide_eq_true hkk0
  simp only [Rows.uptoBulkAll, List.append_nil, List.cons_append, List.nil_append, Rows.uptoBulk, Array.length_toList] at hkk
  have hbk : (y0.f0.size + 1) + ((y0.f1.map fun y_ : S43 => (1 + 1 + 1)).sum + 1) + (a1.size + 1) ≤ 1048576 := by
    have hz_ : ∀ a : ByteArray, a.data.size = a.size := fun _ => rfl
    try simp only [hz_] at hkk
    try dsimp only at bq0
    omega
  refine (Print.palinodelaw18_DefineBytes.walk Pure.DefineBytes y0.f0 _ _ y0.f1 a1 W w0_0 hr0_1 hc0_1 w0_1 w1 hbk).mono fun e W' ⟨he, bel⟩ => ?_
  subst he
  exact ⟨_, rfl, _, _, _, [], _, [], hW', trodAll_mk1 (shut_bool Try.underlying4 _), (trodAll_cons_mk (Below.trod laidOut (by kernel_rfl) (of_decide_eq_true (by kernel_rfl)) k0 bel lt0) (trodAll_cons_mk (shut_string Try.underlying9 y1) trodAll_mk0)), rfl, bel.frame _, fun h => by cases h⟩
theorem over : Rows.defineBytesUptoRow.holds Try.pinned (Rows.OpenSpec.upto Rows.defineBytesSpec) :=
  OpenClaim.holds_of_cond 4 Try.f4 rfl rfl rfl rfl rfl rfl rfl ⟨rfl, rfl, rfl, rfl, rfl⟩ rfl rfl rfl rfl rfl (by kernel_rfl) Try.func4 (by kernel_rfl)
    (of_decide_eq_true (by kernel_rfl)) (by unfold Func.isWrapper; first | (rw [if_pos (by decide +kernel)]; kernel_rfl) | (rw [if_neg (by decide +kernel)]; exact ⟨rfl, rfl⟩))
    (fun os started H enc _ F => lifted os started H enc F)
theorem proved : Rows.DefineBytesUptoSaid := over
#print axioms proved
end Go.Proofs.Ytnmlnngmfagmfaa.defineBytes
namespace Go.Proofs.Ytnmlnngmfagmfaa
/-- The row, under a short name, for the claim. -/
theorem defineBytes_holds : Rows.DefineBytesUptoSaid := defineBytes.proved
end Go.Proofs.Ytnmlnngmfagmfaa