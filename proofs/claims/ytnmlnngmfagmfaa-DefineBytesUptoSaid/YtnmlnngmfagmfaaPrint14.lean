-- Printed out of the translation by a program of this session's own. Not trusted: Lean checks it.
import Derived.Test.YtnmlnngmfagmfaaPrint0
import Derived.Test.YtnmlnngmfagmfaaPrint5
import Derived.Test.YtnmlnngmfagmfaaPrint7
import Derived.Test.YtnmlnngmfagmfaaPrint11
import Derived.Test.YtnmlnngmfagmfaaPrint12
import Derived.Test.YtnmlnngmfagmfaaPrint13
import Derived.Test.YtnmlnngmfagmfaaHDefineDecode
namespace Go.Proofs.Ytnmlnngmfagmfaa.Print
open Go.RowKit Go.Proofs.YtnmlnngmfagmfaaW.PrintWords Go.Proofs.YtnmlnngmfagmfaaW.PrintLast Go.Proofs.YtnmlnngmfagmfaaW.PrintMore Go.Proofs.YtnmlnngmfagmfaaX
attribute [local go_sem] max2_int min2_int max_two min_two max_three min_three max_four min_four   -- for this text's walks alone
set_option linter.unusedVariables false
set_option linter.unusedSimpArgs false

/-! ### palinodelaw18_DefineBytes: function 4 -/
mutual
def palinodelaw18_DefineBytes.l0 : Nat → ByteArray → Bool → ByteArray → Option Int → ByteArray → Bool → Bool → Int → ByteArray → List (S43) → Option (Bool)
 | 0, _, _, _, _, _, _, _, _, _, _ => none
 | k + 1, x1, x5, x6, x7, x8, x9, x11, x12, x398000, x398001 => if x12 < 2 then ((define_Decode.f x1).bind fun bt400 => ((palinodelaw18_defs.f k bt400.1 bt400.2.1 x398000 x398001).bind fun t406 => (if t406 = true then (if bt400.2.2.isNone = true then (if (x11 != true) = true then (palinodelaw18_DefineBytes.j1 k x1 x5 x6 x7 x8 x9 x11 x12 true x398000 x398001 bt400.1 bt400.2.1) else (if x11 = true then (palinodelaw18_DefineBytes.j1 k x1 x5 x6 x7 x8 x9 x11 x12 false x398000 x398001 bt400.1 bt400.2.1) else ((palinodelaw18_is.f none 3).bind fun t408 => (palinodelaw18_DefineBytes.j1 k x1 x5 x6 x7 x8 x9 x11 x12 (!t408) x398000 x398001 bt400.1 bt400.2.1)))) else (if (x11 != false) = true then (palinodelaw18_DefineBytes.j1 k x1 x5 x6 x7 x8 x9 x11 x12 true x398000 x398001 bt400.1 bt400.2.1) else (if x11 = true then (palinodelaw18_DefineBytes.j1 k x1 x5 x6 x7 x8 x9 x11 x12 false x398000 x398001 bt400.1 bt400.2.1) else ((palinodelaw18_is.f (some (bt400.2.2.getD 0)) 3).bind fun t409 => (palinodelaw18_DefineBytes.j1 k x1 x5 x6 x7 x8 x9 x11 x12 (!t409) x398000 x398001 bt400.1 bt400.2.1))))) else (palinodelaw18_DefineBytes.j1 k x1 x5 x6 x7 x8 x9 x11 x12 true x398000 x398001 bt400.1 bt400.2.1)))) else (if x5 = true then (if x6.toList = x8.toList then (if x9 = true then (if x7.isNone = true then (some true) else (some false)) else ((palinodelaw18_is.f x7 1).bind fun t399 => (some t399))) else (some false)) else (some false))
def palinodelaw18_DefineBytes.j1 : Nat → ByteArray → Bool → ByteArray → Option Int → ByteArray → Bool → Bool → Int → Bool → ByteArray → List (S43) → ByteArray → List (S43) → Option (Bool)
 | 0, _, _, _, _, _, _, _, _, _, _, _, _, _ => none
 | k + 1, x1, x5, x6, x7, x8, x9, x11, x12, x61, x398000, x398001, x406000, x406001 => if x61 = true then (some false) else (palinodelaw18_DefineBytes.l1 k x1 x5 x6 x7 x8 x9 x11 x12 0 x398000 x398001 x406000 x406001)
def palinodelaw18_DefineBytes.l1 : Nat → ByteArray → Bool → ByteArray → Option Int → ByteArray → Bool → Bool → Int → Int → ByteArray → List (S43) → ByteArray → List (S43) → Option (Bool)
 | 0, _, _, _, _, _, _, _, _, _, _, _, _, _ => none
 | k + 1, x1, x5, x6, x7, x8, x9, x11, x12, x16, x398000, x398001, x406000, x406001 => if x16 < (x406001.length : Int) then (if 0 ≤ x16 then (palinodelaw18_DefineBytes.l1 k x1 x5 x6 x7 x8 x9 x11 x12 (wrap64 (x16 + 1)) x398000 x398001 x406000 (x406001.set (x16 : Int).toNat (⟨(-1), 0⟩ : S43))) else (none)) else (palinodelaw18_DefineBytes.l0 k x1 x5 x6 x7 x8 x9 x11 (wrap64 (x12 + 1)) x398000 x398001)
end
def palinodelaw18_DefineBytes.f (k : Nat) (a0_0 : ByteArray) (l0_1 : List (S43)) (a1 : ByteArray) : Option (Bool) := (palinodelaw18_examples.f k).bind fun t387 => ((define_Encode.f k a0_0 l0_1).bind fun bt388 => ((palinoderef18_Encode.f k a0_0 l0_1).bind fun bt390 => ((palinoderef18_Decode.f k a1).bind fun bt392 => (palinodelaw18_DefineBytes.l0 k a1 t387 bt388.1 bt388.2 bt390.1 bt390.2 bt392.2.2 0 bt392.1 bt392.2.1))))
theorem palinodelaw18_DefineBytes.mono_l : ∀ k, (∀ y0 y1 y2 y3 y4 y5 y6 y7 y8 y9, LeO (palinodelaw18_DefineBytes.l0 k y0 y1 y2 y3 y4 y5 y6 y7 y8 y9) (palinodelaw18_DefineBytes.l0 (k + 1) y0 y1 y2 y3 y4 y5 y6 y7 y8 y9)) ∧ (∀ y0 y1 y2 y3 y4 y5 y6 y7 y8 y9 y10 y11 y12, LeO (palinodelaw18_DefineBytes.j1 k y0 y1 y2 y3 y4 y5 y6 y7 y8 y9 y10 y11 y12) (palinodelaw18_DefineBytes.j1 (k + 1) y0 y1 y2 y3 y4 y5 y6 y7 y8 y9 y10 y11 y12)) ∧ (∀ y0 y1 y2 y3 y4 y5 y6 y7 y8 y9 y10 y11 y12, LeO (palinodelaw18_DefineBytes.l1 k y0 y1 y2 y3 y4 y5 y6 y7 y8 y9 y10 y11 y12) (palinodelaw18_DefineBytes.l1 (k + 1) y0 y1 y2 y3 y4 y5 y6 y7 y8 y9 y10 y11 y12))
 | 0 => ⟨fun _ _ _ _ _ _ _ _ _ _ r h => by simp [palinodelaw18_DefineBytes.l0] at h, fun _ _ _ _ _ _ _ _ _ _ _ _ _ r h => by simp [palinodelaw18_DefineBytes.j1] at h, fun _ _ _ _ _ _ _ _ _ _ _ _ _ r h => by simp [palinodelaw18_DefineBytes.l1] at h⟩
 | k + 1 => by
  obtain ⟨ih0, ih1, ih2⟩ := palinodelaw18_DefineBytes.mono_l k
  refine ⟨?_, ?_, ?_⟩
  ·
   intro y0 y1 y2 y3 y4 y5 y6 y7 y8 y9
   unfold palinodelaw18_DefineBytes.l0
   repeat' first
   | (with_reducible exact ih0 _ _ _ _ _ _ _ _ _ _)
   | (with_reducible exact ih1 _ _ _ _ _ _ _ _ _ _ _ _ _)
   | (with_reducible exact ih2 _ _ _ _ _ _ _ _ _ _ _ _ _)
   | (with_reducible exact define_Encode.mono _ _ _)
   | (with_reducible exact palinodelaw18_defs.mono _ _ _ _ _)
   | (with_reducible exact palinodelaw18_examples.mono _)
   | (with_reducible exact palinoderef18_Decode.mono _ _)
   | (with_reducible exact palinoderef18_Encode.mono _ _ _)
   | (with_reducible exact LeO.refl _)
   | (with_reducible exact LeO.none _)
   | (with_reducible refine LeO.ite ?_ ?_)
   | (with_reducible refine LeO.bind ?_ (fun _ => ?_))
   | exact ih0 _ _ _ _ _ _ _ _ _ _
   | exact ih1 _ _ _ _ _ _ _ _ _ _ _ _ _
   | exact ih2 _ _ _ _ _ _ _ _ _ _ _ _ _
   | exact define_Encode.mono _ _ _
   | exact palinodelaw18_defs.mono _ _ _ _ _
   | exact palinodelaw18_examples.mono _
   | exact palinoderef18_Decode.mono _ _
   | exact palinoderef18_Encode.mono _ _ _
   | exact LeO.none _
   | refine LeO.ite ?_ ?_
   | refine LeO.bind ?_ (fun _ => ?_)
  ·
   intro y0 y1 y2 y3 y4 y5 y6 y7 y8 y9 y10 y11 y12
   unfold palinodelaw18_DefineBytes.j1
   repeat' first
   | (with_reducible exact ih0 _ _ _ _ _ _ _ _ _ _)
   | (with_reducible exact ih1 _ _ _ _ _ _ _ _ _ _ _ _ _)
   | (with_reducible exact ih2 _ _ _ _ _ _ _ _ _ _ _ _ _)
   | (with_reducible exact define_Encode.mono _ _ _)
   | (with_reducible exact palinodelaw18_defs.mono _ _ _ _ _)
   | (with_reducible exact palinodelaw18_examples.mono _)
   | (with_reducible exact palinoderef18_Decode.mono _ _)
   | (with_reducible exact palinoderef18_Encode.mono _ _ _)
   | (with_reducible exact LeO.refl _)
   | (with_reducible exact LeO.none _)
   | (with_reducible refine LeO.ite ?_ ?_)
   | (with_reducible refine LeO.bind ?_ (fun _ => ?_))
   | exact ih0 _ _ _ _ _ _ _ _ _ _
   | exact ih1 _ _ _ _ _ _ _ _ _ _ _ _ _
   | exact ih2 _ _ _ _ _ _ _ _ _ _ _ _ _
   | exact define_Encode.mono _ _ _
   | exact palinodelaw18_defs.mono _ _ _ _ _
   | exact palinodelaw18_examples.mono _
   | exact palinoderef18_Decode.mono _ _
   | exact palinoderef18_Encode.mono _ _ _
   | exact LeO.none _
   | refine LeO.ite ?_ ?_
   | refine LeO.bind ?_ (fun _ => ?_)
  ·
   intro y0 y1 y2 y3 y4 y5 y6 y7 y8 y9 y10 y11 y12
   unfold palinodelaw18_DefineBytes.l1
   repeat' first
   | (with_reducible exact ih0 _ _ _ _ _ _ _ _ _ _)
   | (with_reducible exact ih1 _ _ _ _ _ _ _ _ _ _ _ _ _)
   | (with_reducible exact ih2 _ _ _ _ _ _ _ _ _ _ _ _ _)
   | (with_reducible exact define_Encode.mono _ _ _)
   | (with_reducible exact palinodelaw18_defs.mono _ _ _ _ _)
   | (with_reducible exact palinodelaw18_examples.mono _)
   | (with_reducible exact palinoderef18_Decode.mono _ _)
   | (with_reducible exact palinoderef18_Encode.mono _ _ _)
   | (with_reducible exact LeO.refl _)
   | (with_reducible exact LeO.none _)
   | (with_reducible refine LeO.ite ?_ ?_)
   | (with_reducible refine LeO.bind ?_ (fun _ => ?_))
   | exact ih0 _ _ _ _ _ _ _ _ _ _
   | exact ih1 _ _ _ _ _ _ _ _ _ _ _ _ _
   | exact ih2 _ _ _ _ _ _ _ _ _ _ _ _ _
   | exact define_Encode.mono _ _ _
   | exact palinodelaw18_defs.mono _ _ _ _ _
   | exact palinodelaw18_examples.mono _
   | exact palinoderef18_Decode.mono _ _
   | exact palinoderef18_Encode.mono _ _ _
   | exact LeO.none _
   | refine LeO.ite ?_ ?_
   | refine LeO.bind ?_ (fun _ => ?_)
theorem palinodelaw18_DefineBytes.mono : ∀ a0 a1 a2 k, LeO (palinodelaw18_DefineBytes.f k a0 a1 a2) (palinodelaw18_DefineBytes.f (k + 1) a0 a1 a2) := by
 intro a0 a1 a2 k
 obtain ⟨ih0, ih1, ih2⟩ := palinodelaw18_DefineBytes.mono_l k
 unfold palinodelaw18_DefineBytes.f
 repeat' first
   | (with_reducible exact ih0 _ _ _ _ _ _ _ _ _ _)
   | (with_reducible exact ih1 _ _ _ _ _ _ _ _ _ _ _ _ _)
   | (with_reducible exact ih2 _ _ _ _ _ _ _ _ _ _ _ _ _)
   | (with_reducible exact define_Encode.mono _ _ _)
   | (with_reducible exact palinodelaw18_defs.mono _ _ _ _ _)
   | (with_reducible exact palinodelaw18_examples.mono _)
   | (with_reducible exact palinoderef18_Decode.mono _ _)
   | (with_reducible exact palinoderef18_Encode.mono _ _ _)
   | (with_reducible exact LeO.refl _)
   | (with_reducible exact LeO.none _)
   | (with_reducible refine LeO.ite ?_ ?_)
   | (with_reducible refine LeO.bind ?_ (fun _ => ?_))
   | exact ih0 _ _ _ _ _ _ _ _ _ _
   | exact ih1 _ _ _ _ _ _ _ _ _ _ _ _ _
   | exact ih2 _ _ _ _ _ _ _ _ _ _ _ _ _
   | exact define_Encode.mono _ _ _
   | exact palinodelaw18_defs.mono _ _ _ _ _
   | exact palinodelaw18_examples.mono _
   | exact palinoderef18_Decode.mono _ _
   | exact palinoderef18_Encode.mono _ _ _
   | exact LeO.none _
   | refine LeO.ite ?_ ?_
   | refine LeO.bind ?_ (fun _ => ?_)
set_option maxHeartbeats 8000000 in
set_option maxRecDepth 100000 in
theorem palinodelaw18_DefineBytes.calls (k : Nat) (a0_0 : ByteArray) (A0_1 : Option Addr) (c0_1 : Nat) (l0_1 : List (S43)) (a1 : ByteArray) (r : Bool) (w : World) (hr0_1 : Kd.C k43 w A0_1 l0_1.length l0_1) (hc0_1 : l0_1.length ≤ c0_1) (h : palinodelaw18_DefineBytes.f k a0_0 l0_1 a1 = some r) (HEX_ : Aside0 (∀ k_ r_, palinodelaw18_examples.f k_ = some r_ → r_ = true)) (HRT_ : Aside0 (r = true) := by first | exact ⟨rfl⟩ | assumption) :
  Calls Try.prog 4 #[.agg #[.string a0_0, .slice A0_1 l0_1.length c0_1], .string a1] w fun e w' => e = .returned (.bool r) ∧ Below w.heap.size w w' := by
 have hu24 := Try.underlying24
 have hu43 := Try.underlying43
 have hu31 := Try.underlying31
 have hu48 := Try.underlying48
 have HR0_1 := Aside0.mk hr0_1
 have HC0_1 := Aside0.mk hc0_1
 clear hr0_1 hc0_1
 have HB := Aside0.mk (Below.refl w.heap.size w)
 have H : ((palinodelaw18_examples.f k).bind fun t387 => ((define_Encode.f k a0_0 l0_1).bind fun bt388 => ((palinoderef18_Encode.f k a0_0 l0_1).bind fun bt390 => ((palinoderef18_Decode.f k a1).bind fun bt392 => (palinodelaw18_DefineBytes.l0 k a1 t387 bt388.1 bt388.2 bt390.1 bt390.2 bt392.2.2 0 bt392.1 bt392.2.1))))) = some r := h
 clear h
 replace H := Option.bind_eq_some_iff.mp H
 obtain ⟨t387, A30, H⟩ := H
 replace H : ((define_Encode.f k a0_0 l0_1).bind fun bt388 => ((palinoderef18_Encode.f k a0_0 l0_1).bind fun bt390 => ((palinoderef18_Decode.f k a1).bind fun bt392 => (palinodelaw18_DefineBytes.l0 k a1 t387 bt388.1 bt388.2 bt390.1 bt390.2 bt392.2.2 0 bt392.1 bt392.2.1)))) = some r := H
 have A3 := Aside0.mk A30
 have HTA3_ : Aside0 (t387 = true) := ⟨HEX_.out _ _ A30⟩
 clear A30
 replace H := Option.bind_eq_some_iff.mp H
 obtain ⟨⟨t388, t389⟩, A40, H⟩ := H
 replace H : ((palinoderef18_Encode.f k a0_0 l0_1).bind fun bt390 => ((palinoderef18_Decode.f k a1).bind fun bt392 => (palinodelaw18_DefineBytes.l0 k a1 t387 t388 t389 bt390.1 bt390.2 bt392.2.2 0 bt392.1 bt392.2.1))) = some r := H
 have A4 := Aside0.mk A40
 clear A40
 replace H := Option.bind_eq_some_iff.mp H
 obtain ⟨⟨t390, t391⟩, A50, H⟩ := H
 replace H : ((palinoderef18_Decode.f k a1).bind fun bt392 => (palinodelaw18_DefineBytes.l0 k a1 t387 t388 t389 t390 t391 bt392.2.2 0 bt392.1 bt392.2.1)) = some r := H
 have A5 := Aside0.mk A50
 clear A50
 replace H := Option.bind_eq_some_iff.mp H
 obtain ⟨⟨t392, t393, t396⟩, A60, H⟩ := H
 replace H : (palinodelaw18_DefineBytes.l0 k a1 t387 t388 t389 t390 t391 t396 0 t392 t393) = some r := H
 have A6 := Aside0.mk A60
 clear A60
 have H' := Aside0.mk H
 clear H
 go_enter Try.func4, Try.ntmps4
 go_wp2_with (first | ((with_reducible refine gate_dst (N := 2) rfl ?_); refine box_event ?hg (N := 2) ?hd (cs := #[.string a0_0, .slice A0_1 l0_1.length c0_1]) (t := 24) ?hr ?_; (case hd => rfl); (case hg => rfl); (case hr => first | (go_simp; done) | (go_simp; rfl)); intro gb386 hg w7 hbox hb; have n0_ := Aside0.mk (Yv HB hb); have n1_ := Aside0.mk (hbox); have n2_ := Aside0.mk (Yg HB hg); have n3_ := Aside0.mk (Yg HB hg); clear HB; have HB := n0_; have BK386 := n1_; have GW386 := n2_; have GE386 := n3_; clear n0_ n1_ n2_ n3_; clear hb hbox hg) | ((with_reducible refine gate_callee (f := 8) rfl ?_); refine goesL_ (some 17) rfl rfl Try.func8 (by kernel_rfl) rfl #[] rfl (by (try simp only [List.map_toArray, List.map_cons, List.map_nil]); first | done | rfl | (simp only [List.length_drop, List.length_take]; rfl)) ?_; (with_reducible refine (palinodelaw18_examples.calls k  t387 _ A3.out).mono ?_); rintro e w8 ⟨rfl, hb⟩; refine ⟨_, rfl, ?_⟩; have n0_ := Aside0.mk (Zv BK386 hb); have n1_ := Aside0.mk (Yv HB hb); clear BK386; clear HB; have BK386 := n0_; have HB := n1_; clear n0_ n1_; (try clear hb); (try clear hb2); (try clear hk); (try clear hi); obtain ⟨⟨hcz9_0, hcz9_1⟩, hfz9_0, hfz9_1⟩ := Zk2 BK386) | ((with_reducible refine gate_callee (f := 15) rfl ?_); refine goesL_ (some 20) rfl rfl Try.func15 (by kernel_rfl) rfl #[.agg #[.string a0_0, .slice A0_1 l0_1.length c0_1]] rfl (by (try simp only [List.map_toArray, List.map_cons, List.map_nil]); first | done | rfl | (simp only [List.length_drop, List.length_take]; rfl)) ?_; (with_reducible refine (define_Encode.calls k a0_0 _ _ l0_1 t388 t389 _ ?side1 ?side2 A4.out).mono ?_); (case side1 => repeat (first | exact (Kd.C_below HR0_1.out HB.out) | (with_reducible refine Kd.C_alloc ?_ _) | (with_reducible refine Kd.C_drewN ?_ _) | (with_reducible refine Kd.C_drew ?_))); (case side2 => exact HC0_1.out); rintro e w10 ⟨rfl, hb⟩; refine ⟨_, rfl, ?_⟩; have n0_ := Aside0.mk (Zv BK386 hb); have n1_ := Aside0.mk (Yv HB hb); clear BK386; clear HB; have BK386 := n0_; have HB := n1_; clear n0_ n1_; (try clear hb); (try clear hb2); (try clear hk); (try clear hi); (try simp only [errW_none, errW_some]); obtain ⟨⟨hcz11_0, hcz11_1⟩, hfz11_0, hfz11_1⟩ := Zk2 BK386) | ((with_reducible refine gate_callee (f := 16) rfl ?_); refine goesL_ (some 25) rfl rfl Try.func16 (by kernel_rfl) rfl #[.agg #[.string a0_0, .slice A0_1 l0_1.length c0_1]] rfl (by (try simp only [List.map_toArray, List.map_cons, List.map_nil]); first | done | rfl | (simp only [List.length_drop, List.length_take]; rfl)) ?_; (with_reducible refine (palinoderef18_Encode.calls k a0_0 _ _ l0_1 t390 t391 _ ?side1 ?side2 A5.out).mono ?_); (case side1 => repeat (first | exact (Kd.C_below HR0_1.out HB.out) | (with_reducible refine Kd.C_alloc ?_ _) | (with_reducible refine Kd.C_drewN ?_ _) | (with_reducible refine Kd.C_drew ?_))); (case side2 => exact HC0_1.out); rintro e w12 ⟨rfl, hb⟩; refine ⟨_, rfl, ?_⟩; have n0_ := Aside0.mk (Zv BK386 hb); have n1_ := Aside0.mk (Yv HB hb); clear BK386; clear HB; have BK386 := n0_; have HB := n1_; clear n0_ n1_; (try clear hb); (try clear hb2); (try clear hk); (try clear hi)) | ((with_reducible refine gate_callee (f := 17) rfl ?_); refine goesL_ (some 30) rfl rfl Try.func17 (by kernel_rfl) rfl #[.string a1] rfl (by (try simp only [List.map_toArray, List.map_cons, List.map_nil]); first | done | rfl | (simp only [List.length_drop, List.length_take]; rfl)) ?_; (with_reducible refine (palinoderef18_Decode.calls k a1 t392 t393 t396 _ A6.out).mono ?_); rintro e w13 ⟨v394, rfl, ho0, hb⟩; refine ⟨_, rfl, ?_⟩; have n0_ := Aside0.mk (Kd.R_lower ho0 (below_size (Yr HB))); have n1_ := Aside0.mk (Zv BK386 hb); have n2_ := Aside0.mk (Yv HB hb); clear BK386; clear HB; have HO395 := n0_; have BK386 := n1_; have HB := n2_; clear n0_ n1_ n2_; (try clear hb); (try clear hb2); (try clear hk); (try clear hi); (try clear ho0)) | ((with_reducible refine gate_dst (N := 10) rfl ?_); refine box_event ?hg (N := 10) ?hd (cs := #[.string (⟨#[]⟩ : ByteArray), .slice none 0 0]) (t := 24) ?hr ?_; (case hd => rfl); (case hg => rfl); (case hr => first | (go_simp; done) | (go_simp; rfl)); intro gb397 hg w14 hbox hb; have n0_ := Aside0.mk (Kd.R_below (by (with_reducible repeat (first | apply Kd.R_alloc | apply Kd.R_drewN | apply Kd.R_drew)); exact HO395.out) hb); have n1_ := Aside0.mk (Zv BK386 hb); have n2_ := Aside0.mk (Yv HB hb); have n3_ := Aside0.mk (hbox); have n4_ := Aside0.mk (Yg HB hg); have n5_ := Aside0.mk (Yg HB hg); have n6_ := Aside0.mk (Zl BK386 hg); have n7_ := Aside0.mk (Zg BK386 hg); clear HO395; clear BK386; clear HB; have HO395 := n0_; have BK386 := n1_; have HB := n2_; have BK397 := n3_; have GW397 := n4_; have GE397 := n5_; have NB386_397 := n6_; have NB397_386 := n7_; clear n0_ n1_ n2_ n3_ n4_ n5_ n6_ n7_; clear hb hbox hg; obtain ⟨hnb15, hnc15⟩ := Zo NB397_386; obtain ⟨⟨hcz16_0, hcz16_1⟩, hfz16_0, hfz16_1⟩ := Zk2 BK397; obtain ⟨Ao17, co17, eo17⟩ := Kd.R_slice HO395.out; subst eo17))
 go_loopg [12] k (fun kq v12 w' => ∃ (x12_1 : Int) (x398001_1 : List (S43)) (u398001 : Value), v12 = .int .i64 x12_1 ∧ Aside0 (palinodelaw18_DefineBytes.l0 kq a1 t387 t388 t389 t390 t391 t396 x12_1 t392 x398001_1 = some r) ∧ Aside0 (kq ≤ k) ∧ Aside0 (Kd.R k43 43 w' w.heap.size (fun _ => True) u398001 x398001_1) ∧ Aside0 (w'.heap[gb386]? = some (.cells #[.string a0_0, (.slice A0_1 l0_1.length c0_1)] 24 (0, 0))) ∧ Aside0 (w'.heap[gb397]? = some (.cells #[.string t392, u398001] 24 (0, 0))) ∧ Aside0 (Below w.heap.size w w'))
 case atStart => exact ⟨(0), (t393), (.slice Ao17 t393.length co17), (by first | rfl | (simp; done) | (simp [*]; done)), H', ⟨Nat.le_refl _⟩, ⟨by (with_reducible repeat (first | apply Kd.R_alloc | apply Kd.R_drewN | apply Kd.R_drew)); exact Kd.R_mono (Kd.R_far (p := ⟨gb397, 1, none⟩) (Kd.R_far (p := ⟨gb397, 0, none⟩) (Kd.R_types HO395.out BK397.out (by decide)) (fun _ hk => hk.2) (.string t392)) (fun _ hk => hk.2) (.slice Ao17 t393.length co17)) (fun _ hk => trivial)⟩, ⟨by (with_reducible repeat first | apply Zn | apply Zd | apply Za); refine Zq ?_ NB386_397.out _; (with_reducible repeat first | apply Zn | apply Zd | apply Za); refine Zq ?_ NB386_397.out _; (with_reducible repeat first | apply Zn | apply Zd | apply Za); exact BK386.out⟩, ⟨by (with_reducible repeat first | apply Zn | apply Zd | apply Za); refine Zp (cs := #[.string t392, .slice none 0 0]) ?_ 1 _ rfl; (with_reducible repeat first | apply Zn | apply Zd | apply Za); refine Zp (cs := #[.string (⟨#[]⟩ : ByteArray), .slice none 0 0]) ?_ 0 _ rfl; (with_reducible repeat first | apply Zn | apply Zd | apply Za); exact BK397.out⟩, ⟨Yr HB⟩⟩
 case round =>
  clear H'
  try clear c1
  try clear p2
  try clear c4
  try clear c8
  try clear c15
  try clear c16
  try clear c17
  try clear hcz11_0
  try clear hcz11_1
  try clear hcz16_0
  try clear hcz16_1
  try clear hcz9_0
  try clear hcz9_1
  try clear hfz11_0
  try clear hfz11_1
  try clear hfz16_0
  try clear hfz16_1
  try clear hfz9_0
  try clear hfz9_1
  obtain ⟨x12_1, x398001_1, u398001, rfl, HA, HK1, HO_398001, BK386, BK397, HB⟩ := hrel
  cases gk with
  | zero => exact absurd HA.out (by simp [palinodelaw18_DefineBytes.l0])
  | succ k1 =>
   have H := HA.out
   clear HA
   simp only [palinodelaw18_DefineBytes.l0] at H
   by_cases c18 : x12_1 < 2
   ·
    rw [if_pos c18] at H
    have c18b0 : decide (x12_1 < 2) = true := decide_eq_true c18
    clear c18
    replace H := Option.bind_eq_some_iff.mp H
    obtain ⟨⟨t400, t401, t404⟩, A190, H⟩ := H
    replace H : ((palinodelaw18_defs.f k1 t400 t401 t392 x398001_1).bind fun t406 => (if t406 = true then (if t404.isNone = true then (if (t396 != true) = true then (palinodelaw18_DefineBytes.j1 k1 a1 t387 t388 t389 t390 t391 t396 x12_1 true t392 x398001_1 t400 t401) else (if t396 = true then (palinodelaw18_DefineBytes.j1 k1 a1 t387 t388 t389 t390 t391 t396 x12_1 false t392 x398001_1 t400 t401) else ((palinodelaw18_is.f none 3).bind fun t408 => (palinodelaw18_DefineBytes.j1 k1 a1 t387 t388 t389 t390 t391 t396 x12_1 (!t408) t392 x398001_1 t400 t401)))) else (if (t396 != false) = true then (palinodelaw18_DefineBytes.j1 k1 a1 t387 t388 t389 t390 t391 t396 x12_1 true t392 x398001_1 t400 t401) else (if t396 = true then (palinodelaw18_DefineBytes.j1 k1 a1 t387 t388 t389 t390 t391 t396 x12_1 false t392 x398001_1 t400 t401) else ((palinodelaw18_is.f (some (t404.getD 0)) 3).bind fun t409 => (palinodelaw18_DefineBytes.j1 k1 a1 t387 t388 t389 t390 t391 t396 x12_1 (!t409) t392 x398001_1 t400 t401))))) else (palinodelaw18_DefineBytes.j1 k1 a1 t387 t388 t389 t390 t391 t396 x12_1 true t392 x398001_1 t400 t401))) = some r := H
    have A19 := Aside0.mk A190
    clear A190
    replace H := Option.bind_eq_some_iff.mp H
    obtain ⟨t406, A200, H⟩ := H
    replace H : (if t406 = true then (if t404.isNone = true then (if (t396 != true) = true then (palinodelaw18_DefineBytes.j1 k1 a1 t387 t388 t389 t390 t391 t396 x12_1 true t392 x398001_1 t400 t401) else (if t396 = true then (palinodelaw18_DefineBytes.j1 k1 a1 t387 t388 t389 t390 t391 t396 x12_1 false t392 x398001_1 t400 t401) else ((palinodelaw18_is.f none 3).bind fun t408 => (palinodelaw18_DefineBytes.j1 k1 a1 t387 t388 t389 t390 t391 t396 x12_1 (!t408) t392 x398001_1 t400 t401)))) else (if (t396 != false) = true then (palinodelaw18_DefineBytes.j1 k1 a1 t387 t388 t389 t390 t391 t396 x12_1 true t392 x398001_1 t400 t401) else (if t396 = true then (palinodelaw18_DefineBytes.j1 k1 a1 t387 t388 t389 t390 t391 t396 x12_1 false t392 x398001_1 t400 t401) else ((palinodelaw18_is.f (some (t404.getD 0)) 3).bind fun t409 => (palinodelaw18_DefineBytes.j1 k1 a1 t387 t388 t389 t390 t391 t396 x12_1 (!t409) t392 x398001_1 t400 t401))))) else (palinodelaw18_DefineBytes.j1 k1 a1 t387 t388 t389 t390 t391 t396 x12_1 true t392 x398001_1 t400 t401)) = some r := H
    have A20 := Aside0.mk A200
    clear A200
    have HC21 := Aside0.mk H
    clear H
    go_upto_region 10 with (first | ((with_reducible refine gate_callee (f := 18) rfl ?_); refine goesL_ (some 39) rfl rfl Try.func18 (by kernel_rfl) rfl #[.string a1] rfl (by (try simp only [List.map_toArray, List.map_cons, List.map_nil]); first | done | rfl | (simp only [List.length_drop, List.length_take]; rfl)) ?_; (with_reducible refine (define_Decode.calls a1 t400 t401 t404 _ A19.out).mono ?_); rintro e w22 ⟨v402, rfl, ho0, hb⟩; refine ⟨_, rfl, ?_⟩; have n0_ := Aside0.mk (Kd.R_elder' (by (with_reducible repeat (first | apply Kd.R_alloc | apply Kd.R_drewN | apply Kd.R_drew)); exact HO_398001.out) (Kd.R_base ho0) hb); have n1_ := Aside0.mk (Kd.R_lower (Kd.R_new' ho0 (Kd.R_lt (by (with_reducible repeat (first | apply Kd.R_alloc | apply Kd.R_drewN | apply Kd.R_drew)); exact HO_398001.out))) (below_size (Yr HB))); have n2_ := Aside0.mk (Zv BK386 hb); have n3_ := Aside0.mk (Zv BK397 hb); have n4_ := Aside0.mk (Yv HB hb); clear HO_398001; clear BK386; clear BK397; clear HB; have HO_398001 := n0_; have HO403 := n1_; have BK386 := n2_; have BK397 := n3_; have HB := n4_; clear n0_ n1_ n2_ n3_ n4_; (try clear hb); (try clear hb2); (try clear hk); (try clear hi); (try clear ho0); (try simp only [errW_none, errW_some])) | ((with_reducible refine gate_dst (N := 13) rfl ?_); refine box_event ?hg (N := 13) ?hd (cs := #[.string (⟨#[]⟩ : ByteArray), .slice none 0 0]) (t := 24) ?hr ?_; (case hd => rfl); (case hg => rfl); (case hr => first | (go_simp; done) | (go_simp; rfl)); intro gb405 hg w23 hbox hb; have n0_ := Aside0.mk (Kd.R_below (by (with_reducible repeat (first | apply Kd.R_alloc | apply Kd.R_drewN | apply Kd.R_drew)); exact HO_398001.out) hb); have n1_ := Aside0.mk (Kd.R_below (by (with_reducible repeat (first | apply Kd.R_alloc | apply Kd.R_drewN | apply Kd.R_drew)); exact HO403.out) hb); have n2_ := Aside0.mk (Zv BK386 hb); have n3_ := Aside0.mk (Zv BK397 hb); have n4_ := Aside0.mk (Yv HB hb); have n5_ := Aside0.mk (hbox); have n6_ := Aside0.mk (Yg HB hg); have n7_ := Aside0.mk (Yg HB hg); have n8_ := Aside0.mk (Zl BK386 hg); have n9_ := Aside0.mk (Zg BK386 hg); have n10_ := Aside0.mk (Zl BK397 hg); have n11_ := Aside0.mk (Zg BK397 hg); clear HO_398001; clear HO403; clear BK386; clear BK397; clear HB; have HO_398001 := n0_; have HO403 := n1_; have BK386 := n2_; have BK397 := n3_; have HB := n4_; have BK405 := n5_; have GW405 := n6_; have GE405 := n7_; have NB386_405 := n8_; have NB405_386 := n9_; have NB397_405 := n10_; have NB405_397 := n11_; clear n0_ n1_ n2_ n3_ n4_ n5_ n6_ n7_ n8_ n9_ n10_ n11_; clear hb hbox hg; obtain ⟨hnb24, hnc24⟩ := Zo NB405_386; obtain ⟨hnb25, hnc25⟩ := Zo NB405_397; obtain ⟨⟨hcz26_0, hcz26_1⟩, hfz26_0, hfz26_1⟩ := Zk2 BK405; obtain ⟨Ao27, co27, eo27⟩ := Kd.R_slice HO403.out; subst eo27; obtain ⟨hnb28, hnc28⟩ := Zo NB397_386; obtain ⟨⟨hcz29_0, hcz29_1⟩, hfz29_0, hfz29_1⟩ := Zk2 BK397; obtain ⟨Ao30, co30, eo30⟩ := Kd.R_slice HO_398001.out; subst eo30) | ((with_reducible refine gate_callee (f := 19) rfl ?_); refine goesL_ (some 44) rfl rfl Try.func19 (by kernel_rfl) rfl #[.agg #[.string t400, .slice Ao27 t401.length co27], .agg #[.string t392, .slice Ao30 x398001_1.length co30]] rfl (by (try simp only [List.map_toArray, List.map_cons, List.map_nil]); first | done | rfl | (simp only [List.length_drop, List.length_take]; rfl)) ?_; (with_reducible refine (palinodelaw18_defs.calls k1 t400 _ _ t401 t392 _ _ x398001_1 t406 _ ?side1 ?side2 ?side3 ?side4 A20.out).mono ?_); (case side1 => refine (Kd.R_reads' (e := 43) (base := w.heap.size) (ok := fun k_ => (True ∧ some k_ ≠ (.slice Ao30 x398001_1.length co30 : Value).ownBlock)) (n := t401.length) (c := co27) ?_).2.2; exact (by (with_reducible repeat (first | apply Kd.R_alloc | apply Kd.R_drewN | apply Kd.R_drew)); exact (Kd.R_mono (Kd.R_far (p := ⟨gb405, 1, none⟩) (Kd.R_far (p := ⟨gb405, 0, none⟩) (Kd.R_types HO403.out BK405.out (by decide)) (fun _ hk => hk.2) (.string t400)) (fun _ hk => hk.2) (.slice Ao27 t401.length co27)) (fun _ h_ => h_.1)))); (case side2 => exact (Kd.R_reads' HO403.out).2.1); (case side3 => refine (Kd.R_reads' (e := 43) (base := w.heap.size) (ok := fun k_ => (True ∧ some k_ ≠ (.slice Ao27 t401.length co27 : Value).ownBlock)) (n := x398001_1.length) (c := co30) ?_).2.2; exact (by (with_reducible repeat (first | apply Kd.R_alloc | apply Kd.R_drewN | apply Kd.R_drew)); exact (Kd.R_mono (Kd.R_far (p := ⟨gb405, 1, none⟩) (Kd.R_far (p := ⟨gb405, 0, none⟩) (Kd.R_types HO_398001.out BK405.out (by decide)) (fun _ hk => hk.2) (.string t400)) (fun _ hk => hk.2) (.slice Ao27 t401.length co27)) (fun _ h_ => h_.1)))); (case side4 => exact (Kd.R_reads' HO_398001.out).2.1); rintro e w31 ⟨rfl, hb⟩; refine ⟨_, rfl, ?_⟩; have n0_ := Aside0.mk (Kd.R_below (by (with_reducible repeat (first | apply Kd.R_alloc | apply Kd.R_drewN | apply Kd.R_drew)); exact (Kd.R_mono (Kd.R_far (p := ⟨gb405, 1, none⟩) (Kd.R_far (p := ⟨gb405, 0, none⟩) (Kd.R_types HO_398001.out BK405.out (by decide)) (fun _ hk => hk.2) (.string t400)) (fun _ hk => hk.2) (.slice Ao27 t401.length co27)) (fun _ h_ => h_.1))) hb); have n1_ := Aside0.mk (Kd.R_below (by (with_reducible repeat (first | apply Kd.R_alloc | apply Kd.R_drewN | apply Kd.R_drew)); exact (Kd.R_mono (Kd.R_far (p := ⟨gb405, 1, none⟩) (Kd.R_far (p := ⟨gb405, 0, none⟩) (Kd.R_types HO403.out BK405.out (by decide)) (fun _ hk => hk.2) (.string t400)) (fun _ hk => hk.2) (.slice Ao27 t401.length co27)) (fun _ h_ => h_.1))) hb); have n2_ := Aside0.mk (Zv BK386 hb); have n3_ := Aside0.mk (Zv BK397 hb); have n4_ := Aside0.mk (Zb (g := gb405) (o := .cells #[.string t400, .slice Ao27 t401.length co27] 24 (0, 0)) (by (with_reducible repeat first | apply Zn | apply Zd | apply Za); refine Zp (cs := #[.string t400, .slice none 0 0]) ?_ 1 _ rfl; (with_reducible repeat first | apply Zn | apply Zd | apply Za); refine Zp (cs := #[.string (⟨#[]⟩ : ByteArray), .slice none 0 0]) ?_ 0 _ rfl; (with_reducible repeat first | apply Zn | apply Zd | apply Za); exact BK405.out) hb); have n5_ := Aside0.mk (Yv HB hb); clear HO_398001; clear HO403; clear BK386; clear BK397; clear BK405; clear HB; have HO_398001 := n0_; have HO403 := n1_; have BK386 := n2_; have BK397 := n3_; have BK405 := n4_; have HB := n5_; clear n0_ n1_ n2_ n3_ n4_ n5_; (try clear hb); (try clear hb2); (try clear hk); (try clear hi)))
    (try simp only [Act.put, List.setIfInBounds_toArray, List.set_cons_zero, List.set_cons_succ])
    go_cut [61] (fun v61 wc => ∃ (kq : Nat) (x61_20 : Bool), v61 = .bool x61_20 ∧ Aside0 (palinodelaw18_DefineBytes.j1 kq a1 t387 t388 t389 t390 t391 t396 x12_1 x61_20 t392 x398001_1 t400 t401 = some r) ∧ Aside0 (kq ≤ k1) ∧ Aside0 (Kd.R k43 43 wc w.heap.size (fun k_ => some k_ ≠ ((.slice Ao27 t401.length co27) : Value).ownBlock) (.slice Ao30 x398001_1.length co30) x398001_1) ∧ Aside0 (Kd.R k43 43 wc w.heap.size (fun k_ => some k_ ≠ ((.slice Ao30 x398001_1.length co30) : Value).ownBlock) (.slice Ao27 t401.length co27) t401) ∧ Aside0 (wc.heap[gb386]? = some (.cells #[.string a0_0, (.slice A0_1 l0_1.length c0_1)] 24 (0, 0))) ∧ Aside0 (wc.heap[gb397]? = some (.cells #[.string t392, (.slice Ao30 x398001_1.length co30)] 24 (0, 0))) ∧ Aside0 (wc.heap[gb405]? = some (.cells #[.string t400, (.slice Ao27 t401.length co27)] 24 (0, 0))) ∧ Aside0 (Below w.heap.size w wc))
    case first =>
     have H := HC21.out
     clear HC21
     by_cases c32 : t406 = true
     ·
      subst c32
      have H1 : (if t404.isNone = true then (if (t396 != true) = true then (palinodelaw18_DefineBytes.j1 k1 a1 t387 t388 t389 t390 t391 t396 x12_1 true t392 x398001_1 t400 t401) else (if t396 = true then (palinodelaw18_DefineBytes.j1 k1 a1 t387 t388 t389 t390 t391 t396 x12_1 false t392 x398001_1 t400 t401) else ((palinodelaw18_is.f none 3).bind fun t408 => (palinodelaw18_DefineBytes.j1 k1 a1 t387 t388 t389 t390 t391 t396 x12_1 (!t408) t392 x398001_1 t400 t401)))) else (if (t396 != false) = true then (palinodelaw18_DefineBytes.j1 k1 a1 t387 t388 t389 t390 t391 t396 x12_1 true t392 x398001_1 t400 t401) else (if t396 = true then (palinodelaw18_DefineBytes.j1 k1 a1 t387 t388 t389 t390 t391 t396 x12_1 false t392 x398001_1 t400 t401) else ((palinodelaw18_is.f (some (t404.getD 0)) 3).bind fun t409 => (palinodelaw18_DefineBytes.j1 k1 a1 t387 t388 t389 t390 t391 t396 x12_1 (!t409) t392 x398001_1 t400 t401))))) = some r := by rw [if_pos rfl] at H; exact H
      clear H
      have H := H1
      clear H1
      rcases t404 with _ | q407
      ·
       have H1 : (if (t396 != true) = true then (palinodelaw18_DefineBytes.j1 k1 a1 t387 t388 t389 t390 t391 t396 x12_1 true t392 x398001_1 t400 t401) else (if t396 = true then (palinodelaw18_DefineBytes.j1 k1 a1 t387 t388 t389 t390 t391 t396 x12_1 false t392 x398001_1 t400 t401) else ((palinodelaw18_is.f none 3).bind fun t408 => (palinodelaw18_DefineBytes.j1 k1 a1 t387 t388 t389 t390 t391 t396 x12_1 (!t408) t392 x398001_1 t400 t401)))) = some r := by rw [if_pos (show (none : Option Int).isNone = true by rfl)] at H; exact H
       clear H
       have H := H1
       clear H1
       try simp only [errW_none, errW_some]
       by_cases c33 : (t396 != true) = true
       ·
        rw [if_pos c33] at H
        have c33b0 : (t396 != true) = true := c33
        (try (have c33b1 : decide (t396 = true) = false := by simpa using c33))
        (try (have c33b2 : (t396 == true) = false := by simpa using c33))
        (try (have c33b3 : ¬ (t396 = true) := by simpa using c33))
        clear c33
        (first | rw [c33b0] | (simp only [i64_w, i32_w]; rw [c33b0]) | skip)
        have H' := Aside0.mk H
        clear H
        go_wp2
        go_meet
        case rel => exact ⟨_, (true), (by first | rfl | (simp; done) | (simp [*]; done)), H', ⟨by have := HK1.out; first | omega | exact Nat.le_refl _⟩, ⟨by (with_reducible repeat (first | apply Kd.R_alloc | apply Kd.R_drewN | apply Kd.R_drew)); exact Kd.R_mono HO_398001.out (fun _ hk => hk.2)⟩, ⟨by (with_reducible repeat (first | apply Kd.R_alloc | apply Kd.R_drewN | apply Kd.R_drew)); exact Kd.R_mono HO403.out (fun _ hk => hk.2)⟩, ⟨by (with_reducible repeat first | apply Zn | apply Zd | apply Za); exact BK386.out⟩, ⟨by (with_reducible repeat first | apply Zn | apply Zd | apply Za); exact BK397.out⟩, ⟨by (with_reducible repeat first | apply Zn | apply Zd | apply Za); exact BK405.out⟩, ⟨Yr HB⟩⟩
       ·
        rw [if_neg c33] at H
        have c33b0 : (t396 != true) = false := by simpa using c33
        (try (have c33b1 : decide (t396 = true) = true := by simpa using c33))
        (try (have c33b2 : (t396 == true) = true := by simpa using c33))
        clear c33
        (first | rw [c33b0] | (simp only [i64_w, i32_w]; rw [c33b0]) | skip)
        by_cases c34 : t396 = true
        ·
         subst c34
         have H1 : (palinodelaw18_DefineBytes.j1 k1 a1 t387 t388 t389 t390 t391 true x12_1 false t392 x398001_1 t400 t401) = some r := by rw [if_pos rfl] at H; exact H
         clear H
         have H := H1
         clear H1
         have H' := Aside0.mk H
         clear H
         go_wp2
         go_meet
         case rel => exact ⟨_, (false), (by first | rfl | (simp; done) | (simp [*]; done)), H', ⟨by have := HK1.out; first | omega | exact Nat.le_refl _⟩, ⟨by (with_reducible repeat (first | apply Kd.R_alloc | apply Kd.R_drewN | apply Kd.R_drew)); exact Kd.R_mono HO_398001.out (fun _ hk => hk.2)⟩, ⟨by (with_reducible repeat (first | apply Kd.R_alloc | apply Kd.R_drewN | apply Kd.R_drew)); exact Kd.R_mono HO403.out (fun _ hk => hk.2)⟩, ⟨by (with_reducible repeat first | apply Zn | apply Zd | apply Za); exact BK386.out⟩, ⟨by (with_reducible repeat first | apply Zn | apply Zd | apply Za); exact BK397.out⟩, ⟨by (with_reducible repeat first | apply Zn | apply Zd | apply Za); exact BK405.out⟩, ⟨Yr HB⟩⟩
        ·
         replace c34 := Bool.eq_false_iff.mpr c34
         subst c34
         have H1 : ((palinodelaw18_is.f none 3).bind fun t408 => (palinodelaw18_DefineBytes.j1 k1 a1 t387 t388 t389 t390 t391 false x12_1 (!t408) t392 x398001_1 t400 t401)) = some r := by rw [if_neg (show ¬ (false = true) by decide)] at H; exact H
         clear H
         have H := H1
         clear H1
         replace H := Option.bind_eq_some_iff.mp H
         obtain ⟨t408, A350, H⟩ := H
         replace H : (palinodelaw18_DefineBytes.j1 k1 a1 t387 t388 t389 t390 t391 false x12_1 (!t408) t392 x398001_1 t400 t401) = some r := H
         have A35 := Aside0.mk A350
         clear A350
         have H' := Aside0.mk H
         clear H
         have CA35 := fun W => palinodelaw18_is.calls none 3 t408 W A35.out
         try simp only [errW_none, errW_some] at CA35
         go_wp2_with (first | (go_at_call 20; (with_reducible refine (CA35 _).mono ?_); rintro e w' ⟨rfl, ⟨nd, rfl⟩⟩))
         go_meet
         case rel => exact ⟨_, (!t408), (by first | rfl | (simp; done) | (simp [*]; done)), H', ⟨by have := HK1.out; first | omega | exact Nat.le_refl _⟩, ⟨by (with_reducible repeat (first | apply Kd.R_alloc | apply Kd.R_drewN | apply Kd.R_drew)); exact Kd.R_mono HO_398001.out (fun _ hk => hk.2)⟩, ⟨by (with_reducible repeat (first | apply Kd.R_alloc | apply Kd.R_drewN | apply Kd.R_drew)); exact Kd.R_mono HO403.out (fun _ hk => hk.2)⟩, ⟨by (with_reducible repeat first | apply Zn | apply Zd | apply Za); exact BK386.out⟩, ⟨by (with_reducible repeat first | apply Zn | apply Zd | apply Za); exact BK397.out⟩, ⟨by (with_reducible repeat first | apply Zn | apply Zd | apply Za); exact BK405.out⟩, ⟨Yr HB⟩⟩
      ·
       have H1 : (if (t396 != false) = true then (palinodelaw18_DefineBytes.j1 k1 a1 t387 t388 t389 t390 t391 t396 x12_1 true t392 x398001_1 t400 t401) else (if t396 = true then (palinodelaw18_DefineBytes.j1 k1 a1 t387 t388 t389 t390 t391 t396 x12_1 false t392 x398001_1 t400 t401) else ((palinodelaw18_is.f (some q407) 3).bind fun t409 => (palinodelaw18_DefineBytes.j1 k1 a1 t387 t388 t389 t390 t391 t396 x12_1 (!t409) t392 x398001_1 t400 t401)))) = some r := by rw [if_neg (show ¬ (some q407).isNone = true by simp)] at H; exact H
       clear H
       have H := H1
       clear H1
       try simp only [errW_none, errW_some]
       by_cases c36 : (t396 != false) = true
       ·
        rw [if_pos c36] at H
        have c36b0 : (t396 != false) = true := c36
        (try (have c36b1 : decide (t396 = false) = false := by simpa using c36))
        (try (have c36b2 : (t396 == false) = false := by simpa using c36))
        (try (have c36b3 : ¬ (t396 = false) := by simpa using c36))
        clear c36
        have H' := Aside0.mk H
        clear H
        go_wp2
        go_meet
        case rel => exact ⟨_, (true), (by first | rfl | (simp; done) | (simp [*]; done)), H', ⟨by have := HK1.out; first | omega | exact Nat.le_refl _⟩, ⟨by (with_reducible repeat (first | apply Kd.R_alloc | apply Kd.R_drewN | apply Kd.R_drew)); exact Kd.R_mono HO_398001.out (fun _ hk => hk.2)⟩, ⟨by (with_reducible repeat (first | apply Kd.R_alloc | apply Kd.R_drewN | apply Kd.R_drew)); exact Kd.R_mono HO403.out (fun _ hk => hk.2)⟩, ⟨by (with_reducible repeat first | apply Zn | apply Zd | apply Za); exact BK386.out⟩, ⟨by (with_reducible repeat first | apply Zn | apply Zd | apply Za); exact BK397.out⟩, ⟨by (with_reducible repeat first | apply Zn | apply Zd | apply Za); exact BK405.out⟩, ⟨Yr HB⟩⟩
       ·
        rw [if_neg c36] at H
        have c36b0 : (t396 != false) = false := by simpa using c36
        (try (have c36b1 : decide (t396 = false) = true := by simpa using c36))
        (try (have c36b2 : (t396 == false) = true := by simpa using c36))
        clear c36
        by_cases c37 : t396 = true
        ·
         subst c37
         have H1 : (palinodelaw18_DefineBytes.j1 k1 a1 t387 t388 t389 t390 t391 true x12_1 false t392 x398001_1 t400 t401) = some r := by rw [if_pos rfl] at H; exact H
         clear H
         have H := H1
         clear H1
         have H' := Aside0.mk H
         clear H
         go_wp2
         go_meet
         case rel => exact ⟨_, (false), (by first | rfl | (simp; done) | (simp [*]; done)), H', ⟨by have := HK1.out; first | omega | exact Nat.le_refl _⟩, ⟨by (with_reducible repeat (first | apply Kd.R_alloc | apply Kd.R_drewN | apply Kd.R_drew)); exact Kd.R_mono HO_398001.out (fun _ hk => hk.2)⟩, ⟨by (with_reducible repeat (first | apply Kd.R_alloc | apply Kd.R_drewN | apply Kd.R_drew)); exact Kd.R_mono HO403.out (fun _ hk => hk.2)⟩, ⟨by (with_reducible repeat first | apply Zn | apply Zd | apply Za); exact BK386.out⟩, ⟨by (with_reducible repeat first | apply Zn | apply Zd | apply Za); exact BK397.out⟩, ⟨by (with_reducible repeat first | apply Zn | apply Zd | apply Za); exact BK405.out⟩, ⟨Yr HB⟩⟩
        ·
         replace c37 := Bool.eq_false_iff.mpr c37
         subst c37
         have H1 : ((palinodelaw18_is.f (some q407) 3).bind fun t409 => (palinodelaw18_DefineBytes.j1 k1 a1 t387 t388 t389 t390 t391 false x12_1 (!t409) t392 x398001_1 t400 t401)) = some r := by rw [if_neg (show ¬ (false = true) by decide)] at H; exact H
         clear H
         have H := H1
         clear H1
         replace H := Option.bind_eq_some_iff.mp H
         obtain ⟨t409, A380, H⟩ := H
         replace H : (palinodelaw18_DefineBytes.j1 k1 a1 t387 t388 t389 t390 t391 false x12_1 (!t409) t392 x398001_1 t400 t401) = some r := H
         have A38 := Aside0.mk A380
         clear A380
         have H' := Aside0.mk H
         clear H
         have CA38 := fun W => palinodelaw18_is.calls (some q407) 3 t409 W A38.out
         try simp only [errW_none, errW_some] at CA38
         go_wp2_with (first | (go_at_call 20; (with_reducible refine (CA38 _).mono ?_); rintro e w' ⟨rfl, ⟨nd, rfl⟩⟩))
         go_meet
         case rel => exact ⟨_, (!t409), (by first | rfl | (simp; done) | (simp [*]; done)), H', ⟨by have := HK1.out; first | omega | exact Nat.le_refl _⟩, ⟨by (with_reducible repeat (first | apply Kd.R_alloc | apply Kd.R_drewN | apply Kd.R_drew)); exact Kd.R_mono HO_398001.out (fun _ hk => hk.2)⟩, ⟨by (with_reducible repeat (first | apply Kd.R_alloc | apply Kd.R_drewN | apply Kd.R_drew)); exact Kd.R_mono HO403.out (fun _ hk => hk.2)⟩, ⟨by (with_reducible repeat first | apply Zn | apply Zd | apply Za); exact BK386.out⟩, ⟨by (with_reducible repeat first | apply Zn | apply Zd | apply Za); exact BK397.out⟩, ⟨by (with_reducible repeat first | apply Zn | apply Zd | apply Za); exact BK405.out⟩, ⟨Yr HB⟩⟩
     ·
      replace c32 := Bool.eq_false_iff.mpr c32
      subst c32
      have H1 : (palinodelaw18_DefineBytes.j1 k1 a1 t387 t388 t389 t390 t391 t396 x12_1 true t392 x398001_1 t400 t401) = some r := by rw [if_neg (show ¬ (false = true) by decide)] at H; exact H
      clear H
      have H := H1
      clear H1
      have H' := Aside0.mk H
      clear H
      go_wp2
      go_meet
      case rel => exact ⟨_, (true), (by first | rfl | (simp; done) | (simp [*]; done)), H', ⟨by have := HK1.out; first | omega | exact Nat.le_refl _⟩, ⟨by (with_reducible repeat (first | apply Kd.R_alloc | apply Kd.R_drewN | apply Kd.R_drew)); exact Kd.R_mono HO_398001.out (fun _ hk => hk.2)⟩, ⟨by (with_reducible repeat (first | apply Kd.R_alloc | apply Kd.R_drewN | apply Kd.R_drew)); exact Kd.R_mono HO403.out (fun _ hk => hk.2)⟩, ⟨by (with_reducible repeat first | apply Zn | apply Zd | apply Za); exact BK386.out⟩, ⟨by (with_reducible repeat first | apply Zn | apply Zd | apply Za); exact BK397.out⟩, ⟨by (with_reducible repeat first | apply Zn | apply Zd | apply Za); exact BK405.out⟩, ⟨Yr HB⟩⟩
    case rest =>
     clear HC21
     try clear c1
     try clear c2
     try clear p2
     try clear c3
     try clear c4
     try clear q4
     try clear c8
     try clear c15
     try clear c16
     try clear c17
     try clear c18
     try clear c18b0
     try clear c19
     try clear c24
     try clear c25
     try clear c28
     try clear c32
     try clear c33
     try clear c33b0
     try clear c33b1
     try clear c33b2
     try clear c34
     try clear c36
     try clear c36b0
     try clear c36b1
     try clear c36b2
     try clear c37
     try clear hcz11_0
     try clear hcz11_1
     try clear hcz16_0
     try clear hcz16_1
     try clear hcz26_0
     try clear hcz26_1
     try clear hcz29_0
     try clear hcz29_1
     try clear hcz9_0
     try clear hcz9_1
     try clear hfz11_0
     try clear hfz11_1
     try clear hfz16_0
     try clear hfz16_1
     try clear hfz26_0
     try clear hfz26_1
     try clear hfz29_0
     try clear hfz29_1
     try clear hfz9_0
     try clear hfz9_1
     try clear p2
     try clear q407
     obtain ⟨kq, x61_20, rfl, HA, HJ20, HO_398001, HO_406001, BK386, BK397, BK405, HB⟩ := hcut
     cases kq with
     | zero => exact absurd HA.out (by simp [palinodelaw18_DefineBytes.j1])
     | succ kj20 =>
      have H := HA.out
      clear HA
      simp only [palinodelaw18_DefineBytes.j1] at H
      by_cases c39 : x61_20 = true
      ·
       subst c39
       have H1 : (some false) = some r := by rw [if_pos rfl] at H; exact H
       clear H
       have H := H1
       clear H1
       exact absurd ((Option.some.inj H).trans HRT_.out) (by decide)
      ·
       replace c39 := Bool.eq_false_iff.mpr c39
       subst c39
       have H1 : (palinodelaw18_DefineBytes.l1 kj20 a1 t387 t388 t389 t390 t391 t396 x12_1 0 t392 x398001_1 t400 t401) = some r := by rw [if_neg (show ¬ (false = true) by decide)] at H; exact H
       clear H
       have H := H1
       clear H1
       have H' := Aside0.mk H
       clear H
       go_wp2
       go_loopg [16] kj20 (fun kq v16 w' => ∃ (x16_3 : Int) (x398001_3 : List (S43)) (x406001_3 : List (S43)) (u398001 : Value) (u406001 : Value), v16 = .int .i64 x16_3 ∧ Aside0 (palinodelaw18_DefineBytes.l1 kq a1 t387 t388 t389 t390 t391 t396 x12_1 x16_3 t392 x398001_3 t400 x406001_3 = some r) ∧ Aside0 (kq ≤ kj20) ∧ Aside0 (Kd.R k43 43 w' w.heap.size (fun k_ => some k_ ≠ (u406001 : Value).ownBlock) u398001 x398001_3) ∧ Aside0 (Kd.R k43 43 w' w.heap.size (fun k_ => some k_ ≠ (u398001 : Value).ownBlock) u406001 x406001_3) ∧ Aside0 (w'.heap[gb386]? = some (.cells #[.string a0_0, (.slice A0_1 l0_1.length c0_1)] 24 (0, 0))) ∧ Aside0 (w'.heap[gb397]? = some (.cells #[.string t392, u398001] 24 (0, 0))) ∧ Aside0 (w'.heap[gb405]? = some (.cells #[.string t400, u406001] 24 (0, 0))) ∧ Aside0 (Below w.heap.size w w'))
       case atStart => exact ⟨(0), (x398001_1), (t401), (.slice Ao30 x398001_1.length co30), (.slice Ao27 t401.length co27), (by first | rfl | (simp; done) | (simp [*]; done)), H', ⟨Nat.le_refl _⟩, ⟨by (with_reducible repeat (first | apply Kd.R_alloc | apply Kd.R_drewN | apply Kd.R_drew)); exact HO_398001.out⟩, ⟨by (with_reducible repeat (first | apply Kd.R_alloc | apply Kd.R_drewN | apply Kd.R_drew)); exact HO_406001.out⟩, ⟨by (with_reducible repeat first | apply Zn | apply Zd | apply Za); exact BK386.out⟩, ⟨by (with_reducible repeat first | apply Zn | apply Zd | apply Za); exact BK397.out⟩, ⟨by (with_reducible repeat first | apply Zn | apply Zd | apply Za); exact BK405.out⟩, ⟨Yr HB⟩⟩
       case round =>
        clear H'
        try clear c1
        try clear c2
        try clear p2
        try clear c3
        try clear c4
        try clear q4
        try clear c8
        try clear c15
        try clear c16
        try clear c17
        try clear c18
        try clear c18b0
        try clear c19
        try clear c24
        try clear c25
        try clear c28
        try clear c32
        try clear c33
        try clear c33b0
        try clear c33b1
        try clear c33b2
        try clear c34
        try clear c36
        try clear c36b0
        try clear c36b1
        try clear c36b2
        try clear c37
        try clear c39
        try clear hcz11_0
        try clear hcz11_1
        try clear hcz16_0
        try clear hcz16_1
        try clear hcz26_0
        try clear hcz26_1
        try clear hcz29_0
        try clear hcz29_1
        try clear hcz9_0
        try clear hcz9_1
        try clear hfz11_0
        try clear hfz11_1
        try clear hfz16_0
        try clear hfz16_1
        try clear hfz26_0
        try clear hfz26_1
        try clear hfz29_0
        try clear hfz29_1
        try clear hfz9_0
        try clear hfz9_1
        try clear p2
        try clear q4
        try clear q407
        obtain ⟨x16_3, x398001_3, x406001_3, u398001, u406001, rfl, HA, HK3, HO_398001, HO_406001, BK386, BK397, BK405, HB⟩ := hrel
        cases gk with
        | zero => exact absurd HA.out (by simp [palinodelaw18_DefineBytes.l1])
        | succ k3 =>
         have H := HA.out
         clear HA
         simp only [palinodelaw18_DefineBytes.l1] at H
         by_cases c40 : x16_3 < (x406001_3.length : Int)
         ·
          rw [if_pos c40] at H
          have c40b0 : decide (x16_3 < (x406001_3.length : Int)) = true := decide_eq_true c40
          clear c40
          by_cases c41 : 0 ≤ x16_3
          ·
           rw [if_pos c41] at H
           have c41b0 : decide (0 ≤ x16_3) = true := decide_eq_true c41
           clear c41
           obtain ⟨y410, hy410⟩ : ∃ y_ : List (S43), y_ = (x406001_3.set (x16_3 : Int).toNat (⟨(-1), 0⟩ : S43)) := ⟨_, rfl⟩
           replace H : (palinodelaw18_DefineBytes.l1 k3 a1 t387 t388 t389 t390 t391 t396 x12_1 (wrap64 (x16_3 + 1)) t392 x398001_3 t400 y410) = some r := by first | (rw [hy410]; with_reducible exact H) | (have H2_ := (Option.bind_some _ _).symm.trans H; rw [hy410]; with_reducible exact H2_) | (have H2_ := (Option.bind_some _ _).symm.trans H; with_reducible exact H2_) | with_reducible exact H | (rw [hy410]; exact H) | exact H
           have Ny410 := Aside0.mk hy410
           clear hy410
           have H' := Aside0.mk H
           clear H
           obtain ⟨hnb43, hnc43⟩ := Zo NB405_386
           obtain ⟨hnb44, hnc44⟩ := Zo NB405_397
           obtain ⟨⟨hcz45_0, hcz45_1⟩, hfz45_0, hfz45_1⟩ := Zk2 BK405
           obtain ⟨Ao46, co46, eo46⟩ := Kd.R_slice HO_406001.out
           subst eo46
           have p42 : 0 ≤ (x16_3 : Int) := of_decide_eq_true (by first | (with_reducible assumption) | assumption)
           have q42 : (x16_3 : Int) < ((x406001_3.length : Int) : Int) := of_decide_eq_true (by first | (with_reducible assumption) | assumption)
           obtain ⟨go42, co42, eo42, gb42, gl42, cl42, HG42⟩ := Kd.R_form HO_406001.out (by omega)
           (first | cases eo42 | (injection eo42 with ea_ en_ ec_; (first | subst ea_ | (injection ea_ with ea_; subst ea_)); subst ec_; clear en_))
           have GB42 := Aside0.mk gb42
           have GG42 := Aside0.mk HG42
           clear gb42 gl42 HG42
           obtain ⟨ce42, hcl42, hM42, hcc42, hfr42⟩ := Kd.R_elem HO_406001.out z43 (x16_3 : Int) p42 q42
           obtain rfl := k43_openM hM42
           have hx42_0 : wr.cell? ⟨go42, (x16_3 : Int).toNat * 2, none⟩ = some (.int .i64 ((rd_T43 x406001_3 x16_3).f0)) := hcc42 0 _ rfl
           have hx42_1 : wr.cell? ⟨go42, (x16_3 : Int).toNat * 2 + 1, none⟩ = some (.int .i64 ((rd_T43 x406001_3 x16_3).f1)) := hcc42 1 _ rfl
           have hf42_0 : wr.frozen? ⟨go42, (x16_3 : Int).toNat * 2, none⟩ = false := hfr42 0
           have hf42_1 : wr.frozen? ⟨go42, (x16_3 : Int).toNat * 2 + 1, none⟩ = false := hfr42 1
           clear hcl42 hcc42 hfr42 hM42
           replace p42 := eq_true p42
           replace q42 := eq_true q42
           have HX47 := Aside0.mk (show Kd.R k43 43 wr w.heap.size (fun k_ => some k_ ≠ (u398001 : Value).ownBlock) (.slice (some ⟨go42, 0, none⟩) x406001_3.length co46) x406001_3 from (by (with_reducible repeat (first | apply Kd.R_alloc | apply Kd.R_drewN | apply Kd.R_drew)); exact HO_406001.out))
           obtain ⟨ce47, hcl47, hM47, hcc47, hfr47⟩ := Kd.R_elem HX47.out z43 (x16_3 : Int) (of_decide_eq_true (by first | (with_reducible assumption) | assumption)) (by have h_ : (x16_3 : Int) < ((x406001_3.length : Int) : Int) := of_decide_eq_true (by first | (with_reducible assumption) | assumption); first | exact h_ | (have e_ := (Kd.R_reads' HO_406001.out).1; omega) | simpa using h_)
           obtain rfl := k43_openM hM47
           have HP47 := Kd.R_seg HX47.out (x16_3 : Int) (of_decide_eq_true (by first | (with_reducible assumption) | assumption)) (by have h_ : (x16_3 : Int) < ((x406001_3.length : Int) : Int) := of_decide_eq_true (by first | (with_reducible assumption) | assumption); first | exact h_ | (have e_ := (Kd.R_reads' HO_406001.out).1; omega) | simpa using h_) (seg := [.int .i64 (-1), .int .i64 0]) (j := 0) hcl47 hcc47 (show 2 ≤ 2 from by decide) (x' := (⟨(-1), 0⟩ : S43)) (k43_mkM _ _ _ (⟨(-1), 0⟩ : S43) ) (fun _ hk => hk)
           have hx47_0 := hcc47 0 _ rfl
           (try simp only [show (k43).sz = 2 from rfl, Nat.mul_one, Nat.add_zero] at hx47_0)
           have hf47_0 := hfr47 0
           (try simp only [show (k43).sz = 2 from rfl, Nat.mul_one, Nat.add_zero] at hf47_0)
           have hx47_1 := hcc47 1 _ rfl
           (try simp only [show (k43).sz = 2 from rfl, Nat.mul_one, Nat.add_zero] at hx47_1)
           have hf47_1 := hfr47 1
           (try simp only [show (k43).sz = 2 from rfl, Nat.mul_one, Nat.add_zero] at hf47_1)
           clear hcl47 hcc47 hfr47 hM47
           go_wp2_with (first | ((with_reducible refine gate_store (t := 43) (p := 73) rfl ?_); refine store_event (t := 43) (p := 73) (v := ?vo_w48) (w1 := ((wr.setCell ⟨go42, (x16_3 : Int).toNat * 2, none⟩ (.int .i64 (-1))).setCell ⟨go42, (x16_3 : Int).toNat * 2 + 1, none⟩ (.int .i64 0))) ?hg ?ho ?hn ?hr ?_; (case ho => rfl); (case hg => rfl); (case hn => rfl); (case hr => first | (go_simp; done) | (go_simp; rfl)); intro w48 hw; have hg : wr.grownBy w48 (some go42) := (by rw [hw]; exact HP47.2); have hp_ : Kd.R k43 43 w48 w.heap.size (fun k_ => some k_ ≠ (u398001 : Value).ownBlock) (.slice (some ⟨go42, 0, none⟩) x406001_3.length co46) y410 := (by rw [hw, Ny410.out]; exact HP47.1); clear HP47; have n0_ := Aside0.mk (Kd.R_after (v := (.slice (some ⟨go42, 0, none⟩) x406001_3.length co46)) (v1 := (.slice (some ⟨go42, 0, none⟩) x406001_3.length co46)) (ok := (fun _ => True)) (by (with_reducible repeat (first | apply Kd.R_alloc | apply Kd.R_drewN | apply Kd.R_drew)); exact Kd.R_mono HO_398001.out (fun _ hk => ⟨trivial, hk⟩)) hg (.inl rfl)); have n1_ := Aside0.mk (hp_); have n2_ := Aside0.mk (blk_grown (g := gb386) (o := .cells #[.string a0_0, .slice A0_1 l0_1.length c0_1] 24 (0, 0)) (Zr BK386) hg (Kd.R_ne HO_406001.out BK386.out (by decide))); have n3_ := Aside0.mk (blk_grown (g := gb397) (o := .cells #[.string t392, u398001] 24 (0, 0)) (Zr BK397) hg (Kd.R_ne HO_406001.out BK397.out (by decide))); have n4_ := Aside0.mk (blk_grown (g := gb405) (o := .cells #[.string t400, .slice (some ⟨go42, 0, none⟩) x406001_3.length co46] 24 (0, 0)) (Zr BK405) hg (Kd.R_ne HO_406001.out BK405.out (by decide))); have n5_ := Aside0.mk ((by rw [hw]; exact Ys (Ys (HB.out) GB42.out) GB42.out : Below w.heap.size w w48)); clear HO_398001; clear HO_406001; clear BK386; clear BK397; clear BK405; clear HB; have HO_398001 := n0_; have HO_406001 := n1_; have BK386 := n2_; have BK397 := n3_; have BK405 := n4_; have HB := n5_; clear n0_ n1_ n2_ n3_ n4_ n5_; clear hg hw hp_))
           go_roundg k3
           case measure => have := HK1.out; have := HJ20.out; have := HK3.out; omega
           case rel => exact ⟨(wrap64 (x16_3 + 1)), (x398001_3), (y410), (u398001), (.slice (some ⟨go42, 0, none⟩) x406001_3.length co46), (by first | rfl | (simp; done) | (simp [*]; done)), H', ⟨by have := HK1.out; have := HJ20.out; have := HK3.out; omega⟩, ⟨by (with_reducible repeat (first | apply Kd.R_alloc | apply Kd.R_drewN | apply Kd.R_drew)); exact Kd.R_mono HO_398001.out (fun _ hk => hk.2)⟩, ⟨by (with_reducible repeat (first | apply Kd.R_alloc | apply Kd.R_drewN | apply Kd.R_drew)); exact HO_406001.out⟩, ⟨by (with_reducible repeat first | apply Zn | apply Zd | apply Za); exact BK386.out⟩, ⟨by (with_reducible repeat first | apply Zn | apply Zd | apply Za); exact BK397.out⟩, ⟨by (with_reducible repeat first | apply Zn | apply Zd | apply Za); exact BK405.out⟩, ⟨Yr HB⟩⟩
          ·
           rw [if_neg c41] at H
           exact absurd H (by simp)
         ·
          rw [if_neg c40] at H
          have c40b0 : decide (x16_3 < (x406001_3.length : Int)) = false := decide_eq_false c40
          clear c40
          have H' := Aside0.mk H
          clear H
          obtain ⟨hnb49, hnc49⟩ := Zo NB405_386
          obtain ⟨hnb50, hnc50⟩ := Zo NB405_397
          obtain ⟨⟨hcz51_0, hcz51_1⟩, hfz51_0, hfz51_1⟩ := Zk2 BK405
          obtain ⟨Ao52, co52, eo52⟩ := Kd.R_slice HO_406001.out
          subst eo52
          go_wp2
          go_roundg k3
          case measure => have := HK1.out; have := HJ20.out; have := HK3.out; omega
          case rel => exact ⟨(wrap64 (x12_1 + 1)), (x398001_3), (u398001), (by first | rfl | (simp; done) | (simp [*]; done)), H', ⟨by have := HK1.out; have := HJ20.out; have := HK3.out; omega⟩, ⟨by (with_reducible repeat (first | apply Kd.R_alloc | apply Kd.R_drewN | apply Kd.R_drew)); exact Kd.R_mono HO_398001.out (fun _ hk => trivial)⟩, ⟨by (with_reducible repeat first | apply Zn | apply Zd | apply Za); exact BK386.out⟩, ⟨by (with_reducible repeat first | apply Zn | apply Zd | apply Za); exact BK397.out⟩, ⟨Yr HB⟩⟩
   ·
    rw [if_neg c18] at H
    have c18b0 : decide (x12_1 < 2) = false := decide_eq_false c18
    clear c18
    by_cases c53 : t387 = true
    ·
     subst c53
     have H1 : (if t388.toList = t390.toList then (if t391 = true then (if t389.isNone = true then (some true) else (some false)) else ((palinodelaw18_is.f t389 1).bind fun t399 => (some t399))) else (some false)) = some r := by rw [if_pos rfl] at H; exact H
     clear H
     have H := H1
     clear H1
     by_cases c54 : t388.toList = t390.toList
     ·
      rw [if_pos c54] at H
      have c54b0 : (t388.toList == t390.toList) = true := beq_iff_eq.mpr c54
      have c54b1 : (t388.toList != t390.toList) = false := bne_eq_false_iff_eq.mpr c54
      clear c54
      by_cases c55 : t391 = true
      ·
       subst c55
       have H1 : (if t389.isNone = true then (some true) else (some false)) = some r := by rw [if_pos rfl] at H; exact H
       clear H
       have H := H1
       clear H1
       rcases t389 with _ | q398
       ·
        have H1 : (some true) = some r := by rw [if_pos (show (none : Option Int).isNone = true by rfl)] at H; exact H
        clear H
        have H := H1
        clear H1
        try simp only [errW_none, errW_some]
        obtain rfl := Option.some.inj H
        go_wp2
        go_ret
        exact ⟨by first | rfl | (simp [errW_none, errW_some] <;> rfl) | (simp [*, errW_none, errW_some] <;> rfl), Yr HB⟩
       ·
        have H1 : (some false) = some r := by rw [if_neg (show ¬ (some q398).isNone = true by simp)] at H; exact H
        clear H
        have H := H1
        clear H1
        try simp only [errW_none, errW_some]
        exact absurd ((Option.some.inj H).trans HRT_.out) (by decide)
      ·
       replace c55 := Bool.eq_false_iff.mpr c55
       subst c55
       have H1 : ((palinodelaw18_is.f t389 1).bind fun t399 => (some t399)) = some r := by rw [if_neg (show ¬ (false = true) by decide)] at H; exact H
       clear H
       have H := H1
       clear H1
       replace H := Option.bind_eq_some_iff.mp H
       obtain ⟨t399, A560, H⟩ := H
       replace H : (some t399) = some r := H
       have A56 := Aside0.mk A560
       clear A560
       obtain rfl := Option.some.inj H
       have CA56 := fun W => palinodelaw18_is.calls t389 1 t399 W A56.out
       try simp only [errW_none, errW_some] at CA56
       go_wp2_with (first | (go_at_call 20; (with_reducible refine (CA56 _).mono ?_); rintro e w' ⟨rfl, ⟨nd, rfl⟩⟩))
       go_ret
       exact ⟨by first | rfl | (simp [errW_none, errW_some] <;> rfl) | (simp [*, errW_none, errW_some] <;> rfl), Yr HB⟩
     ·
      rw [if_neg c54] at H
      have c54b0 : (t388.toList == t390.toList) = false := beq_eq_false_iff_ne.mpr c54
      have c54b1 : (t388.toList != t390.toList) = true := bne_iff_ne.mpr c54
      exact absurd ((Option.some.inj H).trans HRT_.out) (by decide)
    ·
     replace c53 := Bool.eq_false_iff.mpr c53
     subst c53
     have H1 : (some false) = some r := by rw [if_neg (show ¬ (false = true) by decide)] at H; exact H
     clear H
     have H := H1
     clear H1
     exact absurd ((Option.some.inj H).trans HRT_.out) (by decide)

/-- THE ONE PURE STATEMENT of palinodelaw18_DefineBytes. -/
def palinodelaw18_DefineBytes.Pure : Prop := (∀ k_ r_, palinodelaw18_examples.f k_ = some r_ → r_ = true) ∧ ∀ (a0_0 : ByteArray) (l0_1 : List (S43)) (a1 : ByteArray), a0_0.size ≤ 140737488351232 → (l0_1.length ≤ maxLen ∧ l0_1.length * 16 ≤ 140737488351232 ∧ ∀ x_ ∈ l0_1, V43 x_) → a1.size ≤ 140737488351232 → (a0_0.size + 1) + ((l0_1.map fun y_ : S43 => (1 + 1 + 1)).sum + 1) + (a1.size + 1) ≤ 1048576 → ∃ k, palinodelaw18_DefineBytes.f k a0_0 l0_1 a1 = some true
theorem palinodelaw18_DefineBytes.walk (P : palinodelaw18_DefineBytes.Pure) (a0_0 : ByteArray) (A0_1 : Option Addr) (c0_1 : Nat) (l0_1 : List (S43)) (a1 : ByteArray) (w : World) (v0_0 : a0_0.size ≤ 140737488351232) (hr0_1 : Kd.C k43 w A0_1 l0_1.length l0_1) (hc0_1 : l0_1.length ≤ c0_1) (v0_1 : (l0_1.length ≤ maxLen ∧ l0_1.length * 16 ≤ 140737488351232 ∧ ∀ x_ ∈ l0_1, V43 x_)) (v1 : a1.size ≤ 140737488351232) (vbk_ : (a0_0.size + 1) + ((l0_1.map fun y_ : S43 => (1 + 1 + 1)).sum + 1) + (a1.size + 1) ≤ 1048576) :
  Calls Try.prog 4 #[.agg #[.string a0_0, .slice A0_1 l0_1.length c0_1], .string a1] w fun e w' => e = .returned (.bool true) ∧ Below w.heap.size w w' := by
 obtain ⟨k, h⟩ := P.2 a0_0 l0_1 a1 v0_0 v0_1 v1 vbk_
 refine (palinodelaw18_DefineBytes.calls k a0_0 A0_1 c0_1 l0_1 a1 true w hr0_1 hc0_1 h ⟨P.1⟩).mono ?_
 rintro e w' ⟨rfl, hd⟩
 exact ⟨rfl, hd⟩

end Go.Proofs.Ytnmlnngmfagmfaa.Print
