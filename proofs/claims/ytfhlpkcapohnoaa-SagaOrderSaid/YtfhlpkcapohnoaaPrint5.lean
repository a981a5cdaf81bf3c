-- Printed out of the translation by a program of this session's own. Not trusted: Lean checks it.
import Derived.Test.YtfhlpkcapohnoaaPrint0
import Derived.Test.YtfhlpkcapohnoaaPrint2
import Derived.Test.YtfhlpkcapohnoaaPrint3
import Derived.Test.YtfhlpkcapohnoaaPrint4
namespace Go.Proofs.Ytfhlpkcapohnoaa.Print
open Go.RowKit Go.Proofs.YtfhlpkcapohnoaaW.PrintWords Go.Proofs.YtfhlpkcapohnoaaW.PrintLast Go.Proofs.YtfhlpkcapohnoaaX
set_option linter.unusedVariables false
set_option linter.unusedSimpArgs false

/-! ### saga_Reply: function 23 -/
mutual
def saga_Reply.j0 : Nat → Int → Int → Bool → ByteArray → List (S53) → ByteArray → ByteArray → Int → Int → Int → Int → Bool → Option (ByteArray × ByteArray × Int × Int × Int × Int × Bool × Bool)
 | 0, _, _, _, _, _, _, _, _, _, _, _, _ => none
 | k + 1, x4, x5, x46, x161000, x161001, x162000, x162001, x162002, x162003, x162004, x162005, x162006 => if x46 = true then (some (x162000, x162001, x162002, x162003, x162004, x162005, x162006, false)) else (if x4 = 1 then (if x162002 = 1 then (if (wrap64 (x162003 + 1)) = (x161001.length : Int) then ((saga_end.f x162000 x162001 x162002 x162003 x162004 x162005 x162006 3 (wrap64 (x162003 + 1))).bind fun bt178 => (some (bt178.1, bt178.2.1, bt178.2.2.1, bt178.2.2.2.1, bt178.2.2.2.2.1, bt178.2.2.2.2.2.1, bt178.2.2.2.2.2.2, true))) else ((saga_at.f x161000 x161001 x162000 x162001 x162002 x162003 x162004 x162005 x162006 1 (wrap64 (x162003 + 1)) x5).bind fun bt192 => (some (bt192.1, bt192.2.1, bt192.2.2.1, bt192.2.2.2.1, bt192.2.2.2.2.1, bt192.2.2.2.2.2.1, bt192.2.2.2.2.2.2, true)))) else ((saga_back.f x161000 x161001 x162000 x162001 x162002 x162003 x162004 x162005 x162006 x5).bind fun bt185 => (some (bt185.1, bt185.2.1, bt185.2.2.1, bt185.2.2.2.1, bt185.2.2.2.2.1, bt185.2.2.2.2.2.1, bt185.2.2.2.2.2.2, true)))) else (if x4 = 2 then (if x162002 = 1 then ((saga_back.f x161000 x161001 x162000 x162001 x162002 x162003 x162004 x162005 x162006 x5).bind fun bt171 => (some (bt171.1, bt171.2.1, bt171.2.2.1, bt171.2.2.2.1, bt171.2.2.2.2.1, bt171.2.2.2.2.2.1, bt171.2.2.2.2.2.2, true))) else (saga_Reply.j1 k x5 (x162002 == 1) x161000 x161001 x162000 x162001 x162002 x162003 x162004 x162005 x162006)) else (if x4 = 3 then (saga_Reply.j1 k x5 (x162002 == 1) x161000 x161001 x162000 x162001 x162002 x162003 x162004 x162005 x162006) else (some (x162000, x162001, x162002, x162003, x162004, x162005, x162006, false)))))
def saga_Reply.j1 : Nat → Int → Bool → ByteArray → List (S53) → ByteArray → ByteArray → Int → Int → Int → Int → Bool → Option (ByteArray × ByteArray × Int × Int × Int × Int × Bool × Bool)
 | 0, _, _, _, _, _, _, _, _, _, _, _ => none
 | k + 1, x5, x16, x161000, x161001, x162000, x162001, x162002, x162003, x162004, x162005, x162006 => if 0 ≤ x162003 then (if x162003 < (x161001.length : Int) then (if x162004 < ((rd_T53 x161001 x162003).f0) then ((saga_wait.f x161000 x161001 x162000 x162001 x162002 x162003 (wrap64 (x162004 + 1)) x162005 x162006 x5).bind fun bt200 => (some (bt200.1, bt200.2.1, bt200.2.2.1, bt200.2.2.2.1, bt200.2.2.2.2.1, bt200.2.2.2.2.2.1, bt200.2.2.2.2.2.2, true))) else (if x16 = true then ((saga_at.f x161000 x161001 x162000 x162001 x162002 x162003 x162004 x162005 x162006 2 x162003 x5).bind fun bt207 => (some (bt207.1, bt207.2.1, bt207.2.2.1, bt207.2.2.2.1, bt207.2.2.2.2.1, bt207.2.2.2.2.2.1, bt207.2.2.2.2.2.2, true))) else ((saga_end.f x162000 x162001 x162002 x162003 x162004 x162005 x162006 5 x162003).bind fun bt214 => (some (bt214.1, bt214.2.1, bt214.2.2.1, bt214.2.2.2.1, bt214.2.2.2.2.1, bt214.2.2.2.2.2.1, bt214.2.2.2.2.2.2, true))))) else (none)) else (none)
end
def saga_Reply.f (k : Nat) (a0_0 : ByteArray) (l0_1 : List (S53)) (a1_0 : ByteArray) (a1_1 : ByteArray) (a1_2 : Int) (a1_3 : Int) (a1_4 : Int) (a1_5 : Int) (a1_6 : Bool) (a2 : Int) (a3 : Int) (a4 : Int) (a5 : Int) : Option (ByteArray × ByteArray × Int × Int × Int × Int × Bool × Bool) := (saga_Command.f a1_0 a1_1 a1_2 a1_3 a1_4 a1_5 a1_6).bind fun bt163 => (if bt163.2.2.2.2 = true then ((saga_Right.f k a0_0 l0_1 a1_0 a1_1 a1_2 a1_3 a1_4 a1_5 a1_6).bind fun t169 => (if t169 = true then (if a2 = bt163.2.1 then (if a3 = bt163.2.2.1 then ((saga_time.f a5).bind fun t170 => (saga_Reply.j0 k a4 a5 (!t170) a0_0 l0_1 a1_0 a1_1 a1_2 a1_3 a1_4 a1_5 a1_6)) else (saga_Reply.j0 k a4 a5 true a0_0 l0_1 a1_0 a1_1 a1_2 a1_3 a1_4 a1_5 a1_6)) else (saga_Reply.j0 k a4 a5 true a0_0 l0_1 a1_0 a1_1 a1_2 a1_3 a1_4 a1_5 a1_6)) else (saga_Reply.j0 k a4 a5 true a0_0 l0_1 a1_0 a1_1 a1_2 a1_3 a1_4 a1_5 a1_6))) else (saga_Reply.j0 k a4 a5 true a0_0 l0_1 a1_0 a1_1 a1_2 a1_3 a1_4 a1_5 a1_6))
theorem saga_Reply.mono_l : ∀ k, (∀ y0 y1 y2 y3 y4 y5 y6 y7 y8 y9 y10 y11, LeO (saga_Reply.j0 k y0 y1 y2 y3 y4 y5 y6 y7 y8 y9 y10 y11) (saga_Reply.j0 (k + 1) y0 y1 y2 y3 y4 y5 y6 y7 y8 y9 y10 y11)) ∧ (∀ y0 y1 y2 y3 y4 y5 y6 y7 y8 y9 y10, LeO (saga_Reply.j1 k y0 y1 y2 y3 y4 y5 y6 y7 y8 y9 y10) (saga_Reply.j1 (k + 1) y0 y1 y2 y3 y4 y5 y6 y7 y8 y9 y10))
 | 0 => ⟨fun _ _ _ _ _ _ _ _ _ _ _ _ r h => by simp [saga_Reply.j0] at h, fun _ _ _ _ _ _ _ _ _ _ _ r h => by simp [saga_Reply.j1] at h⟩
 | k + 1 => by
  obtain ⟨ih0, ih1⟩ := saga_Reply.mono_l k
  refine ⟨?_, ?_⟩
  ·
   intro y0 y1 y2 y3 y4 y5 y6 y7 y8 y9 y10 y11
   unfold saga_Reply.j0
   repeat' first
   | (with_reducible exact ih0 _ _ _ _ _ _ _ _ _ _ _ _)
   | (with_reducible exact ih1 _ _ _ _ _ _ _ _ _ _ _)
   | (with_reducible exact saga_Right.mono _ _ _ _ _ _ _ _ _ _)
   | (with_reducible exact LeO.refl _)
   | (with_reducible exact LeO.none _)
   | (with_reducible refine LeO.ite ?_ ?_)
   | (with_reducible refine LeO.bind ?_ (fun _ => ?_))
   | exact ih0 _ _ _ _ _ _ _ _ _ _ _ _
   | exact ih1 _ _ _ _ _ _ _ _ _ _ _
   | exact saga_Right.mono _ _ _ _ _ _ _ _ _ _
   | exact LeO.none _
   | refine LeO.ite ?_ ?_
   | refine LeO.bind ?_ (fun _ => ?_)
  ·
   intro y0 y1 y2 y3 y4 y5 y6 y7 y8 y9 y10
   unfold saga_Reply.j1
   repeat' first
   | (with_reducible exact ih0 _ _ _ _ _ _ _ _ _ _ _ _)
   | (with_reducible exact ih1 _ _ _ _ _ _ _ _ _ _ _)
   | (with_reducible exact saga_Right.mono _ _ _ _ _ _ _ _ _ _)
   | (with_reducible exact LeO.refl _)
   | (with_reducible exact LeO.none _)
   | (with_reducible refine LeO.ite ?_ ?_)
   | (with_reducible refine LeO.bind ?_ (fun _ => ?_))
   | exact ih0 _ _ _ _ _ _ _ _ _ _ _ _
   | exact ih1 _ _ _ _ _ _ _ _ _ _ _
   | exact saga_Right.mono _ _ _ _ _ _ _ _ _ _
   | exact LeO.none _
   | refine LeO.ite ?_ ?_
   | refine LeO.bind ?_ (fun _ => ?_)
theorem saga_Reply.mono : ∀ a0 a1 a2 a3 a4 a5 a6 a7 a8 a9 a10 a11 a12 k, LeO (saga_Reply.f k a0 a1 a2 a3 a4 a5 a6 a7 a8 a9 a10 a11 a12) (saga_Reply.f (k + 1) a0 a1 a2 a3 a4 a5 a6 a7 a8 a9 a10 a11 a12) := by
 intro a0 a1 a2 a3 a4 a5 a6 a7 a8 a9 a10 a11 a12 k
 obtain ⟨ih0, ih1⟩ := saga_Reply.mono_l k
 unfold saga_Reply.f
 repeat' first
   | (with_reducible exact ih0 _ _ _ _ _ _ _ _ _ _ _ _)
   | (with_reducible exact ih1 _ _ _ _ _ _ _ _ _ _ _)
   | (with_reducible exact saga_Right.mono _ _ _ _ _ _ _ _ _ _)
   | (with_reducible exact LeO.refl _)
   | (with_reducible exact LeO.none _)
   | (with_reducible refine LeO.ite ?_ ?_)
   | (with_reducible refine LeO.bind ?_ (fun _ => ?_))
   | exact ih0 _ _ _ _ _ _ _ _ _ _ _ _
   | exact ih1 _ _ _ _ _ _ _ _ _ _ _
   | exact saga_Right.mono _ _ _ _ _ _ _ _ _ _
   | exact LeO.none _
   | refine LeO.ite ?_ ?_
   | refine LeO.bind ?_ (fun _ => ?_)
set_option maxHeartbeats 8000000 in
set_option maxRecDepth 100000 in
theorem saga_Reply.calls (k : Nat) (a0_0 : ByteArray) (A0_1 : Option Addr) (c0_1 : Nat) (l0_1 : List (S53)) (a1_0 : ByteArray) (a1_1 : ByteArray) (a1_2 : Int) (a1_3 : Int) (a1_4 : Int) (a1_5 : Int) (a1_6 : Bool) (a2 : Int) (a3 : Int) (a4 : Int) (a5 : Int) (r1 : ByteArray) (r2 : ByteArray) (r3 : Int) (r4 : Int) (r5 : Int) (r6 : Int) (r7 : Bool) (r8 : Bool) (w : World) (hr0_1 : Kd.C k53 w A0_1 l0_1.length l0_1) (hc0_1 : l0_1.length ≤ c0_1) (h : saga_Reply.f k a0_0 l0_1 a1_0 a1_1 a1_2 a1_3 a1_4 a1_5 a1_6 a2 a3 a4 a5 = some (r1, r2, r3, r4, r5, r6, r7, r8)) :
  Calls Try.prog 23 #[.agg #[.string a0_0, .slice A0_1 l0_1.length c0_1], .agg #[.string a1_0, .string a1_1, .int .i64 a1_2, .int .i64 a1_3, .int .i64 a1_4, .int .i64 a1_5, .bool a1_6], .int .i64 a2, .int .i64 a3, .int .i64 a4, .int .i64 a5] w fun e w' => e = .returned (.tuple #[.agg #[.string r1, .string r2, .int .i64 r3, .int .i64 r4, .int .i64 r5, .int .i64 r6, .bool r7], .bool r8]) ∧ Below w.heap.size w w' := by
 have hu24 := Try.underlying24
 have hu26 := Try.underlying26
 have hu35 := Try.underlying35
 have HR0_1 := Aside0.mk hr0_1
 have HC0_1 := Aside0.mk hc0_1
 clear hr0_1 hc0_1
 have HB := Aside0.mk (Below.refl w.heap.size w)
 have H : ((saga_Command.f a1_0 a1_1 a1_2 a1_3 a1_4 a1_5 a1_6).bind fun bt163 => (if bt163.2.2.2.2 = true then ((saga_Right.f k a0_0 l0_1 a1_0 a1_1 a1_2 a1_3 a1_4 a1_5 a1_6).bind fun t169 => (if t169 = true then (if a2 = bt163.2.1 then (if a3 = bt163.2.2.1 then ((saga_time.f a5).bind fun t170 => (saga_Reply.j0 k a4 a5 (!t170) a0_0 l0_1 a1_0 a1_1 a1_2 a1_3 a1_4 a1_5 a1_6)) else (saga_Reply.j0 k a4 a5 true a0_0 l0_1 a1_0 a1_1 a1_2 a1_3 a1_4 a1_5 a1_6)) else (saga_Reply.j0 k a4 a5 true a0_0 l0_1 a1_0 a1_1 a1_2 a1_3 a1_4 a1_5 a1_6)) else (saga_Reply.j0 k a4 a5 true a0_0 l0_1 a1_0 a1_1 a1_2 a1_3 a1_4 a1_5 a1_6))) else (saga_Reply.j0 k a4 a5 true a0_0 l0_1 a1_0 a1_1 a1_2 a1_3 a1_4 a1_5 a1_6))) = some (r1, r2, r3, r4, r5, r6, r7, r8) := h
 clear h
 replace H := Option.bind_eq_some_iff.mp H
 obtain ⟨⟨t163, t164, t165, t166, t167⟩, A70, H⟩ := H
 replace H : (if t167 = true then ((saga_Right.f k a0_0 l0_1 a1_0 a1_1 a1_2 a1_3 a1_4 a1_5 a1_6).bind fun t169 => (if t169 = true then (if a2 = t164 then (if a3 = t165 then ((saga_time.f a5).bind fun t170 => (saga_Reply.j0 k a4 a5 (!t170) a0_0 l0_1 a1_0 a1_1 a1_2 a1_3 a1_4 a1_5 a1_6)) else (saga_Reply.j0 k a4 a5 true a0_0 l0_1 a1_0 a1_1 a1_2 a1_3 a1_4 a1_5 a1_6)) else (saga_Reply.j0 k a4 a5 true a0_0 l0_1 a1_0 a1_1 a1_2 a1_3 a1_4 a1_5 a1_6)) else (saga_Reply.j0 k a4 a5 true a0_0 l0_1 a1_0 a1_1 a1_2 a1_3 a1_4 a1_5 a1_6))) else (saga_Reply.j0 k a4 a5 true a0_0 l0_1 a1_0 a1_1 a1_2 a1_3 a1_4 a1_5 a1_6)) = some (r1, r2, r3, r4, r5, r6, r7, r8) := H
 have A7 := Aside0.mk A70
 clear A70
 have HC8 := Aside0.mk H
 clear H
 go_enter Try.func23, Try.ntmps23
 go_upto_region 2 with (first | ((with_reducible refine gate_dst (N := 6) rfl ?_); refine box_event ?hg (N := 6) ?hd (cs := #[.string a0_0, .slice A0_1 l0_1.length c0_1]) (t := 24) ?hr ?_; (case hd => rfl); (case hg => rfl); (case hr => first | (go_simp; done) | (go_simp; rfl)); intro gb160 hg w9 hbox hb; have n0_ := Aside0.mk (Yv HB hb); have n1_ := Aside0.mk (hbox); have n2_ := Aside0.mk (Yg HB hg); have n3_ := Aside0.mk (Yg HB hg); clear HB; have HB := n0_; have BK160 := n1_; have GW160 := n2_; have GE160 := n3_; clear n0_ n1_ n2_ n3_; clear hb hbox hg) | ((with_reducible refine gate_dst (N := 7) rfl ?_); refine box_event ?hg (N := 7) ?hd (cs := #[.string a1_0, .string a1_1, .int .i64 a1_2, .int .i64 a1_3, .int .i64 a1_4, .int .i64 a1_5, .bool a1_6]) (t := 26) ?hr ?_; (case hd => rfl); (case hg => rfl); (case hr => first | (go_simp; done) | (go_simp; rfl)); intro gb161 hg w10 hbox hb; have n0_ := Aside0.mk (Zv BK160 hb); have n1_ := Aside0.mk (Yv HB hb); have n2_ := Aside0.mk (hbox); have n3_ := Aside0.mk (Yg HB hg); have n4_ := Aside0.mk (Yg HB hg); have n5_ := Aside0.mk (Zl BK160 hg); have n6_ := Aside0.mk (Zg BK160 hg); clear BK160; clear HB; have BK160 := n0_; have HB := n1_; have BK161 := n2_; have GW161 := n3_; have GE161 := n4_; have NB160_161 := n5_; have NB161_160 := n6_; clear n0_ n1_ n2_ n3_ n4_ n5_ n6_; clear hb hbox hg) | ((with_reducible refine gate_dst (N := 12) rfl ?_); refine box_event ?hg (N := 12) ?hd (cs := #[.string (⟨#[]⟩ : ByteArray), .string (⟨#[]⟩ : ByteArray), .int .i64 0, .int .i64 0, .int .i64 0, .int .i64 0, .bool false]) (t := 26) ?hr ?_; (case hd => rfl); (case hg => rfl); (case hr => first | (go_simp; done) | (go_simp; rfl)); intro gb162 hg w11 hbox hb; have n0_ := Aside0.mk (Zv BK160 hb); have n1_ := Aside0.mk (Zv BK161 hb); have n2_ := Aside0.mk (Yv HB hb); have n3_ := Aside0.mk (hbox); have n4_ := Aside0.mk (Yg HB hg); have n5_ := Aside0.mk (Yg HB hg); have n6_ := Aside0.mk (Zl BK160 hg); have n7_ := Aside0.mk (Zg BK160 hg); have n8_ := Aside0.mk (Zl BK161 hg); have n9_ := Aside0.mk (Zg BK161 hg); clear BK160; clear BK161; clear HB; have BK160 := n0_; have BK161 := n1_; have HB := n2_; have BK162 := n3_; have GW162 := n4_; have GE162 := n5_; have NB160_162 := n6_; have NB162_160 := n7_; have NB161_162 := n8_; have NB162_161 := n9_; clear n0_ n1_ n2_ n3_ n4_ n5_ n6_ n7_ n8_ n9_; clear hb hbox hg; obtain ⟨hnb12, hnc12⟩ := Zo NB161_160; obtain ⟨hnb13, hnc13⟩ := Zo NB161_162; obtain ⟨⟨hcz14_0, hcz14_1, hcz14_2, hcz14_3, hcz14_4, hcz14_5, hcz14_6⟩, hfz14_0, hfz14_1, hfz14_2, hfz14_3, hfz14_4, hfz14_5, hfz14_6⟩ := Zk7 BK161) | (go_at_call 16; (with_reducible refine (saga_Command.calls a1_0 a1_1 a1_2 a1_3 a1_4 a1_5 a1_6 t163 t164 t165 t166 t167 _ A7.out).mono ?_); rintro e w15 ⟨rfl, hb⟩; have n0_ := Aside0.mk (Zv BK160 hb); have n1_ := Aside0.mk (Zv BK161 hb); have n2_ := Aside0.mk (Zv BK162 hb); have n3_ := Aside0.mk (Yv HB hb); clear BK160; clear BK161; clear BK162; clear HB; have BK160 := n0_; have BK161 := n1_; have BK162 := n2_; have HB := n3_; clear n0_ n1_ n2_ n3_; (try clear hb); (try clear hb2); (try clear hk); (try clear hi)) | ((with_reducible refine gate_dst (N := 14) rfl ?_); refine box_event ?hg (N := 14) ?hd (cs := #[.string (⟨#[]⟩ : ByteArray), .int .i64 0, .int .i64 0, .int .i64 0]) (t := 35) ?hr ?_; (case hd => rfl); (case hg => rfl); (case hr => first | (go_simp; done) | (go_simp; rfl)); intro gb168 hg w16 hbox hb; have n0_ := Aside0.mk (Zv BK160 hb); have n1_ := Aside0.mk (Zv BK161 hb); have n2_ := Aside0.mk (Zv BK162 hb); have n3_ := Aside0.mk (Yv HB hb); have n4_ := Aside0.mk (hbox); have n5_ := Aside0.mk (Yg HB hg); have n6_ := Aside0.mk (Yg HB hg); have n7_ := Aside0.mk (Zl BK160 hg); have n8_ := Aside0.mk (Zg BK160 hg); have n9_ := Aside0.mk (Zl BK161 hg); have n10_ := Aside0.mk (Zg BK161 hg); have n11_ := Aside0.mk (Zl BK162 hg); have n12_ := Aside0.mk (Zg BK162 hg); clear BK160; clear BK161; clear BK162; clear HB; have BK160 := n0_; have BK161 := n1_; have BK162 := n2_; have HB := n3_; have BK168 := n4_; have GW168 := n5_; have GE168 := n6_; have NB160_168 := n7_; have NB168_160 := n8_; have NB161_168 := n9_; have NB168_161 := n10_; have NB162_168 := n11_; have NB168_162 := n12_; clear n0_ n1_ n2_ n3_ n4_ n5_ n6_ n7_ n8_ n9_ n10_ n11_ n12_; clear hb hbox hg; obtain ⟨hnb17, hnc17⟩ := Zo NB168_160; obtain ⟨hnb18, hnc18⟩ := Zo NB168_161; obtain ⟨hnb19, hnc19⟩ := Zo NB168_162; obtain ⟨⟨hcz20_0, hcz20_1, hcz20_2, hcz20_3⟩, hfz20_0, hfz20_1, hfz20_2, hfz20_3⟩ := Zk4 BK168))
 repeat (go_quiet (first | ((with_reducible refine gate_dst (N := 6) rfl ?_); refine box_event ?hg (N := 6) ?hd (cs := #[.string a0_0, .slice A0_1 l0_1.length c0_1]) (t := 24) ?hr ?_; (case hd => rfl); (case hg => rfl); (case hr => first | (go_simp; done) | (go_simp; rfl)); intro gb160 hg w9 hbox hb; have n0_ := Aside0.mk (Yv HB hb); have n1_ := Aside0.mk (hbox); have n2_ := Aside0.mk (Yg HB hg); have n3_ := Aside0.mk (Yg HB hg); clear HB; have HB := n0_; have BK160 := n1_; have GW160 := n2_; have GE160 := n3_; clear n0_ n1_ n2_ n3_; clear hb hbox hg) | ((with_reducible refine gate_dst (N := 7) rfl ?_); refine box_event ?hg (N := 7) ?hd (cs := #[.string a1_0, .string a1_1, .int .i64 a1_2, .int .i64 a1_3, .int .i64 a1_4, .int .i64 a1_5, .bool a1_6]) (t := 26) ?hr ?_; (case hd => rfl); (case hg => rfl); (case hr => first | (go_simp; done) | (go_simp; rfl)); intro gb161 hg w10 hbox hb; have n0_ := Aside0.mk (Zv BK160 hb); have n1_ := Aside0.mk (Yv HB hb); have n2_ := Aside0.mk (hbox); have n3_ := Aside0.mk (Yg HB hg); have n4_ := Aside0.mk (Yg HB hg); have n5_ := Aside0.mk (Zl BK160 hg); have n6_ := Aside0.mk (Zg BK160 hg); clear BK160; clear HB; have BK160 := n0_; have HB := n1_; have BK161 := n2_; have GW161 := n3_; have GE161 := n4_; have NB160_161 := n5_; have NB161_160 := n6_; clear n0_ n1_ n2_ n3_ n4_ n5_ n6_; clear hb hbox hg) | ((with_reducible refine gate_dst (N := 12) rfl ?_); refine box_event ?hg (N := 12) ?hd (cs := #[.string (⟨#[]⟩ : ByteArray), .string (⟨#[]⟩ : ByteArray), .int .i64 0, .int .i64 0, .int .i64 0, .int .i64 0, .bool false]) (t := 26) ?hr ?_; (case hd => rfl); (case hg => rfl); (case hr => first | (go_simp; done) | (go_simp; rfl)); intro gb162 hg w11 hbox hb; have n0_ := Aside0.mk (Zv BK160 hb); have n1_ := Aside0.mk (Zv BK161 hb); have n2_ := Aside0.mk (Yv HB hb); have n3_ := Aside0.mk (hbox); have n4_ := Aside0.mk (Yg HB hg); have n5_ := Aside0.mk (Yg HB hg); have n6_ := Aside0.mk (Zl BK160 hg); have n7_ := Aside0.mk (Zg BK160 hg); have n8_ := Aside0.mk (Zl BK161 hg); have n9_ := Aside0.mk (Zg BK161 hg); clear BK160; clear BK161; clear HB; have BK160 := n0_; have BK161 := n1_; have HB := n2_; have BK162 := n3_; have GW162 := n4_; have GE162 := n5_; have NB160_162 := n6_; have NB162_160 := n7_; have NB161_162 := n8_; have NB162_161 := n9_; clear n0_ n1_ n2_ n3_ n4_ n5_ n6_ n7_ n8_ n9_; clear hb hbox hg; obtain ⟨hnb12, hnc12⟩ := Zo NB161_160; obtain ⟨hnb13, hnc13⟩ := Zo NB161_162; obtain ⟨⟨hcz14_0, hcz14_1, hcz14_2, hcz14_3, hcz14_4, hcz14_5, hcz14_6⟩, hfz14_0, hfz14_1, hfz14_2, hfz14_3, hfz14_4, hfz14_5, hfz14_6⟩ := Zk7 BK161) | (go_at_call 16; (with_reducible refine (saga_Command.calls a1_0 a1_1 a1_2 a1_3 a1_4 a1_5 a1_6 t163 t164 t165 t166 t167 _ A7.out).mono ?_); rintro e w15 ⟨rfl, hb⟩; have n0_ := Aside0.mk (Zv BK160 hb); have n1_ := Aside0.mk (Zv BK161 hb); have n2_ := Aside0.mk (Zv BK162 hb); have n3_ := Aside0.mk (Yv HB hb); clear BK160; clear BK161; clear BK162; clear HB; have BK160 := n0_; have BK161 := n1_; have BK162 := n2_; have HB := n3_; clear n0_ n1_ n2_ n3_; (try clear hb); (try clear hb2); (try clear hk); (try clear hi)) | ((with_reducible refine gate_dst (N := 14) rfl ?_); refine box_event ?hg (N := 14) ?hd (cs := #[.string (⟨#[]⟩ : ByteArray), .int .i64 0, .int .i64 0, .int .i64 0]) (t := 35) ?hr ?_; (case hd => rfl); (case hg => rfl); (case hr => first | (go_simp; done) | (go_simp; rfl)); intro gb168 hg w16 hbox hb; have n0_ := Aside0.mk (Zv BK160 hb); have n1_ := Aside0.mk (Zv BK161 hb); have n2_ := Aside0.mk (Zv BK162 hb); have n3_ := Aside0.mk (Yv HB hb); have n4_ := Aside0.mk (hbox); have n5_ := Aside0.mk (Yg HB hg); have n6_ := Aside0.mk (Yg HB hg); have n7_ := Aside0.mk (Zl BK160 hg); have n8_ := Aside0.mk (Zg BK160 hg); have n9_ := Aside0.mk (Zl BK161 hg); have n10_ := Aside0.mk (Zg BK161 hg); have n11_ := Aside0.mk (Zl BK162 hg); have n12_ := Aside0.mk (Zg BK162 hg); clear BK160; clear BK161; clear BK162; clear HB; have BK160 := n0_; have BK161 := n1_; have BK162 := n2_; have HB := n3_; have BK168 := n4_; have GW168 := n5_; have GE168 := n6_; have NB160_168 := n7_; have NB168_160 := n8_; have NB161_168 := n9_; have NB168_161 := n10_; have NB162_168 := n11_; have NB168_162 := n12_; clear n0_ n1_ n2_ n3_ n4_ n5_ n6_ n7_ n8_ n9_ n10_ n11_ n12_; clear hb hbox hg; obtain ⟨hnb17, hnc17⟩ := Zo NB168_160; obtain ⟨hnb18, hnc18⟩ := Zo NB168_161; obtain ⟨hnb19, hnc19⟩ := Zo NB168_162; obtain ⟨⟨hcz20_0, hcz20_1, hcz20_2, hcz20_3⟩, hfz20_0, hfz20_1, hfz20_2, hfz20_3⟩ := Zk4 BK168)); go_upto_region 2 with (first | ((with_reducible refine gate_dst (N := 6) rfl ?_); refine box_event ?hg (N := 6) ?hd (cs := #[.string a0_0, .slice A0_1 l0_1.length c0_1]) (t := 24) ?hr ?_; (case hd => rfl); (case hg => rfl); (case hr => first | (go_simp; done) | (go_simp; rfl)); intro gb160 hg w9 hbox hb; have n0_ := Aside0.mk (Yv HB hb); have n1_ := Aside0.mk (hbox); have n2_ := Aside0.mk (Yg HB hg); have n3_ := Aside0.mk (Yg HB hg); clear HB; have HB := n0_; have BK160 := n1_; have GW160 := n2_; have GE160 := n3_; clear n0_ n1_ n2_ n3_; clear hb hbox hg) | ((with_reducible refine gate_dst (N := 7) rfl ?_); refine box_event ?hg (N := 7) ?hd (cs := #[.string a1_0, .string a1_1, .int .i64 a1_2, .int .i64 a1_3, .int .i64 a1_4, .int .i64 a1_5, .bool a1_6]) (t := 26) ?hr ?_; (case hd => rfl); (case hg => rfl); (case hr => first | (go_simp; done) | (go_simp; rfl)); intro gb161 hg w10 hbox hb; have n0_ := Aside0.mk (Zv BK160 hb); have n1_ := Aside0.mk (Yv HB hb); have n2_ := Aside0.mk (hbox); have n3_ := Aside0.mk (Yg HB hg); have n4_ := Aside0.mk (Yg HB hg); have n5_ := Aside0.mk (Zl BK160 hg); have n6_ := Aside0.mk (Zg BK160 hg); clear BK160; clear HB; have BK160 := n0_; have HB := n1_; have BK161 := n2_; have GW161 := n3_; have GE161 := n4_; have NB160_161 := n5_; have NB161_160 := n6_; clear n0_ n1_ n2_ n3_ n4_ n5_ n6_; clear hb hbox hg) | ((with_reducible refine gate_dst (N := 12) rfl ?_); refine box_event ?hg (N := 12) ?hd (cs := #[.string (⟨#[]⟩ : ByteArray), .string (⟨#[]⟩ : ByteArray), .int .i64 0, .int .i64 0, .int .i64 0, .int .i64 0, .bool false]) (t := 26) ?hr ?_; (case hd => rfl); (case hg => rfl); (case hr => first | (go_simp; done) | (go_simp; rfl)); intro gb162 hg w11 hbox hb; have n0_ := Aside0.mk (Zv BK160 hb); have n1_ := Aside0.mk (Zv BK161 hb); have n2_ := Aside0.mk (Yv HB hb); have n3_ := Aside0.mk (hbox); have n4_ := Aside0.mk (Yg HB hg); have n5_ := Aside0.mk (Yg HB hg); have n6_ := Aside0.mk (Zl BK160 hg); have n7_ := Aside0.mk (Zg BK160 hg); have n8_ := Aside0.mk (Zl BK161 hg); have n9_ := Aside0.mk (Zg BK161 hg); clear BK160; clear BK161; clear HB; have BK160 := n0_; have BK161 := n1_; have HB := n2_; have BK162 := n3_; have GW162 := n4_; have GE162 := n5_; have NB160_162 := n6_; have NB162_160 := n7_; have NB161_162 := n8_; have NB162_161 := n9_; clear n0_ n1_ n2_ n3_ n4_ n5_ n6_ n7_ n8_ n9_; clear hb hbox hg; obtain ⟨hnb12, hnc12⟩ := Zo NB161_160; obtain ⟨hnb13, hnc13⟩ := Zo NB161_162; obtain ⟨⟨hcz14_0, hcz14_1, hcz14_2, hcz14_3, hcz14_4, hcz14_5, hcz14_6⟩, hfz14_0, hfz14_1, hfz14_2, hfz14_3, hfz14_4, hfz14_5, hfz14_6⟩ := Zk7 BK161) | (go_at_call 16; (with_reducible refine (saga_Command.calls a1_0 a1_1 a1_2 a1_3 a1_4 a1_5 a1_6 t163 t164 t165 t166 t167 _ A7.out).mono ?_); rintro e w15 ⟨rfl, hb⟩; have n0_ := Aside0.mk (Zv BK160 hb); have n1_ := Aside0.mk (Zv BK161 hb); have n2_ := Aside0.mk (Zv BK162 hb); have n3_ := Aside0.mk (Yv HB hb); clear BK160; clear BK161; clear BK162; clear HB; have BK160 := n0_; have BK161 := n1_; have BK162 := n2_; have HB := n3_; clear n0_ n1_ n2_ n3_; (try clear hb); (try clear hb2); (try clear hk); (try clear hi)) | ((with_reducible refine gate_dst (N := 14) rfl ?_); refine box_event ?hg (N := 14) ?hd (cs := #[.string (⟨#[]⟩ : ByteArray), .int .i64 0, .int .i64 0, .int .i64 0]) (t := 35) ?hr ?_; (case hd => rfl); (case hg => rfl); (case hr => first | (go_simp; done) | (go_simp; rfl)); intro gb168 hg w16 hbox hb; have n0_ := Aside0.mk (Zv BK160 hb); have n1_ := Aside0.mk (Zv BK161 hb); have n2_ := Aside0.mk (Zv BK162 hb); have n3_ := Aside0.mk (Yv HB hb); have n4_ := Aside0.mk (hbox); have n5_ := Aside0.mk (Yg HB hg); have n6_ := Aside0.mk (Yg HB hg); have n7_ := Aside0.mk (Zl BK160 hg); have n8_ := Aside0.mk (Zg BK160 hg); have n9_ := Aside0.mk (Zl BK161 hg); have n10_ := Aside0.mk (Zg BK161 hg); have n11_ := Aside0.mk (Zl BK162 hg); have n12_ := Aside0.mk (Zg BK162 hg); clear BK160; clear BK161; clear BK162; clear HB; have BK160 := n0_; have BK161 := n1_; have BK162 := n2_; have HB := n3_; have BK168 := n4_; have GW168 := n5_; have GE168 := n6_; have NB160_168 := n7_; have NB168_160 := n8_; have NB161_168 := n9_; have NB168_161 := n10_; have NB162_168 := n11_; have NB168_162 := n12_; clear n0_ n1_ n2_ n3_ n4_ n5_ n6_ n7_ n8_ n9_ n10_ n11_ n12_; clear hb hbox hg; obtain ⟨hnb17, hnc17⟩ := Zo NB168_160; obtain ⟨hnb18, hnc18⟩ := Zo NB168_161; obtain ⟨hnb19, hnc19⟩ := Zo NB168_162; obtain ⟨⟨hcz20_0, hcz20_1, hcz20_2, hcz20_3⟩, hfz20_0, hfz20_1, hfz20_2, hfz20_3⟩ := Zk4 BK168)))
 (try simp only [Act.put, List.setIfInBounds_toArray, List.set_cons_zero, List.set_cons_succ])
 go_cut [46] (fun v46 wc => ∃ (kq : Nat) (x46_7 : Bool), v46 = .bool x46_7 ∧ Aside0 (saga_Reply.j0 kq a4 a5 x46_7 a0_0 l0_1 a1_0 a1_1 a1_2 a1_3 a1_4 a1_5 a1_6 = some (r1, r2, r3, r4, r5, r6, r7, r8)) ∧ Aside0 (kq ≤ k) ∧ Aside0 (wc.heap[gb160]? = some (.cells #[.string a0_0, (.slice A0_1 l0_1.length c0_1)] 24 (0, 0))) ∧ Aside0 (wc.heap[gb161]? = some (.cells #[.string a1_0, .string a1_1, .int .i64 a1_2, .int .i64 a1_3, .int .i64 a1_4, .int .i64 a1_5, .bool a1_6] 26 (0, 0))) ∧ Aside0 (wc.heap[gb162]? = some (.cells #[.string (⟨#[]⟩ : ByteArray), .string (⟨#[]⟩ : ByteArray), .int .i64 0, .int .i64 0, .int .i64 0, .int .i64 0, .bool false] 26 (0, 0))) ∧ Aside0 (wc.heap[gb168]? = some (.cells #[.string t163, .int .i64 t164, .int .i64 t165, .int .i64 t166] 35 (0, 0))) ∧ Aside0 (Below w.heap.size w wc))
 case first =>
  have H := HC8.out
  clear HC8
  by_cases c21 : t167 = true
  ·
   subst c21
   have H1 : ((saga_Right.f k a0_0 l0_1 a1_0 a1_1 a1_2 a1_3 a1_4 a1_5 a1_6).bind fun t169 => (if t169 = true then (if a2 = t164 then (if a3 = t165 then ((saga_time.f a5).bind fun t170 => (saga_Reply.j0 k a4 a5 (!t170) a0_0 l0_1 a1_0 a1_1 a1_2 a1_3 a1_4 a1_5 a1_6)) else (saga_Reply.j0 k a4 a5 true a0_0 l0_1 a1_0 a1_1 a1_2 a1_3 a1_4 a1_5 a1_6)) else (saga_Reply.j0 k a4 a5 true a0_0 l0_1 a1_0 a1_1 a1_2 a1_3 a1_4 a1_5 a1_6)) else (saga_Reply.j0 k a4 a5 true a0_0 l0_1 a1_0 a1_1 a1_2 a1_3 a1_4 a1_5 a1_6))) = some (r1, r2, r3, r4, r5, r6, r7, r8) := by rw [if_pos rfl] at H; exact H
   clear H
   have H := H1
   clear H1
   replace H := Option.bind_eq_some_iff.mp H
   obtain ⟨t169, A220, H⟩ := H
   replace H : (if t169 = true then (if a2 = t164 then (if a3 = t165 then ((saga_time.f a5).bind fun t170 => (saga_Reply.j0 k a4 a5 (!t170) a0_0 l0_1 a1_0 a1_1 a1_2 a1_3 a1_4 a1_5 a1_6)) else (saga_Reply.j0 k a4 a5 true a0_0 l0_1 a1_0 a1_1 a1_2 a1_3 a1_4 a1_5 a1_6)) else (saga_Reply.j0 k a4 a5 true a0_0 l0_1 a1_0 a1_1 a1_2 a1_3 a1_4 a1_5 a1_6)) else (saga_Reply.j0 k a4 a5 true a0_0 l0_1 a1_0 a1_1 a1_2 a1_3 a1_4 a1_5 a1_6)) = some (r1, r2, r3, r4, r5, r6, r7, r8) := H
   have A22 := Aside0.mk A220
   clear A220
   by_cases c23 : t169 = true
   ·
    subst c23
    have H1 : (if a2 = t164 then (if a3 = t165 then ((saga_time.f a5).bind fun t170 => (saga_Reply.j0 k a4 a5 (!t170) a0_0 l0_1 a1_0 a1_1 a1_2 a1_3 a1_4 a1_5 a1_6)) else (saga_Reply.j0 k a4 a5 true a0_0 l0_1 a1_0 a1_1 a1_2 a1_3 a1_4 a1_5 a1_6)) else (saga_Reply.j0 k a4 a5 true a0_0 l0_1 a1_0 a1_1 a1_2 a1_3 a1_4 a1_5 a1_6)) = some (r1, r2, r3, r4, r5, r6, r7, r8) := by rw [if_pos rfl] at H; exact H
    clear H
    have H := H1
    clear H1
    by_cases c24 : a2 = t164
    ·
     rw [if_pos c24] at H
     have c24b0 : (a2 == t164) = true := beq_iff_eq.mpr c24
     have c24b1 : (a2 != t164) = false := bne_eq_false_iff_eq.mpr c24
     clear c24
     (first | rw [c24b0] | (simp only [i64_w, i32_w]; rw [c24b0]) | skip)
     by_cases c25 : a3 = t165
     ·
      rw [if_pos c25] at H
      have c25b0 : (a3 == t165) = true := beq_iff_eq.mpr c25
      have c25b1 : (a3 != t165) = false := bne_eq_false_iff_eq.mpr c25
      clear c25
      replace H := Option.bind_eq_some_iff.mp H
      obtain ⟨t170, A260, H⟩ := H
      replace H : (saga_Reply.j0 k a4 a5 (!t170) a0_0 l0_1 a1_0 a1_1 a1_2 a1_3 a1_4 a1_5 a1_6) = some (r1, r2, r3, r4, r5, r6, r7, r8) := H
      have A26 := Aside0.mk A260
      clear A260
      have H' := Aside0.mk H
      clear H
      obtain ⟨hnb27, hnc27⟩ := Zo NB160_161
      obtain ⟨hnb28, hnc28⟩ := Zo NB160_162
      obtain ⟨hnb29, hnc29⟩ := Zo NB160_168
      obtain ⟨⟨hcz30_0, hcz30_1⟩, hfz30_0, hfz30_1⟩ := Zk2 BK160
      obtain ⟨hnb31, hnc31⟩ := Zo NB161_162
      obtain ⟨hnb32, hnc32⟩ := Zo NB161_168
      obtain ⟨⟨hcz33_0, hcz33_1, hcz33_2, hcz33_3, hcz33_4, hcz33_5, hcz33_6⟩, hfz33_0, hfz33_1, hfz33_2, hfz33_3, hfz33_4, hfz33_5, hfz33_6⟩ := Zk7 BK161
      go_wp2_with (first | (go_at_call 18; (with_reducible refine (saga_Right.calls k a0_0 _ _ l0_1 a1_0 a1_1 a1_2 a1_3 a1_4 a1_5 a1_6 true _ ?side1 ?side2 A22.out).mono ?_); (case side1 => exact Kd.C_below HR0_1.out (Yr HB)); (case side2 => exact HC0_1.out); rintro e w34 ⟨rfl, hb⟩; have n0_ := Aside0.mk (Zv BK160 hb); have n1_ := Aside0.mk (Zv BK161 hb); have n2_ := Aside0.mk (Zv BK162 hb); have n3_ := Aside0.mk (Zb (g := gb168) (o := .cells #[.string t163, .int .i64 t164, .int .i64 t165, .int .i64 t166] 35 (0, 0)) (by (with_reducible repeat first | apply Zn | apply Zd | apply Za); refine Zp (cs := #[.string t163, .int .i64 t164, .int .i64 t165, .int .i64 0]) ?_ 3 _ rfl; (with_reducible repeat first | apply Zn | apply Zd | apply Za); refine Zp (cs := #[.string t163, .int .i64 t164, .int .i64 0, .int .i64 0]) ?_ 2 _ rfl; (with_reducible repeat first | apply Zn | apply Zd | apply Za); refine Zp (cs := #[.string t163, .int .i64 0, .int .i64 0, .int .i64 0]) ?_ 1 _ rfl; (with_reducible repeat first | apply Zn | apply Zd | apply Za); refine Zp (cs := #[.string (⟨#[]⟩ : ByteArray), .int .i64 0, .int .i64 0, .int .i64 0]) ?_ 0 _ rfl; (with_reducible repeat first | apply Zn | apply Zd | apply Za); exact BK168.out) hb); have n4_ := Aside0.mk (Yv HB hb); clear BK160; clear BK161; clear BK162; clear BK168; clear HB; have BK160 := n0_; have BK161 := n1_; have BK162 := n2_; have BK168 := n3_; have HB := n4_; clear n0_ n1_ n2_ n3_ n4_; (try clear hb); (try clear hb2); (try clear hk); (try clear hi); obtain ⟨hnb35, hnc35⟩ := Zo NB168_162; obtain ⟨⟨hcz36_0, hcz36_1, hcz36_2, hcz36_3⟩, hfz36_0, hfz36_1, hfz36_2, hfz36_3⟩ := Zk4 BK168) | (go_at_call 35; (with_reducible refine (saga_time.calls a5 t170 _ A26.out).mono ?_); rintro e w' ⟨rfl, ⟨nd, rfl⟩⟩; (try first | exact ⟨rfl, _, World.drewN_drewN _ _ _⟩ | exact ⟨rfl, _, Eq.trans (World.drewN_drewN _ _ _) (congrArg (World.drewN _) (Nat.add_assoc _ _ _))⟩)))
      repeat (go_quiet (first | (go_at_call 18; (with_reducible refine (saga_Right.calls k a0_0 _ _ l0_1 a1_0 a1_1 a1_2 a1_3 a1_4 a1_5 a1_6 true _ ?side1 ?side2 A22.out).mono ?_); (case side1 => exact Kd.C_below HR0_1.out (Yr HB)); (case side2 => exact HC0_1.out); rintro e w34 ⟨rfl, hb⟩; have n0_ := Aside0.mk (Zv BK160 hb); have n1_ := Aside0.mk (Zv BK161 hb); have n2_ := Aside0.mk (Zv BK162 hb); have n3_ := Aside0.mk (Zb (g := gb168) (o := .cells #[.string t163, .int .i64 t164, .int .i64 t165, .int .i64 t166] 35 (0, 0)) (by (with_reducible repeat first | apply Zn | apply Zd | apply Za); refine Zp (cs := #[.string t163, .int .i64 t164, .int .i64 t165, .int .i64 0]) ?_ 3 _ rfl; (with_reducible repeat first | apply Zn | apply Zd | apply Za); refine Zp (cs := #[.string t163, .int .i64 t164, .int .i64 0, .int .i64 0]) ?_ 2 _ rfl; (with_reducible repeat first | apply Zn | apply Zd | apply Za); refine Zp (cs := #[.string t163, .int .i64 0, .int .i64 0, .int .i64 0]) ?_ 1 _ rfl; (with_reducible repeat first | apply Zn | apply Zd | apply Za); refine Zp (cs := #[.string (⟨#[]⟩ : ByteArray), .int .i64 0, .int .i64 0, .int .i64 0]) ?_ 0 _ rfl; (with_reducible repeat first | apply Zn | apply Zd | apply Za); exact BK168.out) hb); have n4_ := Aside0.mk (Yv HB hb); clear BK160; clear BK161; clear BK162; clear BK168; clear HB; have BK160 := n0_; have BK161 := n1_; have BK162 := n2_; have BK168 := n3_; have HB := n4_; clear n0_ n1_ n2_ n3_ n4_; (try clear hb); (try clear hb2); (try clear hk); (try clear hi); obtain ⟨hnb35, hnc35⟩ := Zo NB168_162; obtain ⟨⟨hcz36_0, hcz36_1, hcz36_2, hcz36_3⟩, hfz36_0, hfz36_1, hfz36_2, hfz36_3⟩ := Zk4 BK168) | (go_at_call 35; (with_reducible refine (saga_time.calls a5 t170 _ A26.out).mono ?_); rintro e w' ⟨rfl, ⟨nd, rfl⟩⟩; (try first | exact ⟨rfl, _, World.drewN_drewN _ _ _⟩ | exact ⟨rfl, _, Eq.trans (World.drewN_drewN _ _ _) (congrArg (World.drewN _) (Nat.add_assoc _ _ _))⟩))); try go_wp2_with (first | (go_at_call 18; (with_reducible refine (saga_Right.calls k a0_0 _ _ l0_1 a1_0 a1_1 a1_2 a1_3 a1_4 a1_5 a1_6 true _ ?side1 ?side2 A22.out).mono ?_); (case side1 => exact Kd.C_below HR0_1.out (Yr HB)); (case side2 => exact HC0_1.out); rintro e w34 ⟨rfl, hb⟩; have n0_ := Aside0.mk (Zv BK160 hb); have n1_ := Aside0.mk (Zv BK161 hb); have n2_ := Aside0.mk (Zv BK162 hb); have n3_ := Aside0.mk (Zb (g := gb168) (o := .cells #[.string t163, .int .i64 t164, .int .i64 t165, .int .i64 t166] 35 (0, 0)) (by (with_reducible repeat first | apply Zn | apply Zd | apply Za); refine Zp (cs := #[.string t163, .int .i64 t164, .int .i64 t165, .int .i64 0]) ?_ 3 _ rfl; (with_reducible repeat first | apply Zn | apply Zd | apply Za); refine Zp (cs := #[.string t163, .int .i64 t164, .int .i64 0, .int .i64 0]) ?_ 2 _ rfl; (with_reducible repeat first | apply Zn | apply Zd | apply Za); refine Zp (cs := #[.string t163, .int .i64 0, .int .i64 0, .int .i64 0]) ?_ 1 _ rfl; (with_reducible repeat first | apply Zn | apply Zd | apply Za); refine Zp (cs := #[.string (⟨#[]⟩ : ByteArray), .int .i64 0, .int .i64 0, .int .i64 0]) ?_ 0 _ rfl; (with_reducible repeat first | apply Zn | apply Zd | apply Za); exact BK168.out) hb); have n4_ := Aside0.mk (Yv HB hb); clear BK160; clear BK161; clear BK162; clear BK168; clear HB; have BK160 := n0_; have BK161 := n1_; have BK162 := n2_; have BK168 := n3_; have HB := n4_; clear n0_ n1_ n2_ n3_ n4_; (try clear hb); (try clear hb2); (try clear hk); (try clear hi); obtain ⟨hnb35, hnc35⟩ := Zo NB168_162; obtain ⟨⟨hcz36_0, hcz36_1, hcz36_2, hcz36_3⟩, hfz36_0, hfz36_1, hfz36_2, hfz36_3⟩ := Zk4 BK168) | (go_at_call 35; (with_reducible refine (saga_time.calls a5 t170 _ A26.out).mono ?_); rintro e w' ⟨rfl, ⟨nd, rfl⟩⟩; (try first | exact ⟨rfl, _, World.drewN_drewN _ _ _⟩ | exact ⟨rfl, _, Eq.trans (World.drewN_drewN _ _ _) (congrArg (World.drewN _) (Nat.add_assoc _ _ _))⟩))))
      go_meet
      case rel => exact ⟨_, (!t170), (by first | rfl | (simp; done) | (simp [*]; done)), H', ⟨by first | omega | exact Nat.le_refl _⟩, ⟨by (with_reducible repeat first | apply Zn | apply Zd | apply Za); exact BK160.out⟩, ⟨by (with_reducible repeat first | apply Zn | apply Zd | apply Za); exact BK161.out⟩, ⟨by (with_reducible repeat first | apply Zn | apply Zd | apply Za); exact BK162.out⟩, ⟨by (with_reducible repeat first | apply Zn | apply Zd | apply Za); exact BK168.out⟩, ⟨Yr HB⟩⟩
     ·
      rw [if_neg c25] at H
      have c25b0 : (a3 == t165) = false := beq_eq_false_iff_ne.mpr c25
      have c25b1 : (a3 != t165) = true := bne_iff_ne.mpr c25
      have H' := Aside0.mk H
      clear H
      obtain ⟨hnb37, hnc37⟩ := Zo NB160_161
      obtain ⟨hnb38, hnc38⟩ := Zo NB160_162
      obtain ⟨hnb39, hnc39⟩ := Zo NB160_168
      obtain ⟨⟨hcz40_0, hcz40_1⟩, hfz40_0, hfz40_1⟩ := Zk2 BK160
      obtain ⟨hnb41, hnc41⟩ := Zo NB161_162
      obtain ⟨hnb42, hnc42⟩ := Zo NB161_168
      obtain ⟨⟨hcz43_0, hcz43_1, hcz43_2, hcz43_3, hcz43_4, hcz43_5, hcz43_6⟩, hfz43_0, hfz43_1, hfz43_2, hfz43_3, hfz43_4, hfz43_5, hfz43_6⟩ := Zk7 BK161
      go_wp2_with (first | (go_at_call 18; (with_reducible refine (saga_Right.calls k a0_0 _ _ l0_1 a1_0 a1_1 a1_2 a1_3 a1_4 a1_5 a1_6 true _ ?side1 ?side2 A22.out).mono ?_); (case side1 => exact Kd.C_below HR0_1.out (Yr HB)); (case side2 => exact HC0_1.out); rintro e w44 ⟨rfl, hb⟩; have n0_ := Aside0.mk (Zv BK160 hb); have n1_ := Aside0.mk (Zv BK161 hb); have n2_ := Aside0.mk (Zv BK162 hb); have n3_ := Aside0.mk (Zb (g := gb168) (o := .cells #[.string t163, .int .i64 t164, .int .i64 t165, .int .i64 t166] 35 (0, 0)) (by (with_reducible repeat first | apply Zn | apply Zd | apply Za); refine Zp (cs := #[.string t163, .int .i64 t164, .int .i64 t165, .int .i64 0]) ?_ 3 _ rfl; (with_reducible repeat first | apply Zn | apply Zd | apply Za); refine Zp (cs := #[.string t163, .int .i64 t164, .int .i64 0, .int .i64 0]) ?_ 2 _ rfl; (with_reducible repeat first | apply Zn | apply Zd | apply Za); refine Zp (cs := #[.string t163, .int .i64 0, .int .i64 0, .int .i64 0]) ?_ 1 _ rfl; (with_reducible repeat first | apply Zn | apply Zd | apply Za); refine Zp (cs := #[.string (⟨#[]⟩ : ByteArray), .int .i64 0, .int .i64 0, .int .i64 0]) ?_ 0 _ rfl; (with_reducible repeat first | apply Zn | apply Zd | apply Za); exact BK168.out) hb); have n4_ := Aside0.mk (Yv HB hb); clear BK160; clear BK161; clear BK162; clear BK168; clear HB; have BK160 := n0_; have BK161 := n1_; have BK162 := n2_; have BK168 := n3_; have HB := n4_; clear n0_ n1_ n2_ n3_ n4_; (try clear hb); (try clear hb2); (try clear hk); (try clear hi); obtain ⟨hnb45, hnc45⟩ := Zo NB168_162; obtain ⟨⟨hcz46_0, hcz46_1, hcz46_2, hcz46_3⟩, hfz46_0, hfz46_1, hfz46_2, hfz46_3⟩ := Zk4 BK168))
      repeat (go_quiet (first | (go_at_call 18; (with_reducible refine (saga_Right.calls k a0_0 _ _ l0_1 a1_0 a1_1 a1_2 a1_3 a1_4 a1_5 a1_6 true _ ?side1 ?side2 A22.out).mono ?_); (case side1 => exact Kd.C_below HR0_1.out (Yr HB)); (case side2 => exact HC0_1.out); rintro e w44 ⟨rfl, hb⟩; have n0_ := Aside0.mk (Zv BK160 hb); have n1_ := Aside0.mk (Zv BK161 hb); have n2_ := Aside0.mk (Zv BK162 hb); have n3_ := Aside0.mk (Zb (g := gb168) (o := .cells #[.string t163, .int .i64 t164, .int .i64 t165, .int .i64 t166] 35 (0, 0)) (by (with_reducible repeat first | apply Zn | apply Zd | apply Za); refine Zp (cs := #[.string t163, .int .i64 t164, .int .i64 t165, .int .i64 0]) ?_ 3 _ rfl; (with_reducible repeat first | apply Zn | apply Zd | apply Za); refine Zp (cs := #[.string t163, .int .i64 t164, .int .i64 0, .int .i64 0]) ?_ 2 _ rfl; (with_reducible repeat first | apply Zn | apply Zd | apply Za); refine Zp (cs := #[.string t163, .int .i64 0, .int .i64 0, .int .i64 0]) ?_ 1 _ rfl; (with_reducible repeat first | apply Zn | apply Zd | apply Za); refine Zp (cs := #[.string (⟨#[]⟩ : ByteArray), .int .i64 0, .int .i64 0, .int .i64 0]) ?_ 0 _ rfl; (with_reducible repeat first | apply Zn | apply Zd | apply Za); exact BK168.out) hb); have n4_ := Aside0.mk (Yv HB hb); clear BK160; clear BK161; clear BK162; clear BK168; clear HB; have BK160 := n0_; have BK161 := n1_; have BK162 := n2_; have BK168 := n3_; have HB := n4_; clear n0_ n1_ n2_ n3_ n4_; (try clear hb); (try clear hb2); (try clear hk); (try clear hi); obtain ⟨hnb45, hnc45⟩ := Zo NB168_162; obtain ⟨⟨hcz46_0, hcz46_1, hcz46_2, hcz46_3⟩, hfz46_0, hfz46_1, hfz46_2, hfz46_3⟩ := Zk4 BK168)); try go_wp2_with (first | (go_at_call 18; (with_reducible refine (saga_Right.calls k a0_0 _ _ l0_1 a1_0 a1_1 a1_2 a1_3 a1_4 a1_5 a1_6 true _ ?side1 ?side2 A22.out).mono ?_); (case side1 => exact Kd.C_below HR0_1.out (Yr HB)); (case side2 => exact HC0_1.out); rintro e w44 ⟨rfl, hb⟩; have n0_ := Aside0.mk (Zv BK160 hb); have n1_ := Aside0.mk (Zv BK161 hb); have n2_ := Aside0.mk (Zv BK162 hb); have n3_ := Aside0.mk (Zb (g := gb168) (o := .cells #[.string t163, .int .i64 t164, .int .i64 t165, .int .i64 t166] 35 (0, 0)) (by (with_reducible repeat first | apply Zn | apply Zd | apply Za); refine Zp (cs := #[.string t163, .int .i64 t164, .int .i64 t165, .int .i64 0]) ?_ 3 _ rfl; (with_reducible repeat first | apply Zn | apply Zd | apply Za); refine Zp (cs := #[.string t163, .int .i64 t164, .int .i64 0, .int .i64 0]) ?_ 2 _ rfl; (with_reducible repeat first | apply Zn | apply Zd | apply Za); refine Zp (cs := #[.string t163, .int .i64 0, .int .i64 0, .int .i64 0]) ?_ 1 _ rfl; (with_reducible repeat first | apply Zn | apply Zd | apply Za); refine Zp (cs := #[.string (⟨#[]⟩ : ByteArray), .int .i64 0, .int .i64 0, .int .i64 0]) ?_ 0 _ rfl; (with_reducible repeat first | apply Zn | apply Zd | apply Za); exact BK168.out) hb); have n4_ := Aside0.mk (Yv HB hb); clear BK160; clear BK161; clear BK162; clear BK168; clear HB; have BK160 := n0_; have BK161 := n1_; have BK162 := n2_; have BK168 := n3_; have HB := n4_; clear n0_ n1_ n2_ n3_ n4_; (try clear hb); (try clear hb2); (try clear hk); (try clear hi); obtain ⟨hnb45, hnc45⟩ := Zo NB168_162; obtain ⟨⟨hcz46_0, hcz46_1, hcz46_2, hcz46_3⟩, hfz46_0, hfz46_1, hfz46_2, hfz46_3⟩ := Zk4 BK168)))
      go_meet
      case rel => exact ⟨_, (true), (by first | rfl | (simp; done) | (simp [*]; done)), H', ⟨by first | omega | exact Nat.le_refl _⟩, ⟨by (with_reducible repeat first | apply Zn | apply Zd | apply Za); exact BK160.out⟩, ⟨by (with_reducible repeat first | apply Zn | apply Zd | apply Za); exact BK161.out⟩, ⟨by (with_reducible repeat first | apply Zn | apply Zd | apply Za); exact BK162.out⟩, ⟨by (with_reducible repeat first | apply Zn | apply Zd | apply Za); exact BK168.out⟩, ⟨Yr HB⟩⟩
    ·
     rw [if_neg c24] at H
     have c24b0 : (a2 == t164) = false := beq_eq_false_iff_ne.mpr c24
     have c24b1 : (a2 != t164) = true := bne_iff_ne.mpr c24
     (first | rw [c24b0] | (simp only [i64_w, i32_w]; rw [c24b0]) | skip)
     have H' := Aside0.mk H
     clear H
     obtain ⟨hnb47, hnc47⟩ := Zo NB160_161
     obtain ⟨hnb48, hnc48⟩ := Zo NB160_162
     obtain ⟨hnb49, hnc49⟩ := Zo NB160_168
     obtain ⟨⟨hcz50_0, hcz50_1⟩, hfz50_0, hfz50_1⟩ := Zk2 BK160
     obtain ⟨hnb51, hnc51⟩ := Zo NB161_162
     obtain ⟨hnb52, hnc52⟩ := Zo NB161_168
     obtain ⟨⟨hcz53_0, hcz53_1, hcz53_2, hcz53_3, hcz53_4, hcz53_5, hcz53_6⟩, hfz53_0, hfz53_1, hfz53_2, hfz53_3, hfz53_4, hfz53_5, hfz53_6⟩ := Zk7 BK161
     go_wp2_with (first | (go_at_call 18; (with_reducible refine (saga_Right.calls k a0_0 _ _ l0_1 a1_0 a1_1 a1_2 a1_3 a1_4 a1_5 a1_6 true _ ?side1 ?side2 A22.out).mono ?_); (case side1 => exact Kd.C_below HR0_1.out (Yr HB)); (case side2 => exact HC0_1.out); rintro e w54 ⟨rfl, hb⟩; have n0_ := Aside0.mk (Zv BK160 hb); have n1_ := Aside0.mk (Zv BK161 hb); have n2_ := Aside0.mk (Zv BK162 hb); have n3_ := Aside0.mk (Zb (g := gb168) (o := .cells #[.string t163, .int .i64 t164, .int .i64 t165, .int .i64 t166] 35 (0, 0)) (by (with_reducible repeat first | apply Zn | apply Zd | apply Za); refine Zp (cs := #[.string t163, .int .i64 t164, .int .i64 t165, .int .i64 0]) ?_ 3 _ rfl; (with_reducible repeat first | apply Zn | apply Zd | apply Za); refine Zp (cs := #[.string t163, .int .i64 t164, .int .i64 0, .int .i64 0]) ?_ 2 _ rfl; (with_reducible repeat first | apply Zn | apply Zd | apply Za); refine Zp (cs := #[.string t163, .int .i64 0, .int .i64 0, .int .i64 0]) ?_ 1 _ rfl; (with_reducible repeat first | apply Zn | apply Zd | apply Za); refine Zp (cs := #[.string (⟨#[]⟩ : ByteArray), .int .i64 0, .int .i64 0, .int .i64 0]) ?_ 0 _ rfl; (with_reducible repeat first | apply Zn | apply Zd | apply Za); exact BK168.out) hb); have n4_ := Aside0.mk (Yv HB hb); clear BK160; clear BK161; clear BK162; clear BK168; clear HB; have BK160 := n0_; have BK161 := n1_; have BK162 := n2_; have BK168 := n3_; have HB := n4_; clear n0_ n1_ n2_ n3_ n4_; (try clear hb); (try clear hb2); (try clear hk); (try clear hi); obtain ⟨hnb55, hnc55⟩ := Zo NB168_162; obtain ⟨⟨hcz56_0, hcz56_1, hcz56_2, hcz56_3⟩, hfz56_0, hfz56_1, hfz56_2, hfz56_3⟩ := Zk4 BK168))
     repeat (go_quiet (first | (go_at_call 18; (with_reducible refine (saga_Right.calls k a0_0 _ _ l0_1 a1_0 a1_1 a1_2 a1_3 a1_4 a1_5 a1_6 true _ ?side1 ?side2 A22.out).mono ?_); (case side1 => exact Kd.C_below HR0_1.out (Yr HB)); (case side2 => exact HC0_1.out); rintro e w54 ⟨rfl, hb⟩; have n0_ := Aside0.mk (Zv BK160 hb); have n1_ := Aside0.mk (Zv BK161 hb); have n2_ := Aside0.mk (Zv BK162 hb); have n3_ := Aside0.mk (Zb (g := gb168) (o := .cells #[.string t163, .int .i64 t164, .int .i64 t165, .int .i64 t166] 35 (0, 0)) (by (with_reducible repeat first | apply Zn | apply Zd | apply Za); refine Zp (cs := #[.string t163, .int .i64 t164, .int .i64 t165, .int .i64 0]) ?_ 3 _ rfl; (with_reducible repeat first | apply Zn | apply Zd | apply Za); refine Zp (cs := #[.string t163, .int .i64 t164, .int .i64 0, .int .i64 0]) ?_ 2 _ rfl; (with_reducible repeat first | apply Zn | apply Zd | apply Za); refine Zp (cs := #[.string t163, .int .i64 0, .int .i64 0, .int .i64 0]) ?_ 1 _ rfl; (with_reducible repeat first | apply Zn | apply Zd | apply Za); refine Zp (cs := #[.string (⟨#[]⟩ : ByteArray), .int .i64 0, .int .i64 0, .int .i64 0]) ?_ 0 _ rfl; (with_reducible repeat first | apply Zn | apply Zd | apply Za); exact BK168.out) hb); have n4_ := Aside0.mk (Yv HB hb); clear BK160; clear BK161; clear BK162; clear BK168; clear HB; have BK160 := n0_; have BK161 := n1_; have BK162 := n2_; have BK168 := n3_; have HB := n4_; clear n0_ n1_ n2_ n3_ n4_; (try clear hb); (try clear hb2); (try clear hk); (try clear hi); obtain ⟨hnb55, hnc55⟩ := Zo NB168_162; obtain ⟨⟨hcz56_0, hcz56_1, hcz56_2, hcz56_3⟩, hfz56_0, hfz56_1, hfz56_2, hfz56_3⟩ := Zk4 BK168)); try go_wp2_with (first | (go_at_call 18; (with_reducible refine (saga_Right.calls k a0_0 _ _ l0_1 a1_0 a1_1 a1_2 a1_3 a1_4 a1_5 a1_6 true _ ?side1 ?side2 A22.out).mono ?_); (case side1 => exact Kd.C_below HR0_1.out (Yr HB)); (case side2 => exact HC0_1.out); rintro e w54 ⟨rfl, hb⟩; have n0_ := Aside0.mk (Zv BK160 hb); have n1_ := Aside0.mk (Zv BK161 hb); have n2_ := Aside0.mk (Zv BK162 hb); have n3_ := Aside0.mk (Zb (g := gb168) (o := .cells #[.string t163, .int .i64 t164, .int .i64 t165, .int .i64 t166] 35 (0, 0)) (by (with_reducible repeat first | apply Zn | apply Zd | apply Za); refine Zp (cs := #[.string t163, .int .i64 t164, .int .i64 t165, .int .i64 0]) ?_ 3 _ rfl; (with_reducible repeat first | apply Zn | apply Zd | apply Za); refine Zp (cs := #[.string t163, .int .i64 t164, .int .i64 0, .int .i64 0]) ?_ 2 _ rfl; (with_reducible repeat first | apply Zn | apply Zd | apply Za); refine Zp (cs := #[.string t163, .int .i64 0, .int .i64 0, .int .i64 0]) ?_ 1 _ rfl; (with_reducible repeat first | apply Zn | apply Zd | apply Za); refine Zp (cs := #[.string (⟨#[]⟩ : ByteArray), .int .i64 0, .int .i64 0, .int .i64 0]) ?_ 0 _ rfl; (with_reducible repeat first | apply Zn | apply Zd | apply Za); exact BK168.out) hb); have n4_ := Aside0.mk (Yv HB hb); clear BK160; clear BK161; clear BK162; clear BK168; clear HB; have BK160 := n0_; have BK161 := n1_; have BK162 := n2_; have BK168 := n3_; have HB := n4_; clear n0_ n1_ n2_ n3_ n4_; (try clear hb); (try clear hb2); (try clear hk); (try clear hi); obtain ⟨hnb55, hnc55⟩ := Zo NB168_162; obtain ⟨⟨hcz56_0, hcz56_1, hcz56_2, hcz56_3⟩, hfz56_0, hfz56_1, hfz56_2, hfz56_3⟩ := Zk4 BK168)))
     go_meet
     case rel => exact ⟨_, (true), (by first | rfl | (simp; done) | (simp [*]; done)), H', ⟨by first | omega | exact Nat.le_refl _⟩, ⟨by (with_reducible repeat first | apply Zn | apply Zd | apply Za); exact BK160.out⟩, ⟨by (with_reducible repeat first | apply Zn | apply Zd | apply Za); exact BK161.out⟩, ⟨by (with_reducible repeat first | apply Zn | apply Zd | apply Za); exact BK162.out⟩, ⟨by (with_reducible repeat first | apply Zn | apply Zd | apply Za); exact BK168.out⟩, ⟨Yr HB⟩⟩
   ·
    replace c23 := Bool.eq_false_iff.mpr c23
    subst c23
    have H1 : (saga_Reply.j0 k a4 a5 true a0_0 l0_1 a1_0 a1_1 a1_2 a1_3 a1_4 a1_5 a1_6) = some (r1, r2, r3, r4, r5, r6, r7, r8) := by rw [if_neg (show ¬ (false = true) by decide)] at H; exact H
    clear H
    have H := H1
    clear H1
    have H' := Aside0.mk H
    clear H
    obtain ⟨hnb57, hnc57⟩ := Zo NB160_161
    obtain ⟨hnb58, hnc58⟩ := Zo NB160_162
    obtain ⟨hnb59, hnc59⟩ := Zo NB160_168
    obtain ⟨⟨hcz60_0, hcz60_1⟩, hfz60_0, hfz60_1⟩ := Zk2 BK160
    obtain ⟨hnb61, hnc61⟩ := Zo NB161_162
    obtain ⟨hnb62, hnc62⟩ := Zo NB161_168
    obtain ⟨⟨hcz63_0, hcz63_1, hcz63_2, hcz63_3, hcz63_4, hcz63_5, hcz63_6⟩, hfz63_0, hfz63_1, hfz63_2, hfz63_3, hfz63_4, hfz63_5, hfz63_6⟩ := Zk7 BK161
    go_wp2_with (first | (go_at_call 18; (with_reducible refine (saga_Right.calls k a0_0 _ _ l0_1 a1_0 a1_1 a1_2 a1_3 a1_4 a1_5 a1_6 false _ ?side1 ?side2 A22.out).mono ?_); (case side1 => exact Kd.C_below HR0_1.out (Yr HB)); (case side2 => exact HC0_1.out); rintro e w64 ⟨rfl, hb⟩; have n0_ := Aside0.mk (Zv BK160 hb); have n1_ := Aside0.mk (Zv BK161 hb); have n2_ := Aside0.mk (Zv BK162 hb); have n3_ := Aside0.mk (Zb (g := gb168) (o := .cells #[.string t163, .int .i64 t164, .int .i64 t165, .int .i64 t166] 35 (0, 0)) (by (with_reducible repeat first | apply Zn | apply Zd | apply Za); refine Zp (cs := #[.string t163, .int .i64 t164, .int .i64 t165, .int .i64 0]) ?_ 3 _ rfl; (with_reducible repeat first | apply Zn | apply Zd | apply Za); refine Zp (cs := #[.string t163, .int .i64 t164, .int .i64 0, .int .i64 0]) ?_ 2 _ rfl; (with_reducible repeat first | apply Zn | apply Zd | apply Za); refine Zp (cs := #[.string t163, .int .i64 0, .int .i64 0, .int .i64 0]) ?_ 1 _ rfl; (with_reducible repeat first | apply Zn | apply Zd | apply Za); refine Zp (cs := #[.string (⟨#[]⟩ : ByteArray), .int .i64 0, .int .i64 0, .int .i64 0]) ?_ 0 _ rfl; (with_reducible repeat first | apply Zn | apply Zd | apply Za); exact BK168.out) hb); have n4_ := Aside0.mk (Yv HB hb); clear BK160; clear BK161; clear BK162; clear BK168; clear HB; have BK160 := n0_; have BK161 := n1_; have BK162 := n2_; have BK168 := n3_; have HB := n4_; clear n0_ n1_ n2_ n3_ n4_; (try clear hb); (try clear hb2); (try clear hk); (try clear hi)))
    repeat (go_quiet (first | (go_at_call 18; (with_reducible refine (saga_Right.calls k a0_0 _ _ l0_1 a1_0 a1_1 a1_2 a1_3 a1_4 a1_5 a1_6 false _ ?side1 ?side2 A22.out).mono ?_); (case side1 => exact Kd.C_below HR0_1.out (Yr HB)); (case side2 => exact HC0_1.out); rintro e w64 ⟨rfl, hb⟩; have n0_ := Aside0.mk (Zv BK160 hb); have n1_ := Aside0.mk (Zv BK161 hb); have n2_ := Aside0.mk (Zv BK162 hb); have n3_ := Aside0.mk (Zb (g := gb168) (o := .cells #[.string t163, .int .i64 t164, .int .i64 t165, .int .i64 t166] 35 (0, 0)) (by (with_reducible repeat first | apply Zn | apply Zd | apply Za); refine Zp (cs := #[.string t163, .int .i64 t164, .int .i64 t165, .int .i64 0]) ?_ 3 _ rfl; (with_reducible repeat first | apply Zn | apply Zd | apply Za); refine Zp (cs := #[.string t163, .int .i64 t164, .int .i64 0, .int .i64 0]) ?_ 2 _ rfl; (with_reducible repeat first | apply Zn | apply Zd | apply Za); refine Zp (cs := #[.string t163, .int .i64 0, .int .i64 0, .int .i64 0]) ?_ 1 _ rfl; (with_reducible repeat first | apply Zn | apply Zd | apply Za); refine Zp (cs := #[.string (⟨#[]⟩ : ByteArray), .int .i64 0, .int .i64 0, .int .i64 0]) ?_ 0 _ rfl; (with_reducible repeat first | apply Zn | apply Zd | apply Za); exact BK168.out) hb); have n4_ := Aside0.mk (Yv HB hb); clear BK160; clear BK161; clear BK162; clear BK168; clear HB; have BK160 := n0_; have BK161 := n1_; have BK162 := n2_; have BK168 := n3_; have HB := n4_; clear n0_ n1_ n2_ n3_ n4_; (try clear hb); (try clear hb2); (try clear hk); (try clear hi))); try go_wp2_with (first | (go_at_call 18; (with_reducible refine (saga_Right.calls k a0_0 _ _ l0_1 a1_0 a1_1 a1_2 a1_3 a1_4 a1_5 a1_6 false _ ?side1 ?side2 A22.out).mono ?_); (case side1 => exact Kd.C_below HR0_1.out (Yr HB)); (case side2 => exact HC0_1.out); rintro e w64 ⟨rfl, hb⟩; have n0_ := Aside0.mk (Zv BK160 hb); have n1_ := Aside0.mk (Zv BK161 hb); have n2_ := Aside0.mk (Zv BK162 hb); have n3_ := Aside0.mk (Zb (g := gb168) (o := .cells #[.string t163, .int .i64 t164, .int .i64 t165, .int .i64 t166] 35 (0, 0)) (by (with_reducible repeat first | apply Zn | apply Zd | apply Za); refine Zp (cs := #[.string t163, .int .i64 t164, .int .i64 t165, .int .i64 0]) ?_ 3 _ rfl; (with_reducible repeat first | apply Zn | apply Zd | apply Za); refine Zp (cs := #[.string t163, .int .i64 t164, .int .i64 0, .int .i64 0]) ?_ 2 _ rfl; (with_reducible repeat first | apply Zn | apply Zd | apply Za); refine Zp (cs := #[.string t163, .int .i64 0, .int .i64 0, .int .i64 0]) ?_ 1 _ rfl; (with_reducible repeat first | apply Zn | apply Zd | apply Za); refine Zp (cs := #[.string (⟨#[]⟩ : ByteArray), .int .i64 0, .int .i64 0, .int .i64 0]) ?_ 0 _ rfl; (with_reducible repeat first | apply Zn | apply Zd | apply Za); exact BK168.out) hb); have n4_ := Aside0.mk (Yv HB hb); clear BK160; clear BK161; clear BK162; clear BK168; clear HB; have BK160 := n0_; have BK161 := n1_; have BK162 := n2_; have BK168 := n3_; have HB := n4_; clear n0_ n1_ n2_ n3_ n4_; (try clear hb); (try clear hb2); (try clear hk); (try clear hi))))
    go_meet
    case rel => exact ⟨_, (true), (by first | rfl | (simp; done) | (simp [*]; done)), H', ⟨by first | omega | exact Nat.le_refl _⟩, ⟨by (with_reducible repeat first | apply Zn | apply Zd | apply Za); exact BK160.out⟩, ⟨by (with_reducible repeat first | apply Zn | apply Zd | apply Za); exact BK161.out⟩, ⟨by (with_reducible repeat first | apply Zn | apply Zd | apply Za); exact BK162.out⟩, ⟨by (with_reducible repeat first | apply Zn | apply Zd | apply Za); exact BK168.out⟩, ⟨Yr HB⟩⟩
  ·
   replace c21 := Bool.eq_false_iff.mpr c21
   subst c21
   have H1 : (saga_Reply.j0 k a4 a5 true a0_0 l0_1 a1_0 a1_1 a1_2 a1_3 a1_4 a1_5 a1_6) = some (r1, r2, r3, r4, r5, r6, r7, r8) := by rw [if_neg (show ¬ (false = true) by decide)] at H; exact H
   clear H
   have H := H1
   clear H1
   have H' := Aside0.mk H
   clear H
   go_wp2
   repeat (go_quiet (fail); try go_wp2)
   go_meet
   case rel => exact ⟨_, (true), (by first | rfl | (simp; done) | (simp [*]; done)), H', ⟨by first | omega | exact Nat.le_refl _⟩, ⟨by (with_reducible repeat first | apply Zn | apply Zd | apply Za); refine Zq ?_ NB160_168.out _; (with_reducible repeat first | apply Zn | apply Zd | apply Za); refine Zq ?_ NB160_168.out _; (with_reducible repeat first | apply Zn | apply Zd | apply Za); refine Zq ?_ NB160_168.out _; (with_reducible repeat first | apply Zn | apply Zd | apply Za); refine Zq ?_ NB160_168.out _; (with_reducible repeat first | apply Zn | apply Zd | apply Za); exact BK160.out⟩, ⟨by (with_reducible repeat first | apply Zn | apply Zd | apply Za); refine Zq ?_ NB161_168.out _; (with_reducible repeat first | apply Zn | apply Zd | apply Za); refine Zq ?_ NB161_168.out _; (with_reducible repeat first | apply Zn | apply Zd | apply Za); refine Zq ?_ NB161_168.out _; (with_reducible repeat first | apply Zn | apply Zd | apply Za); refine Zq ?_ NB161_168.out _; (with_reducible repeat first | apply Zn | apply Zd | apply Za); exact BK161.out⟩, ⟨by (with_reducible repeat first | apply Zn | apply Zd | apply Za); refine Zq ?_ NB162_168.out _; (with_reducible repeat first | apply Zn | apply Zd | apply Za); refine Zq ?_ NB162_168.out _; (with_reducible repeat first | apply Zn | apply Zd | apply Za); refine Zq ?_ NB162_168.out _; (with_reducible repeat first | apply Zn | apply Zd | apply Za); refine Zq ?_ NB162_168.out _; (with_reducible repeat first | apply Zn | apply Zd | apply Za); exact BK162.out⟩, ⟨by (with_reducible repeat first | apply Zn | apply Zd | apply Za); refine Zp (cs := #[.string t163, .int .i64 t164, .int .i64 t165, .int .i64 0]) ?_ 3 _ rfl; (with_reducible repeat first | apply Zn | apply Zd | apply Za); refine Zp (cs := #[.string t163, .int .i64 t164, .int .i64 0, .int .i64 0]) ?_ 2 _ rfl; (with_reducible repeat first | apply Zn | apply Zd | apply Za); refine Zp (cs := #[.string t163, .int .i64 0, .int .i64 0, .int .i64 0]) ?_ 1 _ rfl; (with_reducible repeat first | apply Zn | apply Zd | apply Za); refine Zp (cs := #[.string (⟨#[]⟩ : ByteArray), .int .i64 0, .int .i64 0, .int .i64 0]) ?_ 0 _ rfl; (with_reducible repeat first | apply Zn | apply Zd | apply Za); exact BK168.out⟩, ⟨Yr HB⟩⟩
 case rest =>
  clear HC8
  try clear c1
  try clear c2
  try clear p2
  try clear c3
  try clear c4
  try clear c5
  try clear c6
  try clear c12
  try clear c13
  try clear c17
  try clear c18
  try clear c19
  try clear c21
  try clear c23
  try clear c24
  try clear c24b0
  try clear c24b1
  try clear c25
  try clear c25b0
  try clear c25b1
  try clear c27
  try clear c28
  try clear c29
  try clear c31
  try clear c32
  try clear c35
  try clear c37
  try clear c38
  try clear c39
  try clear c41
  try clear c42
  try clear c45
  try clear c47
  try clear c48
  try clear c49
  try clear c51
  try clear c52
  try clear c55
  try clear c57
  try clear c58
  try clear c59
  try clear c61
  try clear c62
  try clear hcz14_0
  try clear hcz14_1
  try clear hcz14_2
  try clear hcz14_3
  try clear hcz14_4
  try clear hcz14_5
  try clear hcz14_6
  try clear hcz20_0
  try clear hcz20_1
  try clear hcz20_2
  try clear hcz20_3
  try clear hcz30_0
  try clear hcz30_1
  try clear hcz33_0
  try clear hcz33_1
  try clear hcz33_2
  try clear hcz33_3
  try clear hcz33_4
  try clear hcz33_5
  try clear hcz33_6
  try clear hcz36_0
  try clear hcz36_1
  try clear hcz36_2
  try clear hcz36_3
  try clear hcz40_0
  try clear hcz40_1
  try clear hcz43_0
  try clear hcz43_1
  try clear hcz43_2
  try clear hcz43_3
  try clear hcz43_4
  try clear hcz43_5
  try clear hcz43_6
  try clear hcz46_0
  try clear hcz46_1
  try clear hcz46_2
  try clear hcz46_3
  try clear hcz50_0
  try clear hcz50_1
  try clear hcz53_0
  try clear hcz53_1
  try clear hcz53_2
  try clear hcz53_3
  try clear hcz53_4
  try clear hcz53_5
  try clear hcz53_6
  try clear hcz56_0
  try clear hcz56_1
  try clear hcz56_2
  try clear hcz56_3
  try clear hcz60_0
  try clear hcz60_1
  try clear hcz63_0
  try clear hcz63_1
  try clear hcz63_2
  try clear hcz63_3
  try clear hcz63_4
  try clear hcz63_5
  try clear hcz63_6
  try clear hfz14_0
  try clear hfz14_1
  try clear hfz14_2
  try clear hfz14_3
  try clear hfz14_4
  try clear hfz14_5
  try clear hfz14_6
  try clear hfz20_0
  try clear hfz20_1
  try clear hfz20_2
  try clear hfz20_3
  try clear hfz30_0
  try clear hfz30_1
  try clear hfz33_0
  try clear hfz33_1
  try clear hfz33_2
  try clear hfz33_3
  try clear hfz33_4
  try clear hfz33_5
  try clear hfz33_6
  try clear hfz36_0
  try clear hfz36_1
  try clear hfz36_2
  try clear hfz36_3
  try clear hfz40_0
  try clear hfz40_1
  try clear hfz43_0
  try clear hfz43_1
  try clear hfz43_2
  try clear hfz43_3
  try clear hfz43_4
  try clear hfz43_5
  try clear hfz43_6
  try clear hfz46_0
  try clear hfz46_1
  try clear hfz46_2
  try clear hfz46_3
  try clear hfz50_0
  try clear hfz50_1
  try clear hfz53_0
  try clear hfz53_1
  try clear hfz53_2
  try clear hfz53_3
  try clear hfz53_4
  try clear hfz53_5
  try clear hfz53_6
  try clear hfz56_0
  try clear hfz56_1
  try clear hfz56_2
  try clear hfz56_3
  try clear hfz60_0
  try clear hfz60_1
  try clear hfz63_0
  try clear hfz63_1
  try clear hfz63_2
  try clear hfz63_3
  try clear hfz63_4
  try clear hfz63_5
  try clear hfz63_6
  obtain ⟨kq, x46_7, rfl, HA, HJ7, BK160, BK161, BK162, BK168, HB⟩ := hcut
  cases kq with
  | zero => exact absurd HA.out (by simp [saga_Reply.j0])
  | succ kj7 =>
   have H := HA.out
   clear HA
   simp only [saga_Reply.j0] at H
   by_cases c65 : x46_7 = true
   ·
    subst c65
    have H1 : (some (a1_0, a1_1, a1_2, a1_3, a1_4, a1_5, a1_6, false)) = some (r1, r2, r3, r4, r5, r6, r7, r8) := by rw [if_pos rfl] at H; exact H
    clear H
    have H := H1
    clear H1
    simp only [Option.some.injEq, Prod.mk.injEq] at H
    obtain ⟨rfl, rfl, rfl, rfl, rfl, rfl, rfl, rfl⟩ := H
    obtain ⟨hnb66, hnc66⟩ := Zo NB161_160
    obtain ⟨hnb67, hnc67⟩ := Zo NB161_162
    obtain ⟨hnb68, hnc68⟩ := Zo NB161_168
    obtain ⟨⟨hcz69_0, hcz69_1, hcz69_2, hcz69_3, hcz69_4, hcz69_5, hcz69_6⟩, hfz69_0, hfz69_1, hfz69_2, hfz69_3, hfz69_4, hfz69_5, hfz69_6⟩ := Zk7 BK161
    obtain ⟨hnb70, hnc70⟩ := Zo NB162_160
    obtain ⟨hnb71, hnc71⟩ := Zo NB162_168
    obtain ⟨⟨hcz72_0, hcz72_1, hcz72_2, hcz72_3, hcz72_4, hcz72_5, hcz72_6⟩, hfz72_0, hfz72_1, hfz72_2, hfz72_3, hfz72_4, hfz72_5, hfz72_6⟩ := Zk7 BK162
    go_wp2
    repeat (go_quiet (fail); try go_wp2)
    refine bodyPost_ret (results_ct rfl _ _ gb162 26 #[.string a1_0, .string a1_1, .int .i64 a1_2, .int .i64 a1_3, .int .i64 a1_4, .int .i64 a1_5, .bool a1_6] (0, 0) _ rfl (by (with_reducible repeat first | apply Zn | apply Zd | apply Za); refine Zp (cs := #[.string a1_0, .string a1_1, .int .i64 a1_2, .int .i64 a1_3, .int .i64 a1_4, .int .i64 a1_5, .bool false]) ?_ 6 _ rfl; (with_reducible repeat first | apply Zn | apply Zd | apply Za); refine Zp (cs := #[.string a1_0, .string a1_1, .int .i64 a1_2, .int .i64 a1_3, .int .i64 a1_4, .int .i64 0, .bool false]) ?_ 5 _ rfl; (with_reducible repeat first | apply Zn | apply Zd | apply Za); refine Zp (cs := #[.string a1_0, .string a1_1, .int .i64 a1_2, .int .i64 a1_3, .int .i64 0, .int .i64 0, .bool false]) ?_ 4 _ rfl; (with_reducible repeat first | apply Zn | apply Zd | apply Za); refine Zp (cs := #[.string a1_0, .string a1_1, .int .i64 a1_2, .int .i64 0, .int .i64 0, .int .i64 0, .bool false]) ?_ 3 _ rfl; (with_reducible repeat first | apply Zn | apply Zd | apply Za); refine Zp (cs := #[.string a1_0, .string a1_1, .int .i64 0, .int .i64 0, .int .i64 0, .int .i64 0, .bool false]) ?_ 2 _ rfl; (with_reducible repeat first | apply Zn | apply Zd | apply Za); refine Zp (cs := #[.string a1_0, .string (⟨#[]⟩ : ByteArray), .int .i64 0, .int .i64 0, .int .i64 0, .int .i64 0, .bool false]) ?_ 1 _ rfl; (with_reducible repeat first | apply Zn | apply Zd | apply Za); refine Zp (cs := #[.string (⟨#[]⟩ : ByteArray), .string (⟨#[]⟩ : ByteArray), .int .i64 0, .int .i64 0, .int .i64 0, .int .i64 0, .bool false]) ?_ 0 _ rfl; (with_reducible repeat first | apply Zn | apply Zd | apply Za); exact BK162.out) Try.underlying26 rfl (by kernel_rfl)) rfl ?_
    exact ⟨by first | rfl | (simp [errW_none, errW_some] <;> rfl) | (simp [*, errW_none, errW_some] <;> rfl), Yr HB⟩
   ·
    replace c65 := Bool.eq_false_iff.mpr c65
    subst c65
    have H1 : (if a4 = 1 then (if a1_2 = 1 then (if (wrap64 (a1_3 + 1)) = (l0_1.length : Int) then ((saga_end.f a1_0 a1_1 a1_2 a1_3 a1_4 a1_5 a1_6 3 (wrap64 (a1_3 + 1))).bind fun bt178 => (some (bt178.1, bt178.2.1, bt178.2.2.1, bt178.2.2.2.1, bt178.2.2.2.2.1, bt178.2.2.2.2.2.1, bt178.2.2.2.2.2.2, true))) else ((saga_at.f a0_0 l0_1 a1_0 a1_1 a1_2 a1_3 a1_4 a1_5 a1_6 1 (wrap64 (a1_3 + 1)) a5).bind fun bt192 => (some (bt192.1, bt192.2.1, bt192.2.2.1, bt192.2.2.2.1, bt192.2.2.2.2.1, bt192.2.2.2.2.2.1, bt192.2.2.2.2.2.2, true)))) else ((saga_back.f a0_0 l0_1 a1_0 a1_1 a1_2 a1_3 a1_4 a1_5 a1_6 a5).bind fun bt185 => (some (bt185.1, bt185.2.1, bt185.2.2.1, bt185.2.2.2.1, bt185.2.2.2.2.1, bt185.2.2.2.2.2.1, bt185.2.2.2.2.2.2, true)))) else (if a4 = 2 then (if a1_2 = 1 then ((saga_back.f a0_0 l0_1 a1_0 a1_1 a1_2 a1_3 a1_4 a1_5 a1_6 a5).bind fun bt171 => (some (bt171.1, bt171.2.1, bt171.2.2.1, bt171.2.2.2.1, bt171.2.2.2.2.1, bt171.2.2.2.2.2.1, bt171.2.2.2.2.2.2, true))) else (saga_Reply.j1 kj7 a5 (a1_2 == 1) a0_0 l0_1 a1_0 a1_1 a1_2 a1_3 a1_4 a1_5 a1_6)) else (if a4 = 3 then (saga_Reply.j1 kj7 a5 (a1_2 == 1) a0_0 l0_1 a1_0 a1_1 a1_2 a1_3 a1_4 a1_5 a1_6) else (some (a1_0, a1_1, a1_2, a1_3, a1_4, a1_5, a1_6, false))))) = some (r1, r2, r3, r4, r5, r6, r7, r8) := by rw [if_neg (show ¬ (false = true) by decide)] at H; exact H
    clear H
    have H := H1
    clear H1
    have HC73 := Aside0.mk H
    clear H
    obtain ⟨hnb74, hnc74⟩ := Zo NB161_160
    obtain ⟨hnb75, hnc75⟩ := Zo NB161_162
    obtain ⟨hnb76, hnc76⟩ := Zo NB161_168
    obtain ⟨⟨hcz77_0, hcz77_1, hcz77_2, hcz77_3, hcz77_4, hcz77_5, hcz77_6⟩, hfz77_0, hfz77_1, hfz77_2, hfz77_3, hfz77_4, hfz77_5, hfz77_6⟩ := Zk7 BK161
    go_upto_block 3 with (fail)
    repeat (go_quiet (fail); go_upto_block 3 with (fail))
    go_cut [] (fun wc => ∃ (kq : Nat) (x163000_72 : ByteArray) (x163001_72 : ByteArray) (x163002_72 : Int) (x163003_72 : Int) (x163004_72 : Int) (x163005_72 : Int) (x163006_72 : Bool), Aside0 (saga_Reply.j1 kq a5 (a1_2 == 1) a0_0 l0_1 a1_0 a1_1 a1_2 a1_3 a1_4 a1_5 a1_6 = some (r1, r2, r3, r4, r5, r6, r7, r8)) ∧ Aside0 (kq ≤ kj7) ∧ Aside0 (wc.heap[gb160]? = some (.cells #[.string a0_0, (.slice A0_1 l0_1.length c0_1)] 24 (0, 0))) ∧ Aside0 (wc.heap[gb161]? = some (.cells #[.string a1_0, .string a1_1, .int .i64 a1_2, .int .i64 a1_3, .int .i64 a1_4, .int .i64 a1_5, .bool a1_6] 26 (0, 0))) ∧ Aside0 (wc.heap[gb162]? = some (.cells #[.string x163000_72, .string x163001_72, .int .i64 x163002_72, .int .i64 x163003_72, .int .i64 x163004_72, .int .i64 x163005_72, .bool x163006_72] 26 (0, 0))) ∧ Aside0 (wc.heap[gb168]? = some (.cells #[.string t163, .int .i64 t164, .int .i64 t165, .int .i64 t166] 35 (0, 0))) ∧ Aside0 (Below w.heap.size w wc))
    case first =>
     have H := HC73.out
     clear HC73
     by_cases c78 : a4 = 1
     ·
      rw [if_pos c78] at H
      have c78b0 : (a4 == 1) = true := beq_iff_eq.mpr c78
      have c78b1 : (a4 != 1) = false := bne_eq_false_iff_eq.mpr c78
      clear c78
      (first | rw [c78b0] | (simp only [i64_w, i32_w]; rw [c78b0]) | skip)
      by_cases c79 : a1_2 = 1
      ·
       rw [if_pos c79] at H
       have c79b0 : (a1_2 == 1) = true := beq_iff_eq.mpr c79
       have c79b1 : (a1_2 != 1) = false := bne_eq_false_iff_eq.mpr c79
       clear c79
       by_cases c80 : (wrap64 (a1_3 + 1)) = (l0_1.length : Int)
       ·
        rw [if_pos c80] at H
        have c80b0 : ((wrap64 (a1_3 + 1)) == (l0_1.length : Int)) = true := beq_iff_eq.mpr c80
        have c80b1 : ((wrap64 (a1_3 + 1)) != (l0_1.length : Int)) = false := bne_eq_false_iff_eq.mpr c80
        clear c80
        replace H := Option.bind_eq_some_iff.mp H
        obtain ⟨⟨t178, t179, t180, t181, t182, t183, t184⟩, A810, H⟩ := H
        replace H : (some (t178, t179, t180, t181, t182, t183, t184, true)) = some (r1, r2, r3, r4, r5, r6, r7, r8) := H
        have A81 := Aside0.mk A810
        clear A810
        simp only [Option.some.injEq, Prod.mk.injEq] at H
        obtain ⟨rfl, rfl, rfl, rfl, rfl, rfl, rfl, rfl⟩ := H
        obtain ⟨hnb82, hnc82⟩ := Zo NB161_160
        obtain ⟨hnb83, hnc83⟩ := Zo NB161_162
        obtain ⟨hnb84, hnc84⟩ := Zo NB161_168
        obtain ⟨⟨hcz85_0, hcz85_1, hcz85_2, hcz85_3, hcz85_4, hcz85_5, hcz85_6⟩, hfz85_0, hfz85_1, hfz85_2, hfz85_3, hfz85_4, hfz85_5, hfz85_6⟩ := Zk7 BK161
        obtain ⟨hnb86, hnc86⟩ := Zo NB160_162
        obtain ⟨hnb87, hnc87⟩ := Zo NB160_168
        obtain ⟨⟨hcz88_0, hcz88_1⟩, hfz88_0, hfz88_1⟩ := Zk2 BK160
        go_wp2_with (first | (go_at_call 41; (with_reducible refine (saga_end.calls a1_0 a1_1 a1_2 a1_3 a1_4 a1_5 a1_6 3 (wrap64 (a1_3 + 1)) t178 t179 t180 t181 t182 t183 t184 _ A81.out).mono ?_); rintro e w89 ⟨rfl, hb⟩; have n0_ := Aside0.mk (Zv BK160 hb); have n1_ := Aside0.mk (Zv BK161 hb); have n2_ := Aside0.mk (Zv BK162 hb); have n3_ := Aside0.mk (Zv BK168 hb); have n4_ := Aside0.mk (Yv HB hb); clear BK160; clear BK161; clear BK162; clear BK168; clear HB; have BK160 := n0_; have BK161 := n1_; have BK162 := n2_; have BK168 := n3_; have HB := n4_; clear n0_ n1_ n2_ n3_ n4_; (try clear hb); (try clear hb2); (try clear hk); (try clear hi); obtain ⟨hnb90, hnc90⟩ := Zo NB162_168; obtain ⟨⟨hcz91_0, hcz91_1, hcz91_2, hcz91_3, hcz91_4, hcz91_5, hcz91_6⟩, hfz91_0, hfz91_1, hfz91_2, hfz91_3, hfz91_4, hfz91_5, hfz91_6⟩ := Zk7 BK162))
        repeat (go_quiet (first | (go_at_call 41; (with_reducible refine (saga_end.calls a1_0 a1_1 a1_2 a1_3 a1_4 a1_5 a1_6 3 (wrap64 (a1_3 + 1)) t178 t179 t180 t181 t182 t183 t184 _ A81.out).mono ?_); rintro e w89 ⟨rfl, hb⟩; have n0_ := Aside0.mk (Zv BK160 hb); have n1_ := Aside0.mk (Zv BK161 hb); have n2_ := Aside0.mk (Zv BK162 hb); have n3_ := Aside0.mk (Zv BK168 hb); have n4_ := Aside0.mk (Yv HB hb); clear BK160; clear BK161; clear BK162; clear BK168; clear HB; have BK160 := n0_; have BK161 := n1_; have BK162 := n2_; have BK168 := n3_; have HB := n4_; clear n0_ n1_ n2_ n3_ n4_; (try clear hb); (try clear hb2); (try clear hk); (try clear hi); obtain ⟨hnb90, hnc90⟩ := Zo NB162_168; obtain ⟨⟨hcz91_0, hcz91_1, hcz91_2, hcz91_3, hcz91_4, hcz91_5, hcz91_6⟩, hfz91_0, hfz91_1, hfz91_2, hfz91_3, hfz91_4, hfz91_5, hfz91_6⟩ := Zk7 BK162)); try go_wp2_with (first | (go_at_call 41; (with_reducible refine (saga_end.calls a1_0 a1_1 a1_2 a1_3 a1_4 a1_5 a1_6 3 (wrap64 (a1_3 + 1)) t178 t179 t180 t181 t182 t183 t184 _ A81.out).mono ?_); rintro e w89 ⟨rfl, hb⟩; have n0_ := Aside0.mk (Zv BK160 hb); have n1_ := Aside0.mk (Zv BK161 hb); have n2_ := Aside0.mk (Zv BK162 hb); have n3_ := Aside0.mk (Zv BK168 hb); have n4_ := Aside0.mk (Yv HB hb); clear BK160; clear BK161; clear BK162; clear BK168; clear HB; have BK160 := n0_; have BK161 := n1_; have BK162 := n2_; have BK168 := n3_; have HB := n4_; clear n0_ n1_ n2_ n3_ n4_; (try clear hb); (try clear hb2); (try clear hk); (try clear hi); obtain ⟨hnb90, hnc90⟩ := Zo NB162_168; obtain ⟨⟨hcz91_0, hcz91_1, hcz91_2, hcz91_3, hcz91_4, hcz91_5, hcz91_6⟩, hfz91_0, hfz91_1, hfz91_2, hfz91_3, hfz91_4, hfz91_5, hfz91_6⟩ := Zk7 BK162)))
        refine bodyPost_ret (results_ct rfl _ _ gb162 26 #[.string t178, .string t179, .int .i64 t180, .int .i64 t181, .int .i64 t182, .int .i64 t183, .bool t184] (0, 0) _ rfl (by (with_reducible repeat first | apply Zn | apply Zd | apply Za); refine Zp (cs := #[.string t178, .string t179, .int .i64 t180, .int .i64 t181, .int .i64 t182, .int .i64 t183, .bool false]) ?_ 6 _ rfl; (with_reducible repeat first | apply Zn | apply Zd | apply Za); refine Zp (cs := #[.string t178, .string t179, .int .i64 t180, .int .i64 t181, .int .i64 t182, .int .i64 0, .bool false]) ?_ 5 _ rfl; (with_reducible repeat first | apply Zn | apply Zd | apply Za); refine Zp (cs := #[.string t178, .string t179, .int .i64 t180, .int .i64 t181, .int .i64 0, .int .i64 0, .bool false]) ?_ 4 _ rfl; (with_reducible repeat first | apply Zn | apply Zd | apply Za); refine Zp (cs := #[.string t178, .string t179, .int .i64 t180, .int .i64 0, .int .i64 0, .int .i64 0, .bool false]) ?_ 3 _ rfl; (with_reducible repeat first | apply Zn | apply Zd | apply Za); refine Zp (cs := #[.string t178, .string t179, .int .i64 0, .int .i64 0, .int .i64 0, .int .i64 0, .bool false]) ?_ 2 _ rfl; (with_reducible repeat first | apply Zn | apply Zd | apply Za); refine Zp (cs := #[.string t178, .string (⟨#[]⟩ : ByteArray), .int .i64 0, .int .i64 0, .int .i64 0, .int .i64 0, .bool false]) ?_ 1 _ rfl; (with_reducible repeat first | apply Zn | apply Zd | apply Za); refine Zp (cs := #[.string (⟨#[]⟩ : ByteArray), .string (⟨#[]⟩ : ByteArray), .int .i64 0, .int .i64 0, .int .i64 0, .int .i64 0, .bool false]) ?_ 0 _ rfl; (with_reducible repeat first | apply Zn | apply Zd | apply Za); exact BK162.out) Try.underlying26 rfl (by kernel_rfl)) rfl ?_
        exact ⟨by first | rfl | (simp [errW_none, errW_some] <;> rfl) | (simp [*, errW_none, errW_some] <;> rfl), Yr HB⟩
       ·
        rw [if_neg c80] at H
        have c80b0 : ((wrap64 (a1_3 + 1)) == (l0_1.length : Int)) = false := beq_eq_false_iff_ne.mpr c80
        have c80b1 : ((wrap64 (a1_3 + 1)) != (l0_1.length : Int)) = true := bne_iff_ne.mpr c80
        replace H := Option.bind_eq_some_iff.mp H
        obtain ⟨⟨t192, t193, t194, t195, t196, t197, t198⟩, A920, H⟩ := H
        replace H : (some (t192, t193, t194, t195, t196, t197, t198, true)) = some (r1, r2, r3, r4, r5, r6, r7, r8) := H
        have A92 := Aside0.mk A920
        clear A920
        simp only [Option.some.injEq, Prod.mk.injEq] at H
        obtain ⟨rfl, rfl, rfl, rfl, rfl, rfl, rfl, rfl⟩ := H
        obtain ⟨hnb93, hnc93⟩ := Zo NB161_160
        obtain ⟨hnb94, hnc94⟩ := Zo NB161_162
        obtain ⟨hnb95, hnc95⟩ := Zo NB161_168
        obtain ⟨⟨hcz96_0, hcz96_1, hcz96_2, hcz96_3, hcz96_4, hcz96_5, hcz96_6⟩, hfz96_0, hfz96_1, hfz96_2, hfz96_3, hfz96_4, hfz96_5, hfz96_6⟩ := Zk7 BK161
        obtain ⟨hnb97, hnc97⟩ := Zo NB160_162
        obtain ⟨hnb98, hnc98⟩ := Zo NB160_168
        obtain ⟨⟨hcz99_0, hcz99_1⟩, hfz99_0, hfz99_1⟩ := Zk2 BK160
        go_wp2_with (first | (go_at_call 36; (with_reducible refine (saga_at.calls a0_0 _ _ l0_1 a1_0 a1_1 a1_2 a1_3 a1_4 a1_5 a1_6 1 (wrap64 (a1_3 + 1)) a5 t192 t193 t194 t195 t196 t197 t198 _ ?side1 ?side2 A92.out).mono ?_); (case side1 => repeat (first | exact (Kd.C_below HR0_1.out HB.out) | (with_reducible refine Kd.C_alloc ?_ _) | (with_reducible refine Kd.C_drewN ?_ _) | (with_reducible refine Kd.C_drew ?_))); (case side2 => exact HC0_1.out); rintro e w100 ⟨rfl, hb⟩; have n0_ := Aside0.mk (Zv BK160 hb); have n1_ := Aside0.mk (Zv BK161 hb); have n2_ := Aside0.mk (Zv BK162 hb); have n3_ := Aside0.mk (Zv BK168 hb); have n4_ := Aside0.mk (Yv HB hb); clear BK160; clear BK161; clear BK162; clear BK168; clear HB; have BK160 := n0_; have BK161 := n1_; have BK162 := n2_; have BK168 := n3_; have HB := n4_; clear n0_ n1_ n2_ n3_ n4_; (try clear hb); (try clear hb2); (try clear hk); (try clear hi); obtain ⟨hnb101, hnc101⟩ := Zo NB162_168; obtain ⟨⟨hcz102_0, hcz102_1, hcz102_2, hcz102_3, hcz102_4, hcz102_5, hcz102_6⟩, hfz102_0, hfz102_1, hfz102_2, hfz102_3, hfz102_4, hfz102_5, hfz102_6⟩ := Zk7 BK162))
        repeat (go_quiet (first | (go_at_call 36; (with_reducible refine (saga_at.calls a0_0 _ _ l0_1 a1_0 a1_1 a1_2 a1_3 a1_4 a1_5 a1_6 1 (wrap64 (a1_3 + 1)) a5 t192 t193 t194 t195 t196 t197 t198 _ ?side1 ?side2 A92.out).mono ?_); (case side1 => repeat (first | exact (Kd.C_below HR0_1.out HB.out) | (with_reducible refine Kd.C_alloc ?_ _) | (with_reducible refine Kd.C_drewN ?_ _) | (with_reducible refine Kd.C_drew ?_))); (case side2 => exact HC0_1.out); rintro e w100 ⟨rfl, hb⟩; have n0_ := Aside0.mk (Zv BK160 hb); have n1_ := Aside0.mk (Zv BK161 hb); have n2_ := Aside0.mk (Zv BK162 hb); have n3_ := Aside0.mk (Zv BK168 hb); have n4_ := Aside0.mk (Yv HB hb); clear BK160; clear BK161; clear BK162; clear BK168; clear HB; have BK160 := n0_; have BK161 := n1_; have BK162 := n2_; have BK168 := n3_; have HB := n4_; clear n0_ n1_ n2_ n3_ n4_; (try clear hb); (try clear hb2); (try clear hk); (try clear hi); obtain ⟨hnb101, hnc101⟩ := Zo NB162_168; obtain ⟨⟨hcz102_0, hcz102_1, hcz102_2, hcz102_3, hcz102_4, hcz102_5, hcz102_6⟩, hfz102_0, hfz102_1, hfz102_2, hfz102_3, hfz102_4, hfz102_5, hfz102_6⟩ := Zk7 BK162)); try go_wp2_with (first | (go_at_call 36; (with_reducible refine (saga_at.calls a0_0 _ _ l0_1 a1_0 a1_1 a1_2 a1_3 a1_4 a1_5 a1_6 1 (wrap64 (a1_3 + 1)) a5 t192 t193 t194 t195 t196 t197 t198 _ ?side1 ?side2 A92.out).mono ?_); (case side1 => repeat (first | exact (Kd.C_below HR0_1.out HB.out) | (with_reducible refine Kd.C_alloc ?_ _) | (with_reducible refine Kd.C_drewN ?_ _) | (with_reducible refine Kd.C_drew ?_))); (case side2 => exact HC0_1.out); rintro e w100 ⟨rfl, hb⟩; have n0_ := Aside0.mk (Zv BK160 hb); have n1_ := Aside0.mk (Zv BK161 hb); have n2_ := Aside0.mk (Zv BK162 hb); have n3_ := Aside0.mk (Zv BK168 hb); have n4_ := Aside0.mk (Yv HB hb); clear BK160; clear BK161; clear BK162; clear BK168; clear HB; have BK160 := n0_; have BK161 := n1_; have BK162 := n2_; have BK168 := n3_; have HB := n4_; clear n0_ n1_ n2_ n3_ n4_; (try clear hb); (try clear hb2); (try clear hk); (try clear hi); obtain ⟨hnb101, hnc101⟩ := Zo NB162_168; obtain ⟨⟨hcz102_0, hcz102_1, hcz102_2, hcz102_3, hcz102_4, hcz102_5, hcz102_6⟩, hfz102_0, hfz102_1, hfz102_2, hfz102_3, hfz102_4, hfz102_5, hfz102_6⟩ := Zk7 BK162)))
        refine bodyPost_ret (results_ct rfl _ _ gb162 26 #[.string t192, .string t193, .int .i64 t194, .int .i64 t195, .int .i64 t196, .int .i64 t197, .bool t198] (0, 0) _ rfl (by (with_reducible repeat first | apply Zn | apply Zd | apply Za); refine Zp (cs := #[.string t192, .string t193, .int .i64 t194, .int .i64 t195, .int .i64 t196, .int .i64 t197, .bool false]) ?_ 6 _ rfl; (with_reducible repeat first | apply Zn | apply Zd | apply Za); refine Zp (cs := #[.string t192, .string t193, .int .i64 t194, .int .i64 t195, .int .i64 t196, .int .i64 0, .bool false]) ?_ 5 _ rfl; (with_reducible repeat first | apply Zn | apply Zd | apply Za); refine Zp (cs := #[.string t192, .string t193, .int .i64 t194, .int .i64 t195, .int .i64 0, .int .i64 0, .bool false]) ?_ 4 _ rfl; (with_reducible repeat first | apply Zn | apply Zd | apply Za); refine Zp (cs := #[.string t192, .string t193, .int .i64 t194, .int .i64 0, .int .i64 0, .int .i64 0, .bool false]) ?_ 3 _ rfl; (with_reducible repeat first | apply Zn | apply Zd | apply Za); refine Zp (cs := #[.string t192, .string t193, .int .i64 0, .int .i64 0, .int .i64 0, .int .i64 0, .bool false]) ?_ 2 _ rfl; (with_reducible repeat first | apply Zn | apply Zd | apply Za); refine Zp (cs := #[.string t192, .string (⟨#[]⟩ : ByteArray), .int .i64 0, .int .i64 0, .int .i64 0, .int .i64 0, .bool false]) ?_ 1 _ rfl; (with_reducible repeat first | apply Zn | apply Zd | apply Za); refine Zp (cs := #[.string (⟨#[]⟩ : ByteArray), .string (⟨#[]⟩ : ByteArray), .int .i64 0, .int .i64 0, .int .i64 0, .int .i64 0, .bool false]) ?_ 0 _ rfl; (with_reducible repeat first | apply Zn | apply Zd | apply Za); exact BK162.out) Try.underlying26 rfl (by kernel_rfl)) rfl ?_
        exact ⟨by first | rfl | (simp [errW_none, errW_some] <;> rfl) | (simp [*, errW_none, errW_some] <;> rfl), Yr HB⟩
      ·
       rw [if_neg c79] at H
       have c79b0 : (a1_2 == 1) = false := beq_eq_false_iff_ne.mpr c79
       have c79b1 : (a1_2 != 1) = true := bne_iff_ne.mpr c79
       replace H := Option.bind_eq_some_iff.mp H
       obtain ⟨⟨t185, t186, t187, t188, t189, t190, t191⟩, A1030, H⟩ := H
       replace H : (some (t185, t186, t187, t188, t189, t190, t191, true)) = some (r1, r2, r3, r4, r5, r6, r7, r8) := H
       have A103 := Aside0.mk A1030
       clear A1030
       simp only [Option.some.injEq, Prod.mk.injEq] at H
       obtain ⟨rfl, rfl, rfl, rfl, rfl, rfl, rfl, rfl⟩ := H
       obtain ⟨hnb104, hnc104⟩ := Zo NB160_161
       obtain ⟨hnb105, hnc105⟩ := Zo NB160_162
       obtain ⟨hnb106, hnc106⟩ := Zo NB160_168
       obtain ⟨⟨hcz107_0, hcz107_1⟩, hfz107_0, hfz107_1⟩ := Zk2 BK160
       obtain ⟨hnb108, hnc108⟩ := Zo NB161_162
       obtain ⟨hnb109, hnc109⟩ := Zo NB161_168
       obtain ⟨⟨hcz110_0, hcz110_1, hcz110_2, hcz110_3, hcz110_4, hcz110_5, hcz110_6⟩, hfz110_0, hfz110_1, hfz110_2, hfz110_3, hfz110_4, hfz110_5, hfz110_6⟩ := Zk7 BK161
       go_wp2_with (first | (go_at_call 40; (with_reducible refine (saga_back.calls a0_0 _ _ l0_1 a1_0 a1_1 a1_2 a1_3 a1_4 a1_5 a1_6 a5 t185 t186 t187 t188 t189 t190 t191 _ ?side1 ?side2 A103.out).mono ?_); (case side1 => repeat (first | exact (Kd.C_below HR0_1.out HB.out) | (with_reducible refine Kd.C_alloc ?_ _) | (with_reducible refine Kd.C_drewN ?_ _) | (with_reducible refine Kd.C_drew ?_))); (case side2 => exact HC0_1.out); rintro e w111 ⟨rfl, hb⟩; have n0_ := Aside0.mk (Zv BK160 hb); have n1_ := Aside0.mk (Zv BK161 hb); have n2_ := Aside0.mk (Zv BK162 hb); have n3_ := Aside0.mk (Zv BK168 hb); have n4_ := Aside0.mk (Yv HB hb); clear BK160; clear BK161; clear BK162; clear BK168; clear HB; have BK160 := n0_; have BK161 := n1_; have BK162 := n2_; have BK168 := n3_; have HB := n4_; clear n0_ n1_ n2_ n3_ n4_; (try clear hb); (try clear hb2); (try clear hk); (try clear hi); obtain ⟨hnb112, hnc112⟩ := Zo NB162_168; obtain ⟨⟨hcz113_0, hcz113_1, hcz113_2, hcz113_3, hcz113_4, hcz113_5, hcz113_6⟩, hfz113_0, hfz113_1, hfz113_2, hfz113_3, hfz113_4, hfz113_5, hfz113_6⟩ := Zk7 BK162))
       repeat (go_quiet (first | (go_at_call 40; (with_reducible refine (saga_back.calls a0_0 _ _ l0_1 a1_0 a1_1 a1_2 a1_3 a1_4 a1_5 a1_6 a5 t185 t186 t187 t188 t189 t190 t191 _ ?side1 ?side2 A103.out).mono ?_); (case side1 => repeat (first | exact (Kd.C_below HR0_1.out HB.out) | (with_reducible refine Kd.C_alloc ?_ _) | (with_reducible refine Kd.C_drewN ?_ _) | (with_reducible refine Kd.C_drew ?_))); (case side2 => exact HC0_1.out); rintro e w111 ⟨rfl, hb⟩; have n0_ := Aside0.mk (Zv BK160 hb); have n1_ := Aside0.mk (Zv BK161 hb); have n2_ := Aside0.mk (Zv BK162 hb); have n3_ := Aside0.mk (Zv BK168 hb); have n4_ := Aside0.mk (Yv HB hb); clear BK160; clear BK161; clear BK162; clear BK168; clear HB; have BK160 := n0_; have BK161 := n1_; have BK162 := n2_; have BK168 := n3_; have HB := n4_; clear n0_ n1_ n2_ n3_ n4_; (try clear hb); (try clear hb2); (try clear hk); (try clear hi); obtain ⟨hnb112, hnc112⟩ := Zo NB162_168; obtain ⟨⟨hcz113_0, hcz113_1, hcz113_2, hcz113_3, hcz113_4, hcz113_5, hcz113_6⟩, hfz113_0, hfz113_1, hfz113_2, hfz113_3, hfz113_4, hfz113_5, hfz113_6⟩ := Zk7 BK162)); try go_wp2_with (first | (go_at_call 40; (with_reducible refine (saga_back.calls a0_0 _ _ l0_1 a1_0 a1_1 a1_2 a1_3 a1_4 a1_5 a1_6 a5 t185 t186 t187 t188 t189 t190 t191 _ ?side1 ?side2 A103.out).mono ?_); (case side1 => repeat (first | exact (Kd.C_below HR0_1.out HB.out) | (with_reducible refine Kd.C_alloc ?_ _) | (with_reducible refine Kd.C_drewN ?_ _) | (with_reducible refine Kd.C_drew ?_))); (case side2 => exact HC0_1.out); rintro e w111 ⟨rfl, hb⟩; have n0_ := Aside0.mk (Zv BK160 hb); have n1_ := Aside0.mk (Zv BK161 hb); have n2_ := Aside0.mk (Zv BK162 hb); have n3_ := Aside0.mk (Zv BK168 hb); have n4_ := Aside0.mk (Yv HB hb); clear BK160; clear BK161; clear BK162; clear BK168; clear HB; have BK160 := n0_; have BK161 := n1_; have BK162 := n2_; have BK168 := n3_; have HB := n4_; clear n0_ n1_ n2_ n3_ n4_; (try clear hb); (try clear hb2); (try clear hk); (try clear hi); obtain ⟨hnb112, hnc112⟩ := Zo NB162_168; obtain ⟨⟨hcz113_0, hcz113_1, hcz113_2, hcz113_3, hcz113_4, hcz113_5, hcz113_6⟩, hfz113_0, hfz113_1, hfz113_2, hfz113_3, hfz113_4, hfz113_5, hfz113_6⟩ := Zk7 BK162)))
       refine bodyPost_ret (results_ct rfl _ _ gb162 26 #[.string t185, .string t186, .int .i64 t187, .int .i64 t188, .int .i64 t189, .int .i64 t190, .bool t191] (0, 0) _ rfl (by (with_reducible repeat first | apply Zn | apply Zd | apply Za); refine Zp (cs := #[.string t185, .string t186, .int .i64 t187, .int .i64 t188, .int .i64 t189, .int .i64 t190, .bool false]) ?_ 6 _ rfl; (with_reducible repeat first | apply Zn | apply Zd | apply Za); refine Zp (cs := #[.string t185, .string t186, .int .i64 t187, .int .i64 t188, .int .i64 t189, .int .i64 0, .bool false]) ?_ 5 _ rfl; (with_reducible repeat first | apply Zn | apply Zd | apply Za); refine Zp (cs := #[.string t185, .string t186, .int .i64 t187, .int .i64 t188, .int .i64 0, .int .i64 0, .bool false]) ?_ 4 _ rfl; (with_reducible repeat first | apply Zn | apply Zd | apply Za); refine Zp (cs := #[.string t185, .string t186, .int .i64 t187, .int .i64 0, .int .i64 0, .int .i64 0, .bool false]) ?_ 3 _ rfl; (with_reducible repeat first | apply Zn | apply Zd | apply Za); refine Zp (cs := #[.string t185, .string t186, .int .i64 0, .int .i64 0, .int .i64 0, .int .i64 0, .bool false]) ?_ 2 _ rfl; (with_reducible repeat first | apply Zn | apply Zd | apply Za); refine Zp (cs := #[.string t185, .string (⟨#[]⟩ : ByteArray), .int .i64 0, .int .i64 0, .int .i64 0, .int .i64 0, .bool false]) ?_ 1 _ rfl; (with_reducible repeat first | apply Zn | apply Zd | apply Za); refine Zp (cs := #[.string (⟨#[]⟩ : ByteArray), .string (⟨#[]⟩ : ByteArray), .int .i64 0, .int .i64 0, .int .i64 0, .int .i64 0, .bool false]) ?_ 0 _ rfl; (with_reducible repeat first | apply Zn | apply Zd | apply Za); exact BK162.out) Try.underlying26 rfl (by kernel_rfl)) rfl ?_
       exact ⟨by first | rfl | (simp [errW_none, errW_some] <;> rfl) | (simp [*, errW_none, errW_some] <;> rfl), Yr HB⟩
     ·
      rw [if_neg c78] at H
      have c78b0 : (a4 == 1) = false := beq_eq_false_iff_ne.mpr c78
      have c78b1 : (a4 != 1) = true := bne_iff_ne.mpr c78
      (first | rw [c78b0] | (simp only [i64_w, i32_w]; rw [c78b0]) | skip)
      by_cases c114 : a4 = 2
      ·
       rw [if_pos c114] at H
       have c114b0 : (a4 == 2) = true := beq_iff_eq.mpr c114
       have c114b1 : (a4 != 2) = false := bne_eq_false_iff_eq.mpr c114
       clear c114
       by_cases c115 : a1_2 = 1
       ·
        rw [if_pos c115] at H
        have c115b0 : (a1_2 == 1) = true := beq_iff_eq.mpr c115
        have c115b1 : (a1_2 != 1) = false := bne_eq_false_iff_eq.mpr c115
        clear c115
        replace H := Option.bind_eq_some_iff.mp H
        obtain ⟨⟨t171, t172, t173, t174, t175, t176, t177⟩, A1160, H⟩ := H
        replace H : (some (t171, t172, t173, t174, t175, t176, t177, true)) = some (r1, r2, r3, r4, r5, r6, r7, r8) := H
        have A116 := Aside0.mk A1160
        clear A1160
        simp only [Option.some.injEq, Prod.mk.injEq] at H
        obtain ⟨rfl, rfl, rfl, rfl, rfl, rfl, rfl, rfl⟩ := H
        obtain ⟨hnb117, hnc117⟩ := Zo NB160_161
        obtain ⟨hnb118, hnc118⟩ := Zo NB160_162
        obtain ⟨hnb119, hnc119⟩ := Zo NB160_168
        obtain ⟨⟨hcz120_0, hcz120_1⟩, hfz120_0, hfz120_1⟩ := Zk2 BK160
        obtain ⟨hnb121, hnc121⟩ := Zo NB161_162
        obtain ⟨hnb122, hnc122⟩ := Zo NB161_168
        obtain ⟨⟨hcz123_0, hcz123_1, hcz123_2, hcz123_3, hcz123_4, hcz123_5, hcz123_6⟩, hfz123_0, hfz123_1, hfz123_2, hfz123_3, hfz123_4, hfz123_5, hfz123_6⟩ := Zk7 BK161
        go_wp2_with (first | (go_at_call 40; (with_reducible refine (saga_back.calls a0_0 _ _ l0_1 a1_0 a1_1 a1_2 a1_3 a1_4 a1_5 a1_6 a5 t171 t172 t173 t174 t175 t176 t177 _ ?side1 ?side2 A116.out).mono ?_); (case side1 => repeat (first | exact (Kd.C_below HR0_1.out HB.out) | (with_reducible refine Kd.C_alloc ?_ _) | (with_reducible refine Kd.C_drewN ?_ _) | (with_reducible refine Kd.C_drew ?_))); (case side2 => exact HC0_1.out); rintro e w124 ⟨rfl, hb⟩; have n0_ := Aside0.mk (Zv BK160 hb); have n1_ := Aside0.mk (Zv BK161 hb); have n2_ := Aside0.mk (Zv BK162 hb); have n3_ := Aside0.mk (Zv BK168 hb); have n4_ := Aside0.mk (Yv HB hb); clear BK160; clear BK161; clear BK162; clear BK168; clear HB; have BK160 := n0_; have BK161 := n1_; have BK162 := n2_; have BK168 := n3_; have HB := n4_; clear n0_ n1_ n2_ n3_ n4_; (try clear hb); (try clear hb2); (try clear hk); (try clear hi); obtain ⟨hnb125, hnc125⟩ := Zo NB162_168; obtain ⟨⟨hcz126_0, hcz126_1, hcz126_2, hcz126_3, hcz126_4, hcz126_5, hcz126_6⟩, hfz126_0, hfz126_1, hfz126_2, hfz126_3, hfz126_4, hfz126_5, hfz126_6⟩ := Zk7 BK162))
        repeat (go_quiet (first | (go_at_call 40; (with_reducible refine (saga_back.calls a0_0 _ _ l0_1 a1_0 a1_1 a1_2 a1_3 a1_4 a1_5 a1_6 a5 t171 t172 t173 t174 t175 t176 t177 _ ?side1 ?side2 A116.out).mono ?_); (case side1 => repeat (first | exact (Kd.C_below HR0_1.out HB.out) | (with_reducible refine Kd.C_alloc ?_ _) | (with_reducible refine Kd.C_drewN ?_ _) | (with_reducible refine Kd.C_drew ?_))); (case side2 => exact HC0_1.out); rintro e w124 ⟨rfl, hb⟩; have n0_ := Aside0.mk (Zv BK160 hb); have n1_ := Aside0.mk (Zv BK161 hb); have n2_ := Aside0.mk (Zv BK162 hb); have n3_ := Aside0.mk (Zv BK168 hb); have n4_ := Aside0.mk (Yv HB hb); clear BK160; clear BK161; clear BK162; clear BK168; clear HB; have BK160 := n0_; have BK161 := n1_; have BK162 := n2_; have BK168 := n3_; have HB := n4_; clear n0_ n1_ n2_ n3_ n4_; (try clear hb); (try clear hb2); (try clear hk); (try clear hi); obtain ⟨hnb125, hnc125⟩ := Zo NB162_168; obtain ⟨⟨hcz126_0, hcz126_1, hcz126_2, hcz126_3, hcz126_4, hcz126_5, hcz126_6⟩, hfz126_0, hfz126_1, hfz126_2, hfz126_3, hfz126_4, hfz126_5, hfz126_6⟩ := Zk7 BK162)); try go_wp2_with (first | (go_at_call 40; (with_reducible refine (saga_back.calls a0_0 _ _ l0_1 a1_0 a1_1 a1_2 a1_3 a1_4 a1_5 a1_6 a5 t171 t172 t173 t174 t175 t176 t177 _ ?side1 ?side2 A116.out).mono ?_); (case side1 => repeat (first | exact (Kd.C_below HR0_1.out HB.out) | (with_reducible refine Kd.C_alloc ?_ _) | (with_reducible refine Kd.C_drewN ?_ _) | (with_reducible refine Kd.C_drew ?_))); (case side2 => exact HC0_1.out); rintro e w124 ⟨rfl, hb⟩; have n0_ := Aside0.mk (Zv BK160 hb); have n1_ := Aside0.mk (Zv BK161 hb); have n2_ := Aside0.mk (Zv BK162 hb); have n3_ := Aside0.mk (Zv BK168 hb); have n4_ := Aside0.mk (Yv HB hb); clear BK160; clear BK161; clear BK162; clear BK168; clear HB; have BK160 := n0_; have BK161 := n1_; have BK162 := n2_; have BK168 := n3_; have HB := n4_; clear n0_ n1_ n2_ n3_ n4_; (try clear hb); (try clear hb2); (try clear hk); (try clear hi); obtain ⟨hnb125, hnc125⟩ := Zo NB162_168; obtain ⟨⟨hcz126_0, hcz126_1, hcz126_2, hcz126_3, hcz126_4, hcz126_5, hcz126_6⟩, hfz126_0, hfz126_1, hfz126_2, hfz126_3, hfz126_4, hfz126_5, hfz126_6⟩ := Zk7 BK162)))
        refine bodyPost_ret (results_ct rfl _ _ gb162 26 #[.string t171, .string t172, .int .i64 t173, .int .i64 t174, .int .i64 t175, .int .i64 t176, .bool t177] (0, 0) _ rfl (by (with_reducible repeat first | apply Zn | apply Zd | apply Za); refine Zp (cs := #[.string t171, .string t172, .int .i64 t173, .int .i64 t174, .int .i64 t175, .int .i64 t176, .bool false]) ?_ 6 _ rfl; (with_reducible repeat first | apply Zn | apply Zd | apply Za); refine Zp (cs := #[.string t171, .string t172, .int .i64 t173, .int .i64 t174, .int .i64 t175, .int .i64 0, .bool false]) ?_ 5 _ rfl; (with_reducible repeat first | apply Zn | apply Zd | apply Za); refine Zp (cs := #[.string t171, .string t172, .int .i64 t173, .int .i64 t174, .int .i64 0, .int .i64 0, .bool false]) ?_ 4 _ rfl; (with_reducible repeat first | apply Zn | apply Zd | apply Za); refine Zp (cs := #[.string t171, .string t172, .int .i64 t173, .int .i64 0, .int .i64 0, .int .i64 0, .bool false]) ?_ 3 _ rfl; (with_reducible repeat first | apply Zn | apply Zd | apply Za); refine Zp (cs := #[.string t171, .string t172, .int .i64 0, .int .i64 0, .int .i64 0, .int .i64 0, .bool false]) ?_ 2 _ rfl; (with_reducible repeat first | apply Zn | apply Zd | apply Za); refine Zp (cs := #[.string t171, .string (⟨#[]⟩ : ByteArray), .int .i64 0, .int .i64 0, .int .i64 0, .int .i64 0, .bool false]) ?_ 1 _ rfl; (with_reducible repeat first | apply Zn | apply Zd | apply Za); refine Zp (cs := #[.string (⟨#[]⟩ : ByteArray), .string (⟨#[]⟩ : ByteArray), .int .i64 0, .int .i64 0, .int .i64 0, .int .i64 0, .bool false]) ?_ 0 _ rfl; (with_reducible repeat first | apply Zn | apply Zd | apply Za); exact BK162.out) Try.underlying26 rfl (by kernel_rfl)) rfl ?_
        exact ⟨by first | rfl | (simp [errW_none, errW_some] <;> rfl) | (simp [*, errW_none, errW_some] <;> rfl), Yr HB⟩
       ·
        rw [if_neg c115] at H
        have c115b0 : (a1_2 == 1) = false := beq_eq_false_iff_ne.mpr c115
        have c115b1 : (a1_2 != 1) = true := bne_iff_ne.mpr c115
        have H' := Aside0.mk H
        clear H
        go_wp2
        repeat (go_quiet (fail); try go_wp2)
        go_meet
        case rel => exact ⟨_, ((⟨#[]⟩ : ByteArray)), ((⟨#[]⟩ : ByteArray)), (0), (0), (0), (0), (false), H', ⟨by have := HJ7.out; first | omega | exact Nat.le_refl _⟩, ⟨by (with_reducible repeat first | apply Zn | apply Zd | apply Za); exact BK160.out⟩, ⟨by (with_reducible repeat first | apply Zn | apply Zd | apply Za); exact BK161.out⟩, ⟨by (with_reducible repeat first | apply Zn | apply Zd | apply Za); exact BK162.out⟩, ⟨by (with_reducible repeat first | apply Zn | apply Zd | apply Za); exact BK168.out⟩, ⟨Yr HB⟩⟩
      ·
       rw [if_neg c114] at H
       have c114b0 : (a4 == 2) = false := beq_eq_false_iff_ne.mpr c114
       have c114b1 : (a4 != 2) = true := bne_iff_ne.mpr c114
       by_cases c127 : a4 = 3
       ·
        rw [if_pos c127] at H
        have c127b0 : (a4 == 3) = true := beq_iff_eq.mpr c127
        have c127b1 : (a4 != 3) = false := bne_eq_false_iff_eq.mpr c127
        clear c127
        have H' := Aside0.mk H
        clear H
        go_wp2
        repeat (go_quiet (fail); try go_wp2)
        go_meet
        case rel => exact ⟨_, ((⟨#[]⟩ : ByteArray)), ((⟨#[]⟩ : ByteArray)), (0), (0), (0), (0), (false), H', ⟨by have := HJ7.out; first | omega | exact Nat.le_refl _⟩, ⟨by (with_reducible repeat first | apply Zn | apply Zd | apply Za); exact BK160.out⟩, ⟨by (with_reducible repeat first | apply Zn | apply Zd | apply Za); exact BK161.out⟩, ⟨by (with_reducible repeat first | apply Zn | apply Zd | apply Za); exact BK162.out⟩, ⟨by (with_reducible repeat first | apply Zn | apply Zd | apply Za); exact BK168.out⟩, ⟨Yr HB⟩⟩
       ·
        rw [if_neg c127] at H
        have c127b0 : (a4 == 3) = false := beq_eq_false_iff_ne.mpr c127
        have c127b1 : (a4 != 3) = true := bne_iff_ne.mpr c127
        simp only [Option.some.injEq, Prod.mk.injEq] at H
        obtain ⟨rfl, rfl, rfl, rfl, rfl, rfl, rfl, rfl⟩ := H
        obtain ⟨hnb128, hnc128⟩ := Zo NB161_160
        obtain ⟨hnb129, hnc129⟩ := Zo NB161_162
        obtain ⟨hnb130, hnc130⟩ := Zo NB161_168
        obtain ⟨⟨hcz131_0, hcz131_1, hcz131_2, hcz131_3, hcz131_4, hcz131_5, hcz131_6⟩, hfz131_0, hfz131_1, hfz131_2, hfz131_3, hfz131_4, hfz131_5, hfz131_6⟩ := Zk7 BK161
        obtain ⟨hnb132, hnc132⟩ := Zo NB162_160
        obtain ⟨hnb133, hnc133⟩ := Zo NB162_168
        obtain ⟨⟨hcz134_0, hcz134_1, hcz134_2, hcz134_3, hcz134_4, hcz134_5, hcz134_6⟩, hfz134_0, hfz134_1, hfz134_2, hfz134_3, hfz134_4, hfz134_5, hfz134_6⟩ := Zk7 BK162
        go_wp2
        repeat (go_quiet (fail); try go_wp2)
        refine bodyPost_ret (results_ct rfl _ _ gb162 26 #[.string a1_0, .string a1_1, .int .i64 a1_2, .int .i64 a1_3, .int .i64 a1_4, .int .i64 a1_5, .bool a1_6] (0, 0) _ rfl (by (with_reducible repeat first | apply Zn | apply Zd | apply Za); refine Zp (cs := #[.string a1_0, .string a1_1, .int .i64 a1_2, .int .i64 a1_3, .int .i64 a1_4, .int .i64 a1_5, .bool false]) ?_ 6 _ rfl; (with_reducible repeat first | apply Zn | apply Zd | apply Za); refine Zp (cs := #[.string a1_0, .string a1_1, .int .i64 a1_2, .int .i64 a1_3, .int .i64 a1_4, .int .i64 0, .bool false]) ?_ 5 _ rfl; (with_reducible repeat first | apply Zn | apply Zd | apply Za); refine Zp (cs := #[.string a1_0, .string a1_1, .int .i64 a1_2, .int .i64 a1_3, .int .i64 0, .int .i64 0, .bool false]) ?_ 4 _ rfl; (with_reducible repeat first | apply Zn | apply Zd | apply Za); refine Zp (cs := #[.string a1_0, .string a1_1, .int .i64 a1_2, .int .i64 0, .int .i64 0, .int .i64 0, .bool false]) ?_ 3 _ rfl; (with_reducible repeat first | apply Zn | apply Zd | apply Za); refine Zp (cs := #[.string a1_0, .string a1_1, .int .i64 0, .int .i64 0, .int .i64 0, .int .i64 0, .bool false]) ?_ 2 _ rfl; (with_reducible repeat first | apply Zn | apply Zd | apply Za); refine Zp (cs := #[.string a1_0, .string (⟨#[]⟩ : ByteArray), .int .i64 0, .int .i64 0, .int .i64 0, .int .i64 0, .bool false]) ?_ 1 _ rfl; (with_reducible repeat first | apply Zn | apply Zd | apply Za); refine Zp (cs := #[.string (⟨#[]⟩ : ByteArray), .string (⟨#[]⟩ : ByteArray), .int .i64 0, .int .i64 0, .int .i64 0, .int .i64 0, .bool false]) ?_ 0 _ rfl; (with_reducible repeat first | apply Zn | apply Zd | apply Za); exact BK162.out) Try.underlying26 rfl (by kernel_rfl)) rfl ?_
        exact ⟨by first | rfl | (simp [errW_none, errW_some] <;> rfl) | (simp [*, errW_none, errW_some] <;> rfl), Yr HB⟩
    case rest =>
     clear HC73
     try clear c1
     try clear c2
     try clear p2
     try clear c3
     try clear c4
     try clear c5
     try clear c6
     try clear p6
     try clear c7
     try clear c8
     try clear c9
     try clear c10
     try clear c11
     try clear c12
     try clear c13
     try clear c17
     try clear c18
     try clear c19
     try clear c21
     try clear c23
     try clear c24
     try clear c24b0
     try clear c24b1
     try clear c25
     try clear c25b0
     try clear c25b1
     try clear c27
     try clear c28
     try clear c29
     try clear c31
     try clear c32
     try clear c35
     try clear c37
     try clear c38
     try clear c39
     try clear c41
     try clear c42
     try clear c45
     try clear c47
     try clear c48
     try clear c49
     try clear c51
     try clear c52
     try clear c55
     try clear c57
     try clear c58
     try clear c59
     try clear c61
     try clear c62
     try clear p64
     try clear c65
     try clear c66
     try clear c67
     try clear c68
     try clear c70
     try clear c71
     try clear c74
     try clear c75
     try clear c76
     try clear c78
     try clear c78b0
     try clear c78b1
     try clear c79
     try clear c79b0
     try clear c79b1
     try clear c80
     try clear c80b0
     try clear c80b1
     try clear c82
     try clear c83
     try clear c84
     try clear c86
     try clear c87
     try clear c90
     try clear c93
     try clear c94
     try clear c95
     try clear c97
     try clear c98
     try clear c101
     try clear c104
     try clear c105
     try clear c106
     try clear c108
     try clear c109
     try clear c112
     try clear c114
     try clear c114b0
     try clear c114b1
     try clear c115
     try clear c115b0
     try clear c115b1
     try clear c117
     try clear c118
     try clear c119
     try clear c121
     try clear c122
     try clear c125
     try clear c127
     try clear c127b0
     try clear c127b1
     try clear c128
     try clear c129
     try clear c130
     try clear c132
     try clear c133
     try clear hcz102_0
     try clear hcz102_1
     try clear hcz102_2
     try clear hcz102_3
     try clear hcz102_4
     try clear hcz102_5
     try clear hcz102_6
     try clear hcz107_0
     try clear hcz107_1
     try clear hcz110_0
     try clear hcz110_1
     try clear hcz110_2
     try clear hcz110_3
     try clear hcz110_4
     try clear hcz110_5
     try clear hcz110_6
     try clear hcz113_0
     try clear hcz113_1
     try clear hcz113_2
     try clear hcz113_3
     try clear hcz113_4
     try clear hcz113_5
     try clear hcz113_6
     try clear hcz120_0
     try clear hcz120_1
     try clear hcz123_0
     try clear hcz123_1
     try clear hcz123_2
     try clear hcz123_3
     try clear hcz123_4
     try clear hcz123_5
     try clear hcz123_6
     try clear hcz126_0
     try clear hcz126_1
     try clear hcz126_2
     try clear hcz126_3
     try clear hcz126_4
     try clear hcz126_5
     try clear hcz126_6
     try clear hcz131_0
     try clear hcz131_1
     try clear hcz131_2
     try clear hcz131_3
     try clear hcz131_4
     try clear hcz131_5
     try clear hcz131_6
     try clear hcz134_0
     try clear hcz134_1
     try clear hcz134_2
     try clear hcz134_3
     try clear hcz134_4
     try clear hcz134_5
     try clear hcz134_6
     try clear hcz14_0
     try clear hcz14_1
     try clear hcz14_2
     try clear hcz14_3
     try clear hcz14_4
     try clear hcz14_5
     try clear hcz14_6
     try clear hcz20_0
     try clear hcz20_1
     try clear hcz20_2
     try clear hcz20_3
     try clear hcz30_0
     try clear hcz30_1
     try clear hcz33_0
     try clear hcz33_1
     try clear hcz33_2
     try clear hcz33_3
     try clear hcz33_4
     try clear hcz33_5
     try clear hcz33_6
     try clear hcz36_0
     try clear hcz36_1
     try clear hcz36_2
     try clear hcz36_3
     try clear hcz40_0
     try clear hcz40_1
     try clear hcz43_0
     try clear hcz43_1
     try clear hcz43_2
     try clear hcz43_3
     try clear hcz43_4
     try clear hcz43_5
     try clear hcz43_6
     try clear hcz46_0
     try clear hcz46_1
     try clear hcz46_2
     try clear hcz46_3
     try clear hcz50_0
     try clear hcz50_1
     try clear hcz53_0
     try clear hcz53_1
     try clear hcz53_2
     try clear hcz53_3
     try clear hcz53_4
     try clear hcz53_5
     try clear hcz53_6
     try clear hcz56_0
     try clear hcz56_1
     try clear hcz56_2
     try clear hcz56_3
     try clear hcz60_0
     try clear hcz60_1
     try clear hcz63_0
     try clear hcz63_1
     try clear hcz63_2
     try clear hcz63_3
     try clear hcz63_4
     try clear hcz63_5
     try clear hcz63_6
     try clear hcz69_0
     try clear hcz69_1
     try clear hcz69_2
     try clear hcz69_3
     try clear hcz69_4
     try clear hcz69_5
     try clear hcz69_6
     try clear hcz72_0
     try clear hcz72_1
     try clear hcz72_2
     try clear hcz72_3
     try clear hcz72_4
     try clear hcz72_5
     try clear hcz72_6
     try clear hcz77_0
     try clear hcz77_1
     try clear hcz77_2
     try clear hcz77_3
     try clear hcz77_4
     try clear hcz77_5
     try clear hcz77_6
     try clear hcz85_0
     try clear hcz85_1
     try clear hcz85_2
     try clear hcz85_3
     try clear hcz85_4
     try clear hcz85_5
     try clear hcz85_6
     try clear hcz88_0
     try clear hcz88_1
     try clear hcz91_0
     try clear hcz91_1
     try clear hcz91_2
     try clear hcz91_3
     try clear hcz91_4
     try clear hcz91_5
     try clear hcz91_6
     try clear hcz96_0
     try clear hcz96_1
     try clear hcz96_2
     try clear hcz96_3
     try clear hcz96_4
     try clear hcz96_5
     try clear hcz96_6
     try clear hcz99_0
     try clear hcz99_1
     try clear hfz102_0
     try clear hfz102_1
     try clear hfz102_2
     try clear hfz102_3
     try clear hfz102_4
     try clear hfz102_5
     try clear hfz102_6
     try clear hfz107_0
     try clear hfz107_1
     try clear hfz110_0
     try clear hfz110_1
     try clear hfz110_2
     try clear hfz110_3
     try clear hfz110_4
     try clear hfz110_5
     try clear hfz110_6
     try clear hfz113_0
     try clear hfz113_1
     try clear hfz113_2
     try clear hfz113_3
     try clear hfz113_4
     try clear hfz113_5
     try clear hfz113_6
     try clear hfz120_0
     try clear hfz120_1
     try clear hfz123_0
     try clear hfz123_1
     try clear hfz123_2
     try clear hfz123_3
     try clear hfz123_4
     try clear hfz123_5
     try clear hfz123_6
     try clear hfz126_0
     try clear hfz126_1
     try clear hfz126_2
     try clear hfz126_3
     try clear hfz126_4
     try clear hfz126_5
     try clear hfz126_6
     try clear hfz131_0
     try clear hfz131_1
     try clear hfz131_2
     try clear hfz131_3
     try clear hfz131_4
     try clear hfz131_5
     try clear hfz131_6
     try clear hfz134_0
     try clear hfz134_1
     try clear hfz134_2
     try clear hfz134_3
     try clear hfz134_4
     try clear hfz134_5
     try clear hfz134_6
     try clear hfz14_0
     try clear hfz14_1
     try clear hfz14_2
     try clear hfz14_3
     try clear hfz14_4
     try clear hfz14_5
     try clear hfz14_6
     try clear hfz20_0
     try clear hfz20_1
     try clear hfz20_2
     try clear hfz20_3
     try clear hfz30_0
     try clear hfz30_1
     try clear hfz33_0
     try clear hfz33_1
     try clear hfz33_2
     try clear hfz33_3
     try clear hfz33_4
     try clear hfz33_5
     try clear hfz33_6
     try clear hfz36_0
     try clear hfz36_1
     try clear hfz36_2
     try clear hfz36_3
     try clear hfz40_0
     try clear hfz40_1
     try clear hfz43_0
     try clear hfz43_1
     try clear hfz43_2
     try clear hfz43_3
     try clear hfz43_4
     try clear hfz43_5
     try clear hfz43_6
     try clear hfz46_0
     try clear hfz46_1
     try clear hfz46_2
     try clear hfz46_3
     try clear hfz50_0
     try clear hfz50_1
     try clear hfz53_0
     try clear hfz53_1
     try clear hfz53_2
     try clear hfz53_3
     try clear hfz53_4
     try clear hfz53_5
     try clear hfz53_6
     try clear hfz56_0
     try clear hfz56_1
     try clear hfz56_2
     try clear hfz56_3
     try clear hfz60_0
     try clear hfz60_1
     try clear hfz63_0
     try clear hfz63_1
     try clear hfz63_2
     try clear hfz63_3
     try clear hfz63_4
     try clear hfz63_5
     try clear hfz63_6
     try clear hfz69_0
     try clear hfz69_1
     try clear hfz69_2
     try clear hfz69_3
     try clear hfz69_4
     try clear hfz69_5
     try clear hfz69_6
     try clear hfz72_0
     try clear hfz72_1
     try clear hfz72_2
     try clear hfz72_3
     try clear hfz72_4
     try clear hfz72_5
     try clear hfz72_6
     try clear hfz77_0
     try clear hfz77_1
     try clear hfz77_2
     try clear hfz77_3
     try clear hfz77_4
     try clear hfz77_5
     try clear hfz77_6
     try clear hfz85_0
     try clear hfz85_1
     try clear hfz85_2
     try clear hfz85_3
     try clear hfz85_4
     try clear hfz85_5
     try clear hfz85_6
     try clear hfz88_0
     try clear hfz88_1
     try clear hfz91_0
     try clear hfz91_1
     try clear hfz91_2
     try clear hfz91_3
     try clear hfz91_4
     try clear hfz91_5
     try clear hfz91_6
     try clear hfz96_0
     try clear hfz96_1
     try clear hfz96_2
     try clear hfz96_3
     try clear hfz96_4
     try clear hfz96_5
     try clear hfz96_6
     try clear hfz99_0
     try clear hfz99_1
     try clear p2
     obtain ⟨kq, x163000_72, x163001_72, x163002_72, x163003_72, x163004_72, x163005_72, x163006_72, HA, HJ72, BK160, BK161, BK162, BK168, HB⟩ := hcut
     cases kq with
     | zero => exact absurd HA.out (by simp [saga_Reply.j1])
     | succ kj72 =>
      have H := HA.out
      clear HA
      simp only [saga_Reply.j1] at H
      by_cases c135 : 0 ≤ a1_3
      ·
       rw [if_pos c135] at H
       have c135b0 : decide (0 ≤ a1_3) = true := decide_eq_true c135
       clear c135
       by_cases c136 : a1_3 < (l0_1.length : Int)
       ·
        rw [if_pos c136] at H
        have c136b0 : decide (a1_3 < (l0_1.length : Int)) = true := decide_eq_true c136
        clear c136
        by_cases c137 : a1_4 < ((rd_T53 l0_1 a1_3).f0)
        ·
         rw [if_pos c137] at H
         have c137b0 : decide (a1_4 < ((rd_T53 l0_1 a1_3).f0)) = true := decide_eq_true c137
         clear c137
         replace H := Option.bind_eq_some_iff.mp H
         obtain ⟨⟨t200, t201, t202, t203, t204, t205, t206⟩, A1380, H⟩ := H
         replace H : (some (t200, t201, t202, t203, t204, t205, t206, true)) = some (r1, r2, r3, r4, r5, r6, r7, r8) := H
         have A138 := Aside0.mk A1380
         clear A1380
         simp only [Option.some.injEq, Prod.mk.injEq] at H
         obtain ⟨rfl, rfl, rfl, rfl, rfl, rfl, rfl, rfl⟩ := H
         obtain ⟨hnb139, hnc139⟩ := Zo NB161_160
         obtain ⟨hnb140, hnc140⟩ := Zo NB161_162
         obtain ⟨hnb141, hnc141⟩ := Zo NB161_168
         obtain ⟨⟨hcz142_0, hcz142_1, hcz142_2, hcz142_3, hcz142_4, hcz142_5, hcz142_6⟩, hfz142_0, hfz142_1, hfz142_2, hfz142_3, hfz142_4, hfz142_5, hfz142_6⟩ := Zk7 BK161
         obtain ⟨hnb143, hnc143⟩ := Zo NB160_162
         obtain ⟨hnb144, hnc144⟩ := Zo NB160_168
         obtain ⟨⟨hcz145_0, hcz145_1⟩, hfz145_0, hfz145_1⟩ := Zk2 BK160
         have p199 : 0 ≤ (a1_3 : Int) := of_decide_eq_true (by first | (with_reducible assumption) | assumption)
         have q199 : a1_3 < (l0_1.length : Int) := of_decide_eq_true (by first | (with_reducible assumption) | assumption)
         obtain ⟨ad199, e199, hx199_0, hx199_1⟩ := at_T53 HR0_1.out a1_3 p199 q199
         cases e199
         replace hx199_0 := (HB.out.cell (World.block_lt_of_cell? w _ hx199_0)).trans hx199_0
         replace hx199_1 := (HB.out.cell (World.block_lt_of_cell? w _ hx199_1)).trans hx199_1
         replace p199 := eq_true p199
         replace q199 := eq_true q199
         go_wp2_with (first | (go_at_call 42; (with_reducible refine (saga_wait.calls a0_0 _ _ l0_1 a1_0 a1_1 a1_2 a1_3 (wrap64 (a1_4 + 1)) a1_5 a1_6 a5 t200 t201 t202 t203 t204 t205 t206 _ ?side1 ?side2 A138.out).mono ?_); (case side1 => exact Kd.C_below HR0_1.out (Yr HB)); (case side2 => exact HC0_1.out); rintro e w146 ⟨rfl, hb⟩; have n0_ := Aside0.mk (Zv BK160 hb); have n1_ := Aside0.mk (Zb (g := gb161) (o := .cells #[.string a1_0, .string a1_1, .int .i64 a1_2, .int .i64 a1_3, .int .i64 (wrap64 (a1_4 + 1)), .int .i64 a1_5, .bool a1_6] 26 (0, 0)) (by (with_reducible repeat first | apply Zn | apply Zd | apply Za); refine Zp (cs := #[.string a1_0, .string a1_1, .int .i64 a1_2, .int .i64 a1_3, .int .i64 a1_4, .int .i64 a1_5, .bool a1_6]) ?_ 4 _ rfl; (with_reducible repeat first | apply Zn | apply Zd | apply Za); exact BK161.out) hb); have n2_ := Aside0.mk (Zv BK162 hb); have n3_ := Aside0.mk (Zv BK168 hb); have n4_ := Aside0.mk (Yv HB hb); clear BK160; clear BK161; clear BK162; clear BK168; clear HB; have BK160 := n0_; have BK161 := n1_; have BK162 := n2_; have BK168 := n3_; have HB := n4_; clear n0_ n1_ n2_ n3_ n4_; (try clear hb); (try clear hb2); (try clear hk); (try clear hi); obtain ⟨hnb147, hnc147⟩ := Zo NB162_168; obtain ⟨⟨hcz148_0, hcz148_1, hcz148_2, hcz148_3, hcz148_4, hcz148_5, hcz148_6⟩, hfz148_0, hfz148_1, hfz148_2, hfz148_3, hfz148_4, hfz148_5, hfz148_6⟩ := Zk7 BK162))
         repeat (go_quiet (first | (go_at_call 42; (with_reducible refine (saga_wait.calls a0_0 _ _ l0_1 a1_0 a1_1 a1_2 a1_3 (wrap64 (a1_4 + 1)) a1_5 a1_6 a5 t200 t201 t202 t203 t204 t205 t206 _ ?side1 ?side2 A138.out).mono ?_); (case side1 => exact Kd.C_below HR0_1.out (Yr HB)); (case side2 => exact HC0_1.out); rintro e w146 ⟨rfl, hb⟩; have n0_ := Aside0.mk (Zv BK160 hb); have n1_ := Aside0.mk (Zb (g := gb161) (o := .cells #[.string a1_0, .string a1_1, .int .i64 a1_2, .int .i64 a1_3, .int .i64 (wrap64 (a1_4 + 1)), .int .i64 a1_5, .bool a1_6] 26 (0, 0)) (by (with_reducible repeat first | apply Zn | apply Zd | apply Za); refine Zp (cs := #[.string a1_0, .string a1_1, .int .i64 a1_2, .int .i64 a1_3, .int .i64 a1_4, .int .i64 a1_5, .bool a1_6]) ?_ 4 _ rfl; (with_reducible repeat first | apply Zn | apply Zd | apply Za); exact BK161.out) hb); have n2_ := Aside0.mk (Zv BK162 hb); have n3_ := Aside0.mk (Zv BK168 hb); have n4_ := Aside0.mk (Yv HB hb); clear BK160; clear BK161; clear BK162; clear BK168; clear HB; have BK160 := n0_; have BK161 := n1_; have BK162 := n2_; have BK168 := n3_; have HB := n4_; clear n0_ n1_ n2_ n3_ n4_; (try clear hb); (try clear hb2); (try clear hk); (try clear hi); obtain ⟨hnb147, hnc147⟩ := Zo NB162_168; obtain ⟨⟨hcz148_0, hcz148_1, hcz148_2, hcz148_3, hcz148_4, hcz148_5, hcz148_6⟩, hfz148_0, hfz148_1, hfz148_2, hfz148_3, hfz148_4, hfz148_5, hfz148_6⟩ := Zk7 BK162)); try go_wp2_with (first | (go_at_call 42; (with_reducible refine (saga_wait.calls a0_0 _ _ l0_1 a1_0 a1_1 a1_2 a1_3 (wrap64 (a1_4 + 1)) a1_5 a1_6 a5 t200 t201 t202 t203 t204 t205 t206 _ ?side1 ?side2 A138.out).mono ?_); (case side1 => exact Kd.C_below HR0_1.out (Yr HB)); (case side2 => exact HC0_1.out); rintro e w146 ⟨rfl, hb⟩; have n0_ := Aside0.mk (Zv BK160 hb); have n1_ := Aside0.mk (Zb (g := gb161) (o := .cells #[.string a1_0, .string a1_1, .int .i64 a1_2, .int .i64 a1_3, .int .i64 (wrap64 (a1_4 + 1)), .int .i64 a1_5, .bool a1_6] 26 (0, 0)) (by (with_reducible repeat first | apply Zn | apply Zd | apply Za); refine Zp (cs := #[.string a1_0, .string a1_1, .int .i64 a1_2, .int .i64 a1_3, .int .i64 a1_4, .int .i64 a1_5, .bool a1_6]) ?_ 4 _ rfl; (with_reducible repeat first | apply Zn | apply Zd | apply Za); exact BK161.out) hb); have n2_ := Aside0.mk (Zv BK162 hb); have n3_ := Aside0.mk (Zv BK168 hb); have n4_ := Aside0.mk (Yv HB hb); clear BK160; clear BK161; clear BK162; clear BK168; clear HB; have BK160 := n0_; have BK161 := n1_; have BK162 := n2_; have BK168 := n3_; have HB := n4_; clear n0_ n1_ n2_ n3_ n4_; (try clear hb); (try clear hb2); (try clear hk); (try clear hi); obtain ⟨hnb147, hnc147⟩ := Zo NB162_168; obtain ⟨⟨hcz148_0, hcz148_1, hcz148_2, hcz148_3, hcz148_4, hcz148_5, hcz148_6⟩, hfz148_0, hfz148_1, hfz148_2, hfz148_3, hfz148_4, hfz148_5, hfz148_6⟩ := Zk7 BK162)))
         refine bodyPost_ret (results_ct rfl _ _ gb162 26 #[.string t200, .string t201, .int .i64 t202, .int .i64 t203, .int .i64 t204, .int .i64 t205, .bool t206] (0, 0) _ rfl (by (with_reducible repeat first | apply Zn | apply Zd | apply Za); refine Zp (cs := #[.string t200, .string t201, .int .i64 t202, .int .i64 t203, .int .i64 t204, .int .i64 t205, .bool x163006_72]) ?_ 6 _ rfl; (with_reducible repeat first | apply Zn | apply Zd | apply Za); refine Zp (cs := #[.string t200, .string t201, .int .i64 t202, .int .i64 t203, .int .i64 t204, .int .i64 x163005_72, .bool x163006_72]) ?_ 5 _ rfl; (with_reducible repeat first | apply Zn | apply Zd | apply Za); refine Zp (cs := #[.string t200, .string t201, .int .i64 t202, .int .i64 t203, .int .i64 x163004_72, .int .i64 x163005_72, .bool x163006_72]) ?_ 4 _ rfl; (with_reducible repeat first | apply Zn | apply Zd | apply Za); refine Zp (cs := #[.string t200, .string t201, .int .i64 t202, .int .i64 x163003_72, .int .i64 x163004_72, .int .i64 x163005_72, .bool x163006_72]) ?_ 3 _ rfl; (with_reducible repeat first | apply Zn | apply Zd | apply Za); refine Zp (cs := #[.string t200, .string t201, .int .i64 x163002_72, .int .i64 x163003_72, .int .i64 x163004_72, .int .i64 x163005_72, .bool x163006_72]) ?_ 2 _ rfl; (with_reducible repeat first | apply Zn | apply Zd | apply Za); refine Zp (cs := #[.string t200, .string x163001_72, .int .i64 x163002_72, .int .i64 x163003_72, .int .i64 x163004_72, .int .i64 x163005_72, .bool x163006_72]) ?_ 1 _ rfl; (with_reducible repeat first | apply Zn | apply Zd | apply Za); refine Zp (cs := #[.string x163000_72, .string x163001_72, .int .i64 x163002_72, .int .i64 x163003_72, .int .i64 x163004_72, .int .i64 x163005_72, .bool x163006_72]) ?_ 0 _ rfl; (with_reducible repeat first | apply Zn | apply Zd | apply Za); exact BK162.out) Try.underlying26 rfl (by kernel_rfl)) rfl ?_
         exact ⟨by first | rfl | (simp [errW_none, errW_some] <;> rfl) | (simp [*, errW_none, errW_some] <;> rfl), Yr HB⟩
        ·
         rw [if_neg c137] at H
         have c137b0 : decide (a1_4 < ((rd_T53 l0_1 a1_3).f0)) = false := decide_eq_false c137
         clear c137
         by_cases c149 : (a1_2 == 1) = true
         ·
          rw [if_pos c149] at H
          have c149b0 : (a1_2 == 1) = true := c149
          (try (have c149b1 : decide (a1_2 = 1) = true := by simpa using c149))
          (try (have c149b2 : (a1_2 == 1) = true := by simpa using c149))
          clear c149
          replace H := Option.bind_eq_some_iff.mp H
          obtain ⟨⟨t207, t208, t209, t210, t211, t212, t213⟩, A1500, H⟩ := H
          replace H : (some (t207, t208, t209, t210, t211, t212, t213, true)) = some (r1, r2, r3, r4, r5, r6, r7, r8) := H
          have A150 := Aside0.mk A1500
          clear A1500
          simp only [Option.some.injEq, Prod.mk.injEq] at H
          obtain ⟨rfl, rfl, rfl, rfl, rfl, rfl, rfl, rfl⟩ := H
          obtain ⟨hnb151, hnc151⟩ := Zo NB161_160
          obtain ⟨hnb152, hnc152⟩ := Zo NB161_162
          obtain ⟨hnb153, hnc153⟩ := Zo NB161_168
          obtain ⟨⟨hcz154_0, hcz154_1, hcz154_2, hcz154_3, hcz154_4, hcz154_5, hcz154_6⟩, hfz154_0, hfz154_1, hfz154_2, hfz154_3, hfz154_4, hfz154_5, hfz154_6⟩ := Zk7 BK161
          obtain ⟨hnb155, hnc155⟩ := Zo NB160_162
          obtain ⟨hnb156, hnc156⟩ := Zo NB160_168
          obtain ⟨⟨hcz157_0, hcz157_1⟩, hfz157_0, hfz157_1⟩ := Zk2 BK160
          have p199 : 0 ≤ (a1_3 : Int) := of_decide_eq_true (by first | (with_reducible assumption) | assumption)
          have q199 : a1_3 < (l0_1.length : Int) := of_decide_eq_true (by first | (with_reducible assumption) | assumption)
          obtain ⟨ad199, e199, hx199_0, hx199_1⟩ := at_T53 HR0_1.out a1_3 p199 q199
          cases e199
          replace hx199_0 := (HB.out.cell (World.block_lt_of_cell? w _ hx199_0)).trans hx199_0
          replace hx199_1 := (HB.out.cell (World.block_lt_of_cell? w _ hx199_1)).trans hx199_1
          replace p199 := eq_true p199
          replace q199 := eq_true q199
          go_wp2_with (first | (go_at_call 36; (with_reducible refine (saga_at.calls a0_0 _ _ l0_1 a1_0 a1_1 a1_2 a1_3 a1_4 a1_5 a1_6 2 a1_3 a5 t207 t208 t209 t210 t211 t212 t213 _ ?side1 ?side2 A150.out).mono ?_); (case side1 => repeat (first | exact (Kd.C_below HR0_1.out HB.out) | (with_reducible refine Kd.C_alloc ?_ _) | (with_reducible refine Kd.C_drewN ?_ _) | (with_reducible refine Kd.C_drew ?_))); (case side2 => exact HC0_1.out); rintro e w158 ⟨rfl, hb⟩; have n0_ := Aside0.mk (Zv BK160 hb); have n1_ := Aside0.mk (Zv BK161 hb); have n2_ := Aside0.mk (Zv BK162 hb); have n3_ := Aside0.mk (Zv BK168 hb); have n4_ := Aside0.mk (Yv HB hb); clear BK160; clear BK161; clear BK162; clear BK168; clear HB; have BK160 := n0_; have BK161 := n1_; have BK162 := n2_; have BK168 := n3_; have HB := n4_; clear n0_ n1_ n2_ n3_ n4_; (try clear hb); (try clear hb2); (try clear hk); (try clear hi); obtain ⟨hnb159, hnc159⟩ := Zo NB162_168; obtain ⟨⟨hcz160_0, hcz160_1, hcz160_2, hcz160_3, hcz160_4, hcz160_5, hcz160_6⟩, hfz160_0, hfz160_1, hfz160_2, hfz160_3, hfz160_4, hfz160_5, hfz160_6⟩ := Zk7 BK162))
          repeat (go_quiet (first | (go_at_call 36; (with_reducible refine (saga_at.calls a0_0 _ _ l0_1 a1_0 a1_1 a1_2 a1_3 a1_4 a1_5 a1_6 2 a1_3 a5 t207 t208 t209 t210 t211 t212 t213 _ ?side1 ?side2 A150.out).mono ?_); (case side1 => repeat (first | exact (Kd.C_below HR0_1.out HB.out) | (with_reducible refine Kd.C_alloc ?_ _) | (with_reducible refine Kd.C_drewN ?_ _) | (with_reducible refine Kd.C_drew ?_))); (case side2 => exact HC0_1.out); rintro e w158 ⟨rfl, hb⟩; have n0_ := Aside0.mk (Zv BK160 hb); have n1_ := Aside0.mk (Zv BK161 hb); have n2_ := Aside0.mk (Zv BK162 hb); have n3_ := Aside0.mk (Zv BK168 hb); have n4_ := Aside0.mk (Yv HB hb); clear BK160; clear BK161; clear BK162; clear BK168; clear HB; have BK160 := n0_; have BK161 := n1_; have BK162 := n2_; have BK168 := n3_; have HB := n4_; clear n0_ n1_ n2_ n3_ n4_; (try clear hb); (try clear hb2); (try clear hk); (try clear hi); obtain ⟨hnb159, hnc159⟩ := Zo NB162_168; obtain ⟨⟨hcz160_0, hcz160_1, hcz160_2, hcz160_3, hcz160_4, hcz160_5, hcz160_6⟩, hfz160_0, hfz160_1, hfz160_2, hfz160_3, hfz160_4, hfz160_5, hfz160_6⟩ := Zk7 BK162)); try go_wp2_with (first | (go_at_call 36; (with_reducible refine (saga_at.calls a0_0 _ _ l0_1 a1_0 a1_1 a1_2 a1_3 a1_4 a1_5 a1_6 2 a1_3 a5 t207 t208 t209 t210 t211 t212 t213 _ ?side1 ?side2 A150.out).mono ?_); (case side1 => repeat (first | exact (Kd.C_below HR0_1.out HB.out) | (with_reducible refine Kd.C_alloc ?_ _) | (with_reducible refine Kd.C_drewN ?_ _) | (with_reducible refine Kd.C_drew ?_))); (case side2 => exact HC0_1.out); rintro e w158 ⟨rfl, hb⟩; have n0_ := Aside0.mk (Zv BK160 hb); have n1_ := Aside0.mk (Zv BK161 hb); have n2_ := Aside0.mk (Zv BK162 hb); have n3_ := Aside0.mk (Zv BK168 hb); have n4_ := Aside0.mk (Yv HB hb); clear BK160; clear BK161; clear BK162; clear BK168; clear HB; have BK160 := n0_; have BK161 := n1_; have BK162 := n2_; have BK168 := n3_; have HB := n4_; clear n0_ n1_ n2_ n3_ n4_; (try clear hb); (try clear hb2); (try clear hk); (try clear hi); obtain ⟨hnb159, hnc159⟩ := Zo NB162_168; obtain ⟨⟨hcz160_0, hcz160_1, hcz160_2, hcz160_3, hcz160_4, hcz160_5, hcz160_6⟩, hfz160_0, hfz160_1, hfz160_2, hfz160_3, hfz160_4, hfz160_5, hfz160_6⟩ := Zk7 BK162)))
          refine bodyPost_ret (results_ct rfl _ _ gb162 26 #[.string t207, .string t208, .int .i64 t209, .int .i64 t210, .int .i64 t211, .int .i64 t212, .bool t213] (0, 0) _ rfl (by (with_reducible repeat first | apply Zn | apply Zd | apply Za); refine Zp (cs := #[.string t207, .string t208, .int .i64 t209, .int .i64 t210, .int .i64 t211, .int .i64 t212, .bool x163006_72]) ?_ 6 _ rfl; (with_reducible repeat first | apply Zn | apply Zd | apply Za); refine Zp (cs := #[.string t207, .string t208, .int .i64 t209, .int .i64 t210, .int .i64 t211, .int .i64 x163005_72, .bool x163006_72]) ?_ 5 _ rfl; (with_reducible repeat first | apply Zn | apply Zd | apply Za); refine Zp (cs := #[.string t207, .string t208, .int .i64 t209, .int .i64 t210, .int .i64 x163004_72, .int .i64 x163005_72, .bool x163006_72]) ?_ 4 _ rfl; (with_reducible repeat first | apply Zn | apply Zd | apply Za); refine Zp (cs := #[.string t207, .string t208, .int .i64 t209, .int .i64 x163003_72, .int .i64 x163004_72, .int .i64 x163005_72, .bool x163006_72]) ?_ 3 _ rfl; (with_reducible repeat first | apply Zn | apply Zd | apply Za); refine Zp (cs := #[.string t207, .string t208, .int .i64 x163002_72, .int .i64 x163003_72, .int .i64 x163004_72, .int .i64 x163005_72, .bool x163006_72]) ?_ 2 _ rfl; (with_reducible repeat first | apply Zn | apply Zd | apply Za); refine Zp (cs := #[.string t207, .string x163001_72, .int .i64 x163002_72, .int .i64 x163003_72, .int .i64 x163004_72, .int .i64 x163005_72, .bool x163006_72]) ?_ 1 _ rfl; (with_reducible repeat first | apply Zn | apply Zd | apply Za); refine Zp (cs := #[.string x163000_72, .string x163001_72, .int .i64 x163002_72, .int .i64 x163003_72, .int .i64 x163004_72, .int .i64 x163005_72, .bool x163006_72]) ?_ 0 _ rfl; (with_reducible repeat first | apply Zn | apply Zd | apply Za); exact BK162.out) Try.underlying26 rfl (by kernel_rfl)) rfl ?_
          exact ⟨by first | rfl | (simp [errW_none, errW_some] <;> rfl) | (simp [*, errW_none, errW_some] <;> rfl), Yr HB⟩
         ·
          rw [if_neg c149] at H
          have c149b0 : (a1_2 == 1) = false := by simpa using c149
          (try (have c149b1 : decide (a1_2 = 1) = false := by simpa using c149))
          (try (have c149b2 : (a1_2 == 1) = false := by simpa using c149))
          (try (have c149b3 : ¬ (a1_2 = 1) := by simpa using c149))
          clear c149
          replace H := Option.bind_eq_some_iff.mp H
          obtain ⟨⟨t214, t215, t216, t217, t218, t219, t220⟩, A1610, H⟩ := H
          replace H : (some (t214, t215, t216, t217, t218, t219, t220, true)) = some (r1, r2, r3, r4, r5, r6, r7, r8) := H
          have A161 := Aside0.mk A1610
          clear A1610
          simp only [Option.some.injEq, Prod.mk.injEq] at H
          obtain ⟨rfl, rfl, rfl, rfl, rfl, rfl, rfl, rfl⟩ := H
          obtain ⟨hnb162, hnc162⟩ := Zo NB161_160
          obtain ⟨hnb163, hnc163⟩ := Zo NB161_162
          obtain ⟨hnb164, hnc164⟩ := Zo NB161_168
          obtain ⟨⟨hcz165_0, hcz165_1, hcz165_2, hcz165_3, hcz165_4, hcz165_5, hcz165_6⟩, hfz165_0, hfz165_1, hfz165_2, hfz165_3, hfz165_4, hfz165_5, hfz165_6⟩ := Zk7 BK161
          obtain ⟨hnb166, hnc166⟩ := Zo NB160_162
          obtain ⟨hnb167, hnc167⟩ := Zo NB160_168
          obtain ⟨⟨hcz168_0, hcz168_1⟩, hfz168_0, hfz168_1⟩ := Zk2 BK160
          have p199 : 0 ≤ (a1_3 : Int) := of_decide_eq_true (by first | (with_reducible assumption) | assumption)
          have q199 : a1_3 < (l0_1.length : Int) := of_decide_eq_true (by first | (with_reducible assumption) | assumption)
          obtain ⟨ad199, e199, hx199_0, hx199_1⟩ := at_T53 HR0_1.out a1_3 p199 q199
          cases e199
          replace hx199_0 := (HB.out.cell (World.block_lt_of_cell? w _ hx199_0)).trans hx199_0
          replace hx199_1 := (HB.out.cell (World.block_lt_of_cell? w _ hx199_1)).trans hx199_1
          replace p199 := eq_true p199
          replace q199 := eq_true q199
          go_wp2_with (first | (go_at_call 41; (with_reducible refine (saga_end.calls a1_0 a1_1 a1_2 a1_3 a1_4 a1_5 a1_6 5 a1_3 t214 t215 t216 t217 t218 t219 t220 _ A161.out).mono ?_); rintro e w169 ⟨rfl, hb⟩; have n0_ := Aside0.mk (Zv BK160 hb); have n1_ := Aside0.mk (Zv BK161 hb); have n2_ := Aside0.mk (Zv BK162 hb); have n3_ := Aside0.mk (Zv BK168 hb); have n4_ := Aside0.mk (Yv HB hb); clear BK160; clear BK161; clear BK162; clear BK168; clear HB; have BK160 := n0_; have BK161 := n1_; have BK162 := n2_; have BK168 := n3_; have HB := n4_; clear n0_ n1_ n2_ n3_ n4_; (try clear hb); (try clear hb2); (try clear hk); (try clear hi); obtain ⟨hnb170, hnc170⟩ := Zo NB162_168; obtain ⟨⟨hcz171_0, hcz171_1, hcz171_2, hcz171_3, hcz171_4, hcz171_5, hcz171_6⟩, hfz171_0, hfz171_1, hfz171_2, hfz171_3, hfz171_4, hfz171_5, hfz171_6⟩ := Zk7 BK162))
          repeat (go_quiet (first | (go_at_call 41; (with_reducible refine (saga_end.calls a1_0 a1_1 a1_2 a1_3 a1_4 a1_5 a1_6 5 a1_3 t214 t215 t216 t217 t218 t219 t220 _ A161.out).mono ?_); rintro e w169 ⟨rfl, hb⟩; have n0_ := Aside0.mk (Zv BK160 hb); have n1_ := Aside0.mk (Zv BK161 hb); have n2_ := Aside0.mk (Zv BK162 hb); have n3_ := Aside0.mk (Zv BK168 hb); have n4_ := Aside0.mk (Yv HB hb); clear BK160; clear BK161; clear BK162; clear BK168; clear HB; have BK160 := n0_; have BK161 := n1_; have BK162 := n2_; have BK168 := n3_; have HB := n4_; clear n0_ n1_ n2_ n3_ n4_; (try clear hb); (try clear hb2); (try clear hk); (try clear hi); obtain ⟨hnb170, hnc170⟩ := Zo NB162_168; obtain ⟨⟨hcz171_0, hcz171_1, hcz171_2, hcz171_3, hcz171_4, hcz171_5, hcz171_6⟩, hfz171_0, hfz171_1, hfz171_2, hfz171_3, hfz171_4, hfz171_5, hfz171_6⟩ := Zk7 BK162)); try go_wp2_with (first | (go_at_call 41; (with_reducible refine (saga_end.calls a1_0 a1_1 a1_2 a1_3 a1_4 a1_5 a1_6 5 a1_3 t214 t215 t216 t217 t218 t219 t220 _ A161.out).mono ?_); rintro e w169 ⟨rfl, hb⟩; have n0_ := Aside0.mk (Zv BK160 hb); have n1_ := Aside0.mk (Zv BK161 hb); have n2_ := Aside0.mk (Zv BK162 hb); have n3_ := Aside0.mk (Zv BK168 hb); have n4_ := Aside0.mk (Yv HB hb); clear BK160; clear BK161; clear BK162; clear BK168; clear HB; have BK160 := n0_; have BK161 := n1_; have BK162 := n2_; have BK168 := n3_; have HB := n4_; clear n0_ n1_ n2_ n3_ n4_; (try clear hb); (try clear hb2); (try clear hk); (try clear hi); obtain ⟨hnb170, hnc170⟩ := Zo NB162_168; obtain ⟨⟨hcz171_0, hcz171_1, hcz171_2, hcz171_3, hcz171_4, hcz171_5, hcz171_6⟩, hfz171_0, hfz171_1, hfz171_2, hfz171_3, hfz171_4, hfz171_5, hfz171_6⟩ := Zk7 BK162)))
          refine bodyPost_ret (results_ct rfl _ _ gb162 26 #[.string t214, .string t215, .int .i64 t216, .int .i64 t217, .int .i64 t218, .int .i64 t219, .bool t220] (0, 0) _ rfl (by (with_reducible repeat first | apply Zn | apply Zd | apply Za); refine Zp (cs := #[.string t214, .string t215, .int .i64 t216, .int .i64 t217, .int .i64 t218, .int .i64 t219, .bool x163006_72]) ?_ 6 _ rfl; (with_reducible repeat first | apply Zn | apply Zd | apply Za); refine Zp (cs := #[.string t214, .string t215, .int .i64 t216, .int .i64 t217, .int .i64 t218, .int .i64 x163005_72, .bool x163006_72]) ?_ 5 _ rfl; (with_reducible repeat first | apply Zn | apply Zd | apply Za); refine Zp (cs := #[.string t214, .string t215, .int .i64 t216, .int .i64 t217, .int .i64 x163004_72, .int .i64 x163005_72, .bool x163006_72]) ?_ 4 _ rfl; (with_reducible repeat first | apply Zn | apply Zd | apply Za); refine Zp (cs := #[.string t214, .string t215, .int .i64 t216, .int .i64 x163003_72, .int .i64 x163004_72, .int .i64 x163005_72, .bool x163006_72]) ?_ 3 _ rfl; (with_reducible repeat first | apply Zn | apply Zd | apply Za); refine Zp (cs := #[.string t214, .string t215, .int .i64 x163002_72, .int .i64 x163003_72, .int .i64 x163004_72, .int .i64 x163005_72, .bool x163006_72]) ?_ 2 _ rfl; (with_reducible repeat first | apply Zn | apply Zd | apply Za); refine Zp (cs := #[.string t214, .string x163001_72, .int .i64 x163002_72, .int .i64 x163003_72, .int .i64 x163004_72, .int .i64 x163005_72, .bool x163006_72]) ?_ 1 _ rfl; (with_reducible repeat first | apply Zn | apply Zd | apply Za); refine Zp (cs := #[.string x163000_72, .string x163001_72, .int .i64 x163002_72, .int .i64 x163003_72, .int .i64 x163004_72, .int .i64 x163005_72, .bool x163006_72]) ?_ 0 _ rfl; (with_reducible repeat first | apply Zn | apply Zd | apply Za); exact BK162.out) Try.underlying26 rfl (by kernel_rfl)) rfl ?_
          exact ⟨by first | rfl | (simp [errW_none, errW_some] <;> rfl) | (simp [*, errW_none, errW_some] <;> rfl), Yr HB⟩
       ·
        rw [if_neg c136] at H
        exact absurd H (by simp)
      ·
       rw [if_neg c135] at H
       exact absurd H (by simp)

end Go.Proofs.Ytfhlpkcapohnoaa.Print
