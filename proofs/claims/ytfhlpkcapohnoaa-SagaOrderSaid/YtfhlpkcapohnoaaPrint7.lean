-- Printed out of the translation by a program of this session's own. Not trusted: Lean checks it.
import Derived.Test.YtfhlpkcapohnoaaPrint0
import Derived.Test.YtfhlpkcapohnoaaPrint2
import Derived.Test.YtfhlpkcapohnoaaPrint5
import Derived.Test.YtfhlpkcapohnoaaPrint6
namespace Go.Proofs.Ytfhlpkcapohnoaa.Print
open Go.RowKit Go.Proofs.YtfhlpkcapohnoaaW.PrintWords Go.Proofs.YtfhlpkcapohnoaaW.PrintLast Go.Proofs.YtfhlpkcapohnoaaX
set_option linter.unusedVariables false
set_option linter.unusedSimpArgs false

/-! ### palinodelaw19_run: function 25 -/
mutual
def palinodelaw19_run.l0 : Nat → List Int → Int → List (S35) → Int → ByteArray → List (S53) → ByteArray → ByteArray → Int → Int → Int → Int → Bool → Option ((List (S35)) × ByteArray × ByteArray × Int × Int × Int × Int × Bool × Bool)
 | 0, _, _, _, _, _, _, _, _, _, _, _, _, _ => none
 | k + 1, x1, x2, x9, x12, x275000, x275001, x285000, x285001, x285002, x285003, x285004, x285005, x285006 => if x12 < (x1.length : Int) then (palinodelaw19_run.j1 k x1 x2 x9 x12 (decide (x12 < 200)) x275000 x275001 x285000 x285001 x285002 x285003 x285004 x285005 x285006) else (palinodelaw19_run.j1 k x1 x2 x9 x12 false x275000 x275001 x285000 x285001 x285002 x285003 x285004 x285005 x285006)
def palinodelaw19_run.j1 : Nat → List Int → Int → List (S35) → Int → Bool → ByteArray → List (S53) → ByteArray → ByteArray → Int → Int → Int → Int → Bool → Option ((List (S35)) × ByteArray × ByteArray × Int × Int × Int × Int × Bool × Bool)
 | 0, _, _, _, _, _, _, _, _, _, _, _, _, _, _ => none
 | k + 1, x1, x2, x9, x12, x35, x275000, x275001, x285000, x285001, x285002, x285003, x285004, x285005, x285006 => if x35 = true then ((saga_Command.f x285000 x285001 x285002 x285003 x285004 x285005 x285006).bind fun bt295 => (if bt295.2.2.2.2 = true then (if x9.length < 3518437208883 then (if 0 ≤ x12 then (if x12 < (x1.length : Int) then ((palinodelaw19_pick.f (rd x1 x12) 3).bind fun t314 => ((saga_Reply.f k x275000 x275001 x285000 x285001 x285002 x285003 x285004 x285005 x285006 bt295.2.1 bt295.2.2.1 (wrap64 (1 + t314)) x2).bind fun bt315 => (if bt315.2.2.2.2.2.2.2 = true then (palinodelaw19_run.l0 k x1 x2 (x9 ++ [(⟨bt295.1, bt295.2.1, bt295.2.2.1, bt295.2.2.2.1⟩ : S35)]) (wrap64 (x12 + 1)) x275000 x275001 bt315.1 bt315.2.1 bt315.2.2.1 bt315.2.2.2.1 bt315.2.2.2.2.1 bt315.2.2.2.2.2.1 bt315.2.2.2.2.2.2.1) else (some (([] : List (S35)), x285000, x285001, x285002, x285003, x285004, x285005, x285006, false))))) else (none)) else (none)) else (none)) else ((saga_Command.f x285000 x285001 x285002 x285003 x285004 x285005 x285006).bind fun bt301 => (if bt301.2.2.2.2 = true then (if x9.length < 3518437208883 then (some ((x9 ++ [(⟨bt301.1, bt301.2.1, bt301.2.2.1, bt301.2.2.2.1⟩ : S35)]), x285000, x285001, x285002, x285003, x285004, x285005, x285006, true)) else (none)) else (some (x9, x285000, x285001, x285002, x285003, x285004, x285005, x285006, true)))))) else ((saga_Command.f x285000 x285001 x285002 x285003 x285004 x285005 x285006).bind fun bt286 => (if bt286.2.2.2.2 = true then (if x9.length < 3518437208883 then (some ((x9 ++ [(⟨bt286.1, bt286.2.1, bt286.2.2.1, bt286.2.2.2.1⟩ : S35)]), x285000, x285001, x285002, x285003, x285004, x285005, x285006, true)) else (none)) else (some (x9, x285000, x285001, x285002, x285003, x285004, x285005, x285006, true))))
end
def palinodelaw19_run.f (k : Nat) (a0_0 : ByteArray) (l0_1 : List (S53)) (l1 : List Int) (a2 : Int) : Option ((List (S35)) × ByteArray × ByteArray × Int × Int × Int × Int × Bool × Bool) := (saga_Begin.f k a0_0 l0_1 (⟨#[97]⟩ : ByteArray) a2).bind fun bt276 => (if bt276.2.2.2.2.2.2.2.isNone = true then (palinodelaw19_run.l0 k l1 a2 ([] : List (S35)) 0 a0_0 l0_1 bt276.1 bt276.2.1 bt276.2.2.1 bt276.2.2.2.1 bt276.2.2.2.2.1 bt276.2.2.2.2.2.1 bt276.2.2.2.2.2.2.1) else (some (([] : List (S35)), bt276.1, bt276.2.1, bt276.2.2.1, bt276.2.2.2.1, bt276.2.2.2.2.1, bt276.2.2.2.2.2.1, bt276.2.2.2.2.2.2.1, false)))
theorem palinodelaw19_run.mono_l : ∀ k, (∀ y0 y1 y2 y3 y4 y5 y6 y7 y8 y9 y10 y11 y12, LeO (palinodelaw19_run.l0 k y0 y1 y2 y3 y4 y5 y6 y7 y8 y9 y10 y11 y12) (palinodelaw19_run.l0 (k + 1) y0 y1 y2 y3 y4 y5 y6 y7 y8 y9 y10 y11 y12)) ∧ (∀ y0 y1 y2 y3 y4 y5 y6 y7 y8 y9 y10 y11 y12 y13, LeO (palinodelaw19_run.j1 k y0 y1 y2 y3 y4 y5 y6 y7 y8 y9 y10 y11 y12 y13) (palinodelaw19_run.j1 (k + 1) y0 y1 y2 y3 y4 y5 y6 y7 y8 y9 y10 y11 y12 y13))
 | 0 => ⟨fun _ _ _ _ _ _ _ _ _ _ _ _ _ r h => by simp [palinodelaw19_run.l0] at h, fun _ _ _ _ _ _ _ _ _ _ _ _ _ _ r h => by simp [palinodelaw19_run.j1] at h⟩
 | k + 1 => by
  obtain ⟨ih0, ih1⟩ := palinodelaw19_run.mono_l k
  refine ⟨?_, ?_⟩
  ·
   intro y0 y1 y2 y3 y4 y5 y6 y7 y8 y9 y10 y11 y12
   unfold palinodelaw19_run.l0
   repeat' first
   | (with_reducible exact ih0 _ _ _ _ _ _ _ _ _ _ _ _ _)
   | (with_reducible exact ih1 _ _ _ _ _ _ _ _ _ _ _ _ _ _)
   | (with_reducible exact saga_Begin.mono _ _ _ _ _)
   | (with_reducible exact saga_Reply.mono _ _ _ _ _ _ _ _ _ _ _ _ _ _)
   | (with_reducible exact LeO.refl _)
   | (with_reducible exact LeO.none _)
   | (with_reducible refine LeO.ite ?_ ?_)
   | (with_reducible refine LeO.bind ?_ (fun _ => ?_))
   | exact ih0 _ _ _ _ _ _ _ _ _ _ _ _ _
   | exact ih1 _ _ _ _ _ _ _ _ _ _ _ _ _ _
   | exact saga_Begin.mono _ _ _ _ _
   | exact saga_Reply.mono _ _ _ _ _ _ _ _ _ _ _ _ _ _
   | exact LeO.none _
   | refine LeO.ite ?_ ?_
   | refine LeO.bind ?_ (fun _ => ?_)
  ·
   intro y0 y1 y2 y3 y4 y5 y6 y7 y8 y9 y10 y11 y12 y13
   unfold palinodelaw19_run.j1
   repeat' first
   | (with_reducible exact ih0 _ _ _ _ _ _ _ _ _ _ _ _ _)
   | (with_reducible exact ih1 _ _ _ _ _ _ _ _ _ _ _ _ _ _)
   | (with_reducible exact saga_Begin.mono _ _ _ _ _)
   | (with_reducible exact saga_Reply.mono _ _ _ _ _ _ _ _ _ _ _ _ _ _)
   | (with_reducible exact LeO.refl _)
   | (with_reducible exact LeO.none _)
   | (with_reducible refine LeO.ite ?_ ?_)
   | (with_reducible refine LeO.bind ?_ (fun _ => ?_))
   | exact ih0 _ _ _ _ _ _ _ _ _ _ _ _ _
   | exact ih1 _ _ _ _ _ _ _ _ _ _ _ _ _ _
   | exact saga_Begin.mono _ _ _ _ _
   | exact saga_Reply.mono _ _ _ _ _ _ _ _ _ _ _ _ _ _
   | exact LeO.none _
   | refine LeO.ite ?_ ?_
   | refine LeO.bind ?_ (fun _ => ?_)
theorem palinodelaw19_run.mono : ∀ a0 a1 a2 a3 k, LeO (palinodelaw19_run.f k a0 a1 a2 a3) (palinodelaw19_run.f (k + 1) a0 a1 a2 a3) := by
 intro a0 a1 a2 a3 k
 obtain ⟨ih0, ih1⟩ := palinodelaw19_run.mono_l k
 unfold palinodelaw19_run.f
 repeat' first
   | (with_reducible exact ih0 _ _ _ _ _ _ _ _ _ _ _ _ _)
   | (with_reducible exact ih1 _ _ _ _ _ _ _ _ _ _ _ _ _ _)
   | (with_reducible exact saga_Begin.mono _ _ _ _ _)
   | (with_reducible exact saga_Reply.mono _ _ _ _ _ _ _ _ _ _ _ _ _ _)
   | (with_reducible exact LeO.refl _)
   | (with_reducible exact LeO.none _)
   | (with_reducible refine LeO.ite ?_ ?_)
   | (with_reducible refine LeO.bind ?_ (fun _ => ?_))
   | exact ih0 _ _ _ _ _ _ _ _ _ _ _ _ _
   | exact ih1 _ _ _ _ _ _ _ _ _ _ _ _ _ _
   | exact saga_Begin.mono _ _ _ _ _
   | exact saga_Reply.mono _ _ _ _ _ _ _ _ _ _ _ _ _ _
   | exact LeO.none _
   | refine LeO.ite ?_ ?_
   | refine LeO.bind ?_ (fun _ => ?_)
def palinodelaw19_run.T11 : Bool × List (List Nat × List Nat) := (true, [([], []), ([], []), ([], []), ([2], [2]), ([], []), ([4], [4]), ([], []), ([], []), ([6, 7], [6, 7]), ([8], [8]), ([9], [9]), ([10], [10]), ([], []), ([0, 1, 3, 5, 11, 12, 10], [0, 1, 3, 5, 11, 12]), ([13], [13]), ([14], [14]), ([14], [14]), ([], []), ([17, 15, 13, 0, 1, 2, 3, 4, 5, 6, 7, 8, 9, 10, 11, 12, 13, 14, 15, 17], [15, 17]), ([16, 18, 0, 1, 2, 3, 4, 5, 6, 7, 8, 9, 10, 11, 12, 13, 14, 15, 16, 17, 18], [16])])
def palinodelaw19_run.B11 : List Nat := [0, 0, 0, 4, 0, 16, 0, 0, 192, 448, 960, 1984, 0, 8191, 16383, 32767, 32767, 0, 196607, 524287]
theorem palinodelaw19_run.tab11 : rtab .any (opsOf Try.f25 11) = palinodelaw19_run.T11 := by kernel_rfl
theorem palinodelaw19_run.bits11 : waitsOk palinodelaw19_run.T11.2 palinodelaw19_run.B11 = true := by kernel_rfl
set_option maxHeartbeats 8000000 in
set_option maxRecDepth 100000 in
theorem palinodelaw19_run.calls (k : Nat) (a0_0 : ByteArray) (A0_1 : Option Addr) (c0_1 : Nat) (l0_1 : List (S53)) (A1 : Option Addr) (c1 : Nat) (l1 : List Int) (a2 : Int) (r1 : List (S35)) (r2 : ByteArray) (r3 : ByteArray) (r4 : Int) (r5 : Int) (r6 : Int) (r7 : Int) (r8 : Bool) (r9 : Bool) (w : World) (hr0_1 : Kd.C k53 w A0_1 l0_1.length l0_1) (hc0_1 : l0_1.length ≤ c0_1) (hr1 : Kd.C (Kd.int .i64) w A1 l1.length l1) (hc1 : l1.length ≤ c1) (h : palinodelaw19_run.f k a0_0 l0_1 l1 a2 = some (r1, r2, r3, r4, r5, r6, r7, r8, r9)) :
  Calls Try.prog 25 #[.agg #[.string a0_0, .slice A0_1 l0_1.length c0_1], .slice A1 l1.length c1, .int .i64 a2] w fun e w' => ∃ v0_ : Value, e = .returned (.tuple #[v0_, .agg #[.string r2, .string r3, .int .i64 r4, .int .i64 r5, .int .i64 r6, .int .i64 r7, .bool r8], .bool r9]) ∧ Kd.R k35 35 w' w.heap.size (fun _ => True) v0_ r1 ∧ Below w.heap.size w w' := by
 have hu24 := Try.underlying24
 have hu26 := Try.underlying26
 have hu35 := Try.underlying35
 have hu29 := Try.underlying29
 have hu62 := Try.underlying62
 have HR0_1 := Aside0.mk hr0_1
 have HC0_1 := Aside0.mk hc0_1
 clear hr0_1 hc0_1
 have HR1 := Aside0.mk hr1
 have HC1 := Aside0.mk hc1
 clear hr1 hc1
 have HB := Aside0.mk (Below.refl w.heap.size w)
 have H : ((saga_Begin.f k a0_0 l0_1 (⟨#[97]⟩ : ByteArray) a2).bind fun bt276 => (if bt276.2.2.2.2.2.2.2.isNone = true then (palinodelaw19_run.l0 k l1 a2 ([] : List (S35)) 0 a0_0 l0_1 bt276.1 bt276.2.1 bt276.2.2.1 bt276.2.2.2.1 bt276.2.2.2.2.1 bt276.2.2.2.2.2.1 bt276.2.2.2.2.2.2.1) else (some (([] : List (S35)), bt276.1, bt276.2.1, bt276.2.2.1, bt276.2.2.2.1, bt276.2.2.2.2.1, bt276.2.2.2.2.2.1, bt276.2.2.2.2.2.2.1, false)))) = some (r1, r2, r3, r4, r5, r6, r7, r8, r9) := h
 clear h
 replace H := Option.bind_eq_some_iff.mp H
 obtain ⟨⟨t276, t277, t278, t279, t280, t281, t282, t283⟩, A40, H⟩ := H
 replace H : (if t283.isNone = true then (palinodelaw19_run.l0 k l1 a2 ([] : List (S35)) 0 a0_0 l0_1 t276 t277 t278 t279 t280 t281 t282) else (some (([] : List (S35)), t276, t277, t278, t279, t280, t281, t282, false))) = some (r1, r2, r3, r4, r5, r6, r7, r8, r9) := H
 have A4 := Aside0.mk A40
 clear A40
 rcases t283 with _ | q285
 ·
  have H1 : (palinodelaw19_run.l0 k l1 a2 ([] : List (S35)) 0 a0_0 l0_1 t276 t277 t278 t279 t280 t281 t282) = some (r1, r2, r3, r4, r5, r6, r7, r8, r9) := by rw [if_pos (show (none : Option Int).isNone = true by rfl)] at H; exact H
  clear H
  have H := H1
  clear H1
  try simp only [errW_none, errW_some]
  have H' := Aside0.mk H
  clear H
  go_enter Try.func25, Try.ntmps25
  go_wp2_with (first | ((with_reducible refine gate_dst (N := 3) rfl ?_); refine box_event ?hg (N := 3) ?hd (cs := #[.string a0_0, .slice A0_1 l0_1.length c0_1]) (t := 24) ?hr ?_; (case hd => rfl); (case hg => rfl); (case hr => first | (go_simp; done) | (go_simp; rfl)); intro gb274 hg w5 hbox hb; have n0_ := Aside0.mk (Yv HB hb); have n1_ := Aside0.mk (hbox); have n2_ := Aside0.mk (Yg HB hg); have n3_ := Aside0.mk (Yg HB hg); clear HB; have HB := n0_; have BK274 := n1_; have GW274 := n2_; have GE274 := n3_; clear n0_ n1_ n2_ n3_; clear hb hbox hg) | ((with_reducible refine gate_dst (N := 7) rfl ?_); refine box_event ?hg (N := 7) ?hd (cs := #[.string (⟨#[]⟩ : ByteArray), .string (⟨#[]⟩ : ByteArray), .int .i64 0, .int .i64 0, .int .i64 0, .int .i64 0, .bool false]) (t := 26) ?hr ?_; (case hd => rfl); (case hg => rfl); (case hr => first | (go_simp; done) | (go_simp; rfl)); intro gb275 hg w6 hbox hb; have n0_ := Aside0.mk (Zv BK274 hb); have n1_ := Aside0.mk (Yv HB hb); have n2_ := Aside0.mk (hbox); have n3_ := Aside0.mk (Yg HB hg); have n4_ := Aside0.mk (Yg HB hg); have n5_ := Aside0.mk (Zl BK274 hg); have n6_ := Aside0.mk (Zg BK274 hg); clear BK274; clear HB; have BK274 := n0_; have HB := n1_; have BK275 := n2_; have GW275 := n3_; have GE275 := n4_; have NB274_275 := n5_; have NB275_274 := n6_; clear n0_ n1_ n2_ n3_ n4_ n5_ n6_; clear hb hbox hg; obtain ⟨hnb7, hnc7⟩ := Zo NB274_275; obtain ⟨⟨hcz8_0, hcz8_1⟩, hfz8_0, hfz8_1⟩ := Zk2 BK274) | ((with_reducible refine gate_callee (f := 14) rfl ?_); refine goesL_ (some 22) rfl rfl Try.func14 (by kernel_rfl) rfl #[.agg #[.string a0_0, .slice A0_1 l0_1.length c0_1], .string (⟨#[97]⟩ : ByteArray), .int .i64 a2] rfl (by (try simp only [List.map_toArray, List.map_cons, List.map_nil]); first | done | rfl | (simp only [List.length_drop, List.length_take]; rfl)) ?_; (with_reducible refine (saga_Begin.calls k a0_0 _ _ l0_1 (⟨#[97]⟩ : ByteArray) a2 t276 t277 t278 t279 t280 t281 t282 none _ ?side1 ?side2 A4.out).mono ?_); (case side1 => repeat (first | exact (Kd.C_below HR0_1.out HB.out) | (with_reducible refine Kd.C_alloc ?_ _) | (with_reducible refine Kd.C_drewN ?_ _) | (with_reducible refine Kd.C_drew ?_))); (case side2 => exact HC0_1.out); rintro e w9 ⟨rfl, hb⟩; refine ⟨_, rfl, ?_⟩; have n0_ := Aside0.mk (Zv BK274 hb); have n1_ := Aside0.mk (Zv BK275 hb); have n2_ := Aside0.mk (Yv HB hb); clear BK274; clear BK275; clear HB; have BK274 := n0_; have BK275 := n1_; have HB := n2_; clear n0_ n1_ n2_; (try clear hb); (try clear hb2); (try clear hk); (try clear hi); (try simp only [errW_none, errW_some])) | ((with_reducible refine gate_dst (N := 10) rfl ?_); refine box_event ?hg (N := 10) ?hd (cs := #[.string (⟨#[]⟩ : ByteArray), .string (⟨#[]⟩ : ByteArray), .int .i64 0, .int .i64 0, .int .i64 0, .int .i64 0, .bool false]) (t := 26) ?hr ?_; (case hd => rfl); (case hg => rfl); (case hr => first | (go_simp; done) | (go_simp; rfl)); intro gb284 hg w10 hbox hb; have n0_ := Aside0.mk (Zv BK274 hb); have n1_ := Aside0.mk (Zv BK275 hb); have n2_ := Aside0.mk (Yv HB hb); have n3_ := Aside0.mk (hbox); have n4_ := Aside0.mk (Yg HB hg); have n5_ := Aside0.mk (Yg HB hg); have n6_ := Aside0.mk (Zl BK274 hg); have n7_ := Aside0.mk (Zg BK274 hg); have n8_ := Aside0.mk (Zl BK275 hg); have n9_ := Aside0.mk (Zg BK275 hg); clear BK274; clear BK275; clear HB; have BK274 := n0_; have BK275 := n1_; have HB := n2_; have BK284 := n3_; have GW284 := n4_; have GE284 := n5_; have NB274_284 := n6_; have NB284_274 := n7_; have NB275_284 := n8_; have NB284_275 := n9_; clear n0_ n1_ n2_ n3_ n4_ n5_ n6_ n7_ n8_ n9_; clear hb hbox hg; obtain ⟨hnb11, hnc11⟩ := Zo NB284_274; obtain ⟨hnb12, hnc12⟩ := Zo NB284_275; obtain ⟨⟨hcz13_0, hcz13_1, hcz13_2, hcz13_3, hcz13_4, hcz13_5, hcz13_6⟩, hfz13_0, hfz13_1, hfz13_2, hfz13_3, hfz13_4, hfz13_5, hfz13_6⟩ := Zk7 BK284))
  go_loopg [9, 12] k (fun kq v9 v12 w' => ∃ (x9_1 : List (S35)) (x12_1 : Int) (x276000_1 : ByteArray) (x276001_1 : ByteArray) (x276002_1 : Int) (x276003_1 : Int) (x276004_1 : Int) (x276005_1 : Int) (x276006_1 : Bool) (x285000_1 : ByteArray) (x285001_1 : ByteArray) (x285002_1 : Int) (x285003_1 : Int) (x285004_1 : Int) (x285005_1 : Int) (x285006_1 : Bool), v12 = .int .i64 x12_1 ∧ Aside0 (palinodelaw19_run.l0 kq l1 a2 x9_1 x12_1 a0_0 l0_1 x285000_1 x285001_1 x285002_1 x285003_1 x285004_1 x285005_1 x285006_1 = some (r1, r2, r3, r4, r5, r6, r7, r8, r9)) ∧ Aside0 (kq ≤ k) ∧ Aside0 (Kd.R k35 35 w' w.heap.size (fun _ => True) v9 x9_1) ∧ Aside0 (w'.heap[gb274]? = some (.cells #[.string a0_0, (.slice A0_1 l0_1.length c0_1)] 24 (0, 0))) ∧ Aside0 (w'.heap[gb275]? = some (.cells #[.string x276000_1, .string x276001_1, .int .i64 x276002_1, .int .i64 x276003_1, .int .i64 x276004_1, .int .i64 x276005_1, .bool x276006_1] 26 (0, 0))) ∧ Aside0 (w'.heap[gb284]? = some (.cells #[.string x285000_1, .string x285001_1, .int .i64 x285002_1, .int .i64 x285003_1, .int .i64 x285004_1, .int .i64 x285005_1, .bool x285006_1] 26 (0, 0))) ∧ Aside0 (Below w.heap.size w w'))
  case atStart => exact ⟨(([] : List (S35))), (0), ((⟨#[]⟩ : ByteArray)), ((⟨#[]⟩ : ByteArray)), (0), (0), (0), (0), (false), (t276), (t277), (t278), (t279), (t280), (t281), (t282), (by first | rfl | (simp; done) | (simp [*]; done)), H', ⟨Nat.le_refl _⟩, ⟨by first | exact Kd.R_nil _ _ _ _ _ | exact Kd.N_nil _ _ _ _ _ | exact Kd.V_nil _ _ _ _ _ | exact Kd.Q_nil _ _ _ _ _ | exact Kd.S_nil _ _ _ _ _⟩, ⟨by (with_reducible repeat first | apply Zn | apply Zd | apply Za); refine Zq ?_ NB274_284.out _; (with_reducible repeat first | apply Zn | apply Zd | apply Za); refine Zq ?_ NB274_284.out _; (with_reducible repeat first | apply Zn | apply Zd | apply Za); refine Zq ?_ NB274_284.out _; (with_reducible repeat first | apply Zn | apply Zd | apply Za); refine Zq ?_ NB274_284.out _; (with_reducible repeat first | apply Zn | apply Zd | apply Za); refine Zq ?_ NB274_284.out _; (with_reducible repeat first | apply Zn | apply Zd | apply Za); refine Zq ?_ NB274_284.out _; (with_reducible repeat first | apply Zn | apply Zd | apply Za); refine Zq ?_ NB274_284.out _; (with_reducible repeat first | apply Zn | apply Zd | apply Za); exact BK274.out⟩, ⟨by (with_reducible repeat first | apply Zn | apply Zd | apply Za); refine Zq ?_ NB275_284.out _; (with_reducible repeat first | apply Zn | apply Zd | apply Za); refine Zq ?_ NB275_284.out _; (with_reducible repeat first | apply Zn | apply Zd | apply Za); refine Zq ?_ NB275_284.out _; (with_reducible repeat first | apply Zn | apply Zd | apply Za); refine Zq ?_ NB275_284.out _; (with_reducible repeat first | apply Zn | apply Zd | apply Za); refine Zq ?_ NB275_284.out _; (with_reducible repeat first | apply Zn | apply Zd | apply Za); refine Zq ?_ NB275_284.out _; (with_reducible repeat first | apply Zn | apply Zd | apply Za); refine Zq ?_ NB275_284.out _; (with_reducible repeat first | apply Zn | apply Zd | apply Za); exact BK275.out⟩, ⟨by (with_reducible repeat first | apply Zn | apply Zd | apply Za); refine Zp (cs := #[.string t276, .string t277, .int .i64 t278, .int .i64 t279, .int .i64 t280, .int .i64 t281, .bool false]) ?_ 6 _ rfl; (with_reducible repeat first | apply Zn | apply Zd | apply Za); refine Zp (cs := #[.string t276, .string t277, .int .i64 t278, .int .i64 t279, .int .i64 t280, .int .i64 0, .bool false]) ?_ 5 _ rfl; (with_reducible repeat first | apply Zn | apply Zd | apply Za); refine Zp (cs := #[.string t276, .string t277, .int .i64 t278, .int .i64 t279, .int .i64 0, .int .i64 0, .bool false]) ?_ 4 _ rfl; (with_reducible repeat first | apply Zn | apply Zd | apply Za); refine Zp (cs := #[.string t276, .string t277, .int .i64 t278, .int .i64 0, .int .i64 0, .int .i64 0, .bool false]) ?_ 3 _ rfl; (with_reducible repeat first | apply Zn | apply Zd | apply Za); refine Zp (cs := #[.string t276, .string t277, .int .i64 0, .int .i64 0, .int .i64 0, .int .i64 0, .bool false]) ?_ 2 _ rfl; (with_reducible repeat first | apply Zn | apply Zd | apply Za); refine Zp (cs := #[.string t276, .string (⟨#[]⟩ : ByteArray), .int .i64 0, .int .i64 0, .int .i64 0, .int .i64 0, .bool false]) ?_ 1 _ rfl; (with_reducible repeat first | apply Zn | apply Zd | apply Za); refine Zp (cs := #[.string (⟨#[]⟩ : ByteArray), .string (⟨#[]⟩ : ByteArray), .int .i64 0, .int .i64 0, .int .i64 0, .int .i64 0, .bool false]) ?_ 0 _ rfl; (with_reducible repeat first | apply Zn | apply Zd | apply Za); exact BK284.out⟩, ⟨Yr HB⟩⟩
  case round =>
   clear H'
   try clear c1
   try clear c2
   try clear p2
   try clear q2
   try clear c7
   try clear c11
   try clear c12
   try clear hcz13_0
   try clear hcz13_1
   try clear hcz13_2
   try clear hcz13_3
   try clear hcz13_4
   try clear hcz13_5
   try clear hcz13_6
   try clear hcz8_0
   try clear hcz8_1
   try clear hfz13_0
   try clear hfz13_1
   try clear hfz13_2
   try clear hfz13_3
   try clear hfz13_4
   try clear hfz13_5
   try clear hfz13_6
   try clear hfz8_0
   try clear hfz8_1
   try clear q285
   obtain ⟨x9_1, x12_1, x276000_1, x276001_1, x276002_1, x276003_1, x276004_1, x276005_1, x276006_1, x285000_1, x285001_1, x285002_1, x285003_1, x285004_1, x285005_1, x285006_1, rfl, HA, HK1, HO_9, BK274, BK275, BK284, HB⟩ := hrel
   cases gk with
   | zero => exact absurd HA.out (by simp [palinodelaw19_run.l0])
   | succ k1 =>
    have H := HA.out
    clear HA
    simp only [palinodelaw19_run.l0] at H
    have HC14 := Aside0.mk H
    clear H
    go_upto_region 6 with (fail)
    go_cut [35] (fun v35 wc => ∃ (kq : Nat) (x35_13 : Bool), v35 = .bool x35_13 ∧ Aside0 (palinodelaw19_run.j1 kq l1 a2 x9_1 x12_1 x35_13 a0_0 l0_1 x285000_1 x285001_1 x285002_1 x285003_1 x285004_1 x285005_1 x285006_1 = some (r1, r2, r3, r4, r5, r6, r7, r8, r9)) ∧ Aside0 (kq ≤ k1) ∧ Aside0 (Kd.R k35 35 wc w.heap.size (fun _ => True) u9 x9_1) ∧ Aside0 (wc.heap[gb274]? = some (.cells #[.string a0_0, (.slice A0_1 l0_1.length c0_1)] 24 (0, 0))) ∧ Aside0 (wc.heap[gb275]? = some (.cells #[.string x276000_1, .string x276001_1, .int .i64 x276002_1, .int .i64 x276003_1, .int .i64 x276004_1, .int .i64 x276005_1, .bool x276006_1] 26 (0, 0))) ∧ Aside0 (wc.heap[gb284]? = some (.cells #[.string x285000_1, .string x285001_1, .int .i64 x285002_1, .int .i64 x285003_1, .int .i64 x285004_1, .int .i64 x285005_1, .bool x285006_1] 26 (0, 0))) ∧ Aside0 (Below w.heap.size w wc))
    case first =>
     have H := HC14.out
     clear HC14
     by_cases c15 : x12_1 < (l1.length : Int)
     ·
      rw [if_pos c15] at H
      have c15b0 : decide (x12_1 < (l1.length : Int)) = true := decide_eq_true c15
      clear c15
      (first | rw [c15b0] | (simp only [i64_w, i32_w]; rw [c15b0]) | skip)
      have H' := Aside0.mk H
      clear H
      go_wp2
      go_meet
      case rel => exact ⟨_, (decide (x12_1 < 200)), (by first | rfl | (simp; done) | (simp [*]; done)), H', ⟨by have := HK1.out; first | omega | exact Nat.le_refl _⟩, ⟨by (with_reducible repeat (first | apply Kd.R_alloc | apply Kd.R_drewN | apply Kd.R_drew)); exact HO_9.out⟩, ⟨by (with_reducible repeat first | apply Zn | apply Zd | apply Za); exact BK274.out⟩, ⟨by (with_reducible repeat first | apply Zn | apply Zd | apply Za); exact BK275.out⟩, ⟨by (with_reducible repeat first | apply Zn | apply Zd | apply Za); exact BK284.out⟩, ⟨Yr HB⟩⟩
     ·
      rw [if_neg c15] at H
      have c15b0 : decide (x12_1 < (l1.length : Int)) = false := decide_eq_false c15
      clear c15
      (first | rw [c15b0] | (simp only [i64_w, i32_w]; rw [c15b0]) | skip)
      have H' := Aside0.mk H
      clear H
      go_wp2
      go_meet
      case rel => exact ⟨_, (false), (by first | rfl | (simp; done) | (simp [*]; done)), H', ⟨by have := HK1.out; first | omega | exact Nat.le_refl _⟩, ⟨by (with_reducible repeat (first | apply Kd.R_alloc | apply Kd.R_drewN | apply Kd.R_drew)); exact HO_9.out⟩, ⟨by (with_reducible repeat first | apply Zn | apply Zd | apply Za); exact BK274.out⟩, ⟨by (with_reducible repeat first | apply Zn | apply Zd | apply Za); exact BK275.out⟩, ⟨by (with_reducible repeat first | apply Zn | apply Zd | apply Za); exact BK284.out⟩, ⟨Yr HB⟩⟩
    case rest =>
     clear HC14
     try clear c1
     try clear c2
     try clear p2
     try clear q2
     try clear c7
     try clear c11
     try clear c12
     try clear c14
     try clear c15
     try clear c15b0
     try clear hcz13_0
     try clear hcz13_1
     try clear hcz13_2
     try clear hcz13_3
     try clear hcz13_4
     try clear hcz13_5
     try clear hcz13_6
     try clear hcz8_0
     try clear hcz8_1
     try clear hfz13_0
     try clear hfz13_1
     try clear hfz13_2
     try clear hfz13_3
     try clear hfz13_4
     try clear hfz13_5
     try clear hfz13_6
     try clear hfz8_0
     try clear hfz8_1
     try clear p2
     try clear q2
     try clear q285
     obtain ⟨kq, x35_13, rfl, HA, HJ13, HO_9, BK274, BK275, BK284, HB⟩ := hcut
     cases kq with
     | zero => exact absurd HA.out (by simp [palinodelaw19_run.j1])
     | succ kj13 =>
      have H := HA.out
      clear HA
      simp only [palinodelaw19_run.j1] at H
      by_cases c16 : x35_13 = true
      ·
       subst c16
       have H1 : ((saga_Command.f x285000_1 x285001_1 x285002_1 x285003_1 x285004_1 x285005_1 x285006_1).bind fun bt295 => (if bt295.2.2.2.2 = true then (if x9_1.length < 3518437208883 then (if 0 ≤ x12_1 then (if x12_1 < (l1.length : Int) then ((palinodelaw19_pick.f (rd l1 x12_1) 3).bind fun t314 => ((saga_Reply.f kj13 a0_0 l0_1 x285000_1 x285001_1 x285002_1 x285003_1 x285004_1 x285005_1 x285006_1 bt295.2.1 bt295.2.2.1 (wrap64 (1 + t314)) a2).bind fun bt315 => (if bt315.2.2.2.2.2.2.2 = true then (palinodelaw19_run.l0 kj13 l1 a2 (x9_1 ++ [(⟨bt295.1, bt295.2.1, bt295.2.2.1, bt295.2.2.2.1⟩ : S35)]) (wrap64 (x12_1 + 1)) a0_0 l0_1 bt315.1 bt315.2.1 bt315.2.2.1 bt315.2.2.2.1 bt315.2.2.2.2.1 bt315.2.2.2.2.2.1 bt315.2.2.2.2.2.2.1) else (some (([] : List (S35)), x285000_1, x285001_1, x285002_1, x285003_1, x285004_1, x285005_1, x285006_1, false))))) else (none)) else (none)) else (none)) else ((saga_Command.f x285000_1 x285001_1 x285002_1 x285003_1 x285004_1 x285005_1 x285006_1).bind fun bt301 => (if bt301.2.2.2.2 = true then (if x9_1.length < 3518437208883 then (some ((x9_1 ++ [(⟨bt301.1, bt301.2.1, bt301.2.2.1, bt301.2.2.2.1⟩ : S35)]), x285000_1, x285001_1, x285002_1, x285003_1, x285004_1, x285005_1, x285006_1, true)) else (none)) else (some (x9_1, x285000_1, x285001_1, x285002_1, x285003_1, x285004_1, x285005_1, x285006_1, true)))))) = some (r1, r2, r3, r4, r5, r6, r7, r8, r9) := by rw [if_pos rfl] at H; exact H
       clear H
       have H := H1
       clear H1
       replace H := Option.bind_eq_some_iff.mp H
       obtain ⟨⟨t295, t296, t297, t298, t299⟩, A170, H⟩ := H
       replace H : (if t299 = true then (if x9_1.length < 3518437208883 then (if 0 ≤ x12_1 then (if x12_1 < (l1.length : Int) then ((palinodelaw19_pick.f (rd l1 x12_1) 3).bind fun t314 => ((saga_Reply.f kj13 a0_0 l0_1 x285000_1 x285001_1 x285002_1 x285003_1 x285004_1 x285005_1 x285006_1 t296 t297 (wrap64 (1 + t314)) a2).bind fun bt315 => (if bt315.2.2.2.2.2.2.2 = true then (palinodelaw19_run.l0 kj13 l1 a2 (x9_1 ++ [(⟨t295, t296, t297, t298⟩ : S35)]) (wrap64 (x12_1 + 1)) a0_0 l0_1 bt315.1 bt315.2.1 bt315.2.2.1 bt315.2.2.2.1 bt315.2.2.2.2.1 bt315.2.2.2.2.2.1 bt315.2.2.2.2.2.2.1) else (some (([] : List (S35)), x285000_1, x285001_1, x285002_1, x285003_1, x285004_1, x285005_1, x285006_1, false))))) else (none)) else (none)) else (none)) else ((saga_Command.f x285000_1 x285001_1 x285002_1 x285003_1 x285004_1 x285005_1 x285006_1).bind fun bt301 => (if bt301.2.2.2.2 = true then (if x9_1.length < 3518437208883 then (some ((x9_1 ++ [(⟨bt301.1, bt301.2.1, bt301.2.2.1, bt301.2.2.2.1⟩ : S35)]), x285000_1, x285001_1, x285002_1, x285003_1, x285004_1, x285005_1, x285006_1, true)) else (none)) else (some (x9_1, x285000_1, x285001_1, x285002_1, x285003_1, x285004_1, x285005_1, x285006_1, true))))) = some (r1, r2, r3, r4, r5, r6, r7, r8, r9) := H
       have A17 := Aside0.mk A170
       clear A170
       by_cases c18 : t299 = true
       ·
        subst c18
        have H1 : (if x9_1.length < 3518437208883 then (if 0 ≤ x12_1 then (if x12_1 < (l1.length : Int) then ((palinodelaw19_pick.f (rd l1 x12_1) 3).bind fun t314 => ((saga_Reply.f kj13 a0_0 l0_1 x285000_1 x285001_1 x285002_1 x285003_1 x285004_1 x285005_1 x285006_1 t296 t297 (wrap64 (1 + t314)) a2).bind fun bt315 => (if bt315.2.2.2.2.2.2.2 = true then (palinodelaw19_run.l0 kj13 l1 a2 (x9_1 ++ [(⟨t295, t296, t297, t298⟩ : S35)]) (wrap64 (x12_1 + 1)) a0_0 l0_1 bt315.1 bt315.2.1 bt315.2.2.1 bt315.2.2.2.1 bt315.2.2.2.2.1 bt315.2.2.2.2.2.1 bt315.2.2.2.2.2.2.1) else (some (([] : List (S35)), x285000_1, x285001_1, x285002_1, x285003_1, x285004_1, x285005_1, x285006_1, false))))) else (none)) else (none)) else (none)) = some (r1, r2, r3, r4, r5, r6, r7, r8, r9) := by rw [if_pos rfl] at H; exact H
        clear H
        have H := H1
        clear H1
        by_cases c19 : x9_1.length < 3518437208883
        ·
         rw [if_pos c19] at H
         have LMc19 := Aside0.mk c19
         clear c19
         obtain ⟨y310, hy310⟩ : ∃ y_ : List (S35), y_ = (x9_1 ++ [(⟨t295, t296, t297, t298⟩ : S35)]) := ⟨_, rfl⟩
         replace H : (if 0 ≤ x12_1 then (if x12_1 < (l1.length : Int) then ((palinodelaw19_pick.f (rd l1 x12_1) 3).bind fun t314 => ((saga_Reply.f kj13 a0_0 l0_1 x285000_1 x285001_1 x285002_1 x285003_1 x285004_1 x285005_1 x285006_1 t296 t297 (wrap64 (1 + t314)) a2).bind fun bt315 => (if bt315.2.2.2.2.2.2.2 = true then (palinodelaw19_run.l0 kj13 l1 a2 y310 (wrap64 (x12_1 + 1)) a0_0 l0_1 bt315.1 bt315.2.1 bt315.2.2.1 bt315.2.2.2.1 bt315.2.2.2.2.1 bt315.2.2.2.2.2.1 bt315.2.2.2.2.2.2.1) else (some (([] : List (S35)), x285000_1, x285001_1, x285002_1, x285003_1, x285004_1, x285005_1, x285006_1, false))))) else (none)) else (none)) = some (r1, r2, r3, r4, r5, r6, r7, r8, r9) := by first | (rw [hy310]; with_reducible exact H) | (have H2_ := (Option.bind_some _ _).symm.trans H; rw [hy310]; with_reducible exact H2_) | (have H2_ := (Option.bind_some _ _).symm.trans H; with_reducible exact H2_) | with_reducible exact H | (rw [hy310]; exact H) | exact H
         have Ny310 := Aside0.mk hy310
         clear hy310
         by_cases c20 : 0 ≤ x12_1
         ·
          rw [if_pos c20] at H
          have c20b0 : decide (0 ≤ x12_1) = true := decide_eq_true c20
          clear c20
          by_cases c21 : x12_1 < (l1.length : Int)
          ·
           rw [if_pos c21] at H
           have c21b0 : decide (x12_1 < (l1.length : Int)) = true := decide_eq_true c21
           clear c21
           replace H := Option.bind_eq_some_iff.mp H
           obtain ⟨t314, A220, H⟩ := H
           replace H : ((saga_Reply.f kj13 a0_0 l0_1 x285000_1 x285001_1 x285002_1 x285003_1 x285004_1 x285005_1 x285006_1 t296 t297 (wrap64 (1 + t314)) a2).bind fun bt315 => (if bt315.2.2.2.2.2.2.2 = true then (palinodelaw19_run.l0 kj13 l1 a2 y310 (wrap64 (x12_1 + 1)) a0_0 l0_1 bt315.1 bt315.2.1 bt315.2.2.1 bt315.2.2.2.1 bt315.2.2.2.2.1 bt315.2.2.2.2.2.1 bt315.2.2.2.2.2.2.1) else (some (([] : List (S35)), x285000_1, x285001_1, x285002_1, x285003_1, x285004_1, x285005_1, x285006_1, false)))) = some (r1, r2, r3, r4, r5, r6, r7, r8, r9) := H
           have A22 := Aside0.mk A220
           clear A220
           replace H := Option.bind_eq_some_iff.mp H
           obtain ⟨⟨t315, t316, t317, t318, t319, t320, t321, t322⟩, A230, H⟩ := H
           replace H : (if t322 = true then (palinodelaw19_run.l0 kj13 l1 a2 y310 (wrap64 (x12_1 + 1)) a0_0 l0_1 t315 t316 t317 t318 t319 t320 t321) else (some (([] : List (S35)), x285000_1, x285001_1, x285002_1, x285003_1, x285004_1, x285005_1, x285006_1, false))) = some (r1, r2, r3, r4, r5, r6, r7, r8, r9) := H
           have A23 := Aside0.mk A230
           clear A230
           by_cases c24 : t322 = true
           ·
            subst c24
            have H1 : (palinodelaw19_run.l0 kj13 l1 a2 y310 (wrap64 (x12_1 + 1)) a0_0 l0_1 t315 t316 t317 t318 t319 t320 t321) = some (r1, r2, r3, r4, r5, r6, r7, r8, r9) := by rw [if_pos rfl] at H; exact H
            clear H
            have H := H1
            clear H1
            have H' := Aside0.mk H
            clear H
            obtain ⟨hnb25, hnc25⟩ := Zo NB284_274
            obtain ⟨hnb26, hnc26⟩ := Zo NB284_275
            obtain ⟨⟨hcz27_0, hcz27_1, hcz27_2, hcz27_3, hcz27_4, hcz27_5, hcz27_6⟩, hfz27_0, hfz27_1, hfz27_2, hfz27_3, hfz27_4, hfz27_5, hfz27_6⟩ := Zk7 BK284
            try go_wp2_with (first | ((with_reducible refine gate_callee (f := 16) rfl ?_); refine goesL_ (some 40) rfl rfl Try.func16 (by kernel_rfl) rfl #[.agg #[.string x285000_1, .string x285001_1, .int .i64 x285002_1, .int .i64 x285003_1, .int .i64 x285004_1, .int .i64 x285005_1, .bool x285006_1]] rfl (by (try simp only [List.map_toArray, List.map_cons, List.map_nil]); first | done | rfl | (simp only [List.length_drop, List.length_take]; rfl)) ?_; (with_reducible refine (saga_Command.calls x285000_1 x285001_1 x285002_1 x285003_1 x285004_1 x285005_1 x285006_1 t295 t296 t297 t298 true _ A17.out).mono ?_); rintro e w28 ⟨rfl, hb⟩; refine ⟨_, rfl, ?_⟩; have n0_ := Aside0.mk (Kd.R_below (by (with_reducible repeat (first | apply Kd.R_alloc | apply Kd.R_drewN | apply Kd.R_drew)); exact HO_9.out) hb); have n1_ := Aside0.mk (Zv BK274 hb); have n2_ := Aside0.mk (Zv BK275 hb); have n3_ := Aside0.mk (Zv BK284 hb); have n4_ := Aside0.mk (Yv HB hb); clear HO_9; clear BK274; clear BK275; clear BK284; clear HB; have HO_9 := n0_; have BK274 := n1_; have BK275 := n2_; have BK284 := n3_; have HB := n4_; clear n0_ n1_ n2_ n3_ n4_; (try clear hb); (try clear hb2); (try clear hk); (try clear hi)) | ((with_reducible refine gate_dst (N := 13) rfl ?_); refine box_event ?hg (N := 13) ?hd (cs := #[.string (⟨#[]⟩ : ByteArray), .int .i64 0, .int .i64 0, .int .i64 0]) (t := 35) ?hr ?_; (case hd => rfl); (case hg => rfl); (case hr => first | (go_simp; done) | (go_simp; rfl)); intro gb300 hg w29 hbox hb; have n0_ := Aside0.mk (Kd.R_below (Kd.R_elderB (by (with_reducible repeat (first | apply Kd.R_alloc | apply Kd.R_drewN | apply Kd.R_drew)); exact HO_9.out) gb300 (Nat.le_of_eq hg.symm)) hb); have n1_ := Aside0.mk (Zv BK274 hb); have n2_ := Aside0.mk (Zv BK275 hb); have n3_ := Aside0.mk (Zv BK284 hb); have n4_ := Aside0.mk (Yv HB hb); have n5_ := Aside0.mk (hbox); have n6_ := Aside0.mk (Yg HB hg); have n7_ := Aside0.mk (Yg HB hg); have n8_ := Aside0.mk (Zl BK274 hg); have n9_ := Aside0.mk (Zg BK274 hg); have n10_ := Aside0.mk (Zl BK275 hg); have n11_ := Aside0.mk (Zg BK275 hg); have n12_ := Aside0.mk (Zl BK284 hg); have n13_ := Aside0.mk (Zg BK284 hg); clear HO_9; clear BK274; clear BK275; clear BK284; clear HB; have HO_9 := n0_; have BK274 := n1_; have BK275 := n2_; have BK284 := n3_; have HB := n4_; have BK300 := n5_; have GW300 := n6_; have GE300 := n7_; have NB274_300 := n8_; have NB300_274 := n9_; have NB275_300 := n10_; have NB300_275 := n11_; have NB284_300 := n12_; have NB300_284 := n13_; clear n0_ n1_ n2_ n3_ n4_ n5_ n6_ n7_ n8_ n9_ n10_ n11_ n12_ n13_; clear hb hbox hg; obtain ⟨hnb30, hnc30⟩ := Zo NB300_274; obtain ⟨hnb31, hnc31⟩ := Zo NB300_275; obtain ⟨hnb32, hnc32⟩ := Zo NB300_284; obtain ⟨⟨hcz33_0, hcz33_1, hcz33_2, hcz33_3⟩, hfz33_0, hfz33_1, hfz33_2, hfz33_3⟩ := Zk4 BK300) | ((with_reducible refine gate_builtin (b := .append) (xs := #[.tmp 45, .tmp 47]) rfl ?_); at_builtin; refine Kd.R_append k35 (w0 := w) w.heap.size rfl (.tmp 45) (.tmp 47) 45 35 (.agg #[(.string ⟨#[]⟩), (.int .i64 0), (.int .i64 0), (.int .i64 0)]) 40 rfl Try.underlying45 info35 rfl (by decide) (by omega) u9 x9_1 (⟨t295, t296, t297, t298⟩ : S35) [.string t295, .int .i64 t296, .int .i64 t297, .int .i64 t298] (fun k_ => k_ ≠ gb300) (fun _ => False) rfl (by first | (go_simp; done) | (go_simp; rfl)) ?aP (fun _ hk => hk.elim) ?aF ?aO ?aB ?aS ?aL ?_; (case aP => exact k35_mkM _ _ _ (⟨t295, t296, t297, t298⟩ : S35)); (case aB => exact (Yr HB)); (case aF => exact (fun k_ hk => Kd.freshB (g := gb300) (o := .cells #[.string t295, .int .i64 t296, .int .i64 t297, .int .i64 t298] 35 (0, 0)) (by (with_reducible repeat first | apply Zn | apply Zd | apply Za); refine Zp (cs := #[.string t295, .int .i64 t296, .int .i64 t297, .int .i64 0]) ?_ 3 _ rfl; (with_reducible repeat first | apply Zn | apply Zd | apply Za); refine Zp (cs := #[.string t295, .int .i64 t296, .int .i64 0, .int .i64 0]) ?_ 2 _ rfl; (with_reducible repeat first | apply Zn | apply Zd | apply Za); refine Zp (cs := #[.string t295, .int .i64 0, .int .i64 0, .int .i64 0]) ?_ 1 _ rfl; (with_reducible repeat first | apply Zn | apply Zd | apply Za); refine Zp (cs := #[.string (⟨#[]⟩ : ByteArray), .int .i64 0, .int .i64 0, .int .i64 0]) ?_ 0 _ rfl; (with_reducible repeat first | apply Zn | apply Zd | apply Za); exact BK300.out) k_ hk)); (case aO => exact (by (with_reducible repeat (first | apply Kd.R_alloc | apply Kd.R_drewN | apply Kd.R_drew)); exact Kd.R_mono (Kd.R_far (p := ⟨gb300, 3, none⟩) (Kd.R_far (p := ⟨gb300, 2, none⟩) (Kd.R_far (p := ⟨gb300, 1, none⟩) (Kd.R_far (p := ⟨gb300, 0, none⟩) (Kd.R_mono HO_9.out (fun k_ hk => (⟨hk, hk.2⟩ : _ ∧ k_ ≠ gb300))) (fun _ hk => hk.2) (.string t295)) (fun _ hk => hk.2) (.int .i64 t296)) (fun _ hk => hk.2) (.int .i64 t297)) (fun _ hk => hk.2) (.int .i64 t298)) (fun _ hk => hk.1.2))); (case aS => exact (below_size (Yr HB))); (case aL => have := LMc19.out; omega); intro v311 w34 ho hb hg hat; rw [← Ny310.out] at ho; have n0_ := Aside0.mk (blk_grown (g := gb274) (o := .cells #[.string a0_0, .slice A0_1 l0_1.length c0_1] 24 (0, 0)) (Zr BK274) hg (Kd.R_ne HO_9.out BK274.out (by decide))); have n1_ := Aside0.mk (blk_grown (g := gb275) (o := .cells #[.string x276000_1, .string x276001_1, .int .i64 x276002_1, .int .i64 x276003_1, .int .i64 x276004_1, .int .i64 x276005_1, .bool x276006_1] 26 (0, 0)) (Zr BK275) hg (Kd.R_ne HO_9.out BK275.out (by decide))); have n2_ := Aside0.mk (blk_grown (g := gb284) (o := .cells #[.string x285000_1, .string x285001_1, .int .i64 x285002_1, .int .i64 x285003_1, .int .i64 x285004_1, .int .i64 x285005_1, .bool x285006_1] 26 (0, 0)) (Zr BK284) hg (Kd.R_ne HO_9.out BK284.out (by decide))); have n3_ := Aside0.mk (blk_grown (g := gb300) (o := .cells #[.string t295, .int .i64 t296, .int .i64 t297, .int .i64 t298] 35 (0, 0)) (by (with_reducible repeat first | apply Zn | apply Zd | apply Za); refine Zp (cs := #[.string t295, .int .i64 t296, .int .i64 t297, .int .i64 0]) ?_ 3 _ rfl; (with_reducible repeat first | apply Zn | apply Zd | apply Za); refine Zp (cs := #[.string t295, .int .i64 t296, .int .i64 0, .int .i64 0]) ?_ 2 _ rfl; (with_reducible repeat first | apply Zn | apply Zd | apply Za); refine Zp (cs := #[.string t295, .int .i64 0, .int .i64 0, .int .i64 0]) ?_ 1 _ rfl; (with_reducible repeat first | apply Zn | apply Zd | apply Za); refine Zp (cs := #[.string (⟨#[]⟩ : ByteArray), .int .i64 0, .int .i64 0, .int .i64 0]) ?_ 0 _ rfl; (with_reducible repeat first | apply Zn | apply Zd | apply Za); exact BK300.out) hg (Kd.R_away HO_9.out (fun _ hk => hk.2))); have n4_ := Aside0.mk (hb); have n5_ := Aside0.mk (ho); clear BK274; clear BK275; clear BK284; clear BK300; clear HB; clear HO_9; have BK274 := n0_; have BK275 := n1_; have BK284 := n2_; have BK300 := n3_; have HB := n4_; have HO312 := n5_; clear n0_ n1_ n2_ n3_ n4_ n5_; clear ho hb hg hat))
            have n0_ := Aside0.mk (Kd.R_drew HO312.out)
            have n1_ := Aside0.mk (Zd BK274.out)
            have n2_ := Aside0.mk (Zd BK275.out)
            have n3_ := Aside0.mk (Zd BK284.out)
            have n4_ := Aside0.mk (Zd BK300.out)
            have n5_ := Aside0.mk (Yd HB.out)
            clear HO312
            clear BK274
            clear BK275
            clear BK284
            clear BK300
            clear HB
            have HO312 := n0_
            have BK274 := n1_
            have BK275 := n2_
            have BK284 := n3_
            have BK300 := n4_
            have HB := n5_
            clear n0_ n1_ n2_ n3_ n4_ n5_
            have p313 : 0 ≤ (x12_1 : Int) := of_decide_eq_true (by first | (with_reducible assumption) | assumption)
            have q313 : x12_1 < (l1.length : Int) := of_decide_eq_true (by first | (with_reducible assumption) | assumption)
            obtain ⟨ad313, e313, hx313_0⟩ := Kd.at_int HR1.out x12_1 p313 q313
            have hw313_0 := hx313_0
            cases e313
            replace hx313_0 := (HB.out.cell (World.block_lt_of_cell? w _ hx313_0)).trans hx313_0
            replace p313 := eq_true p313
            replace q313 := eq_true q313
            refine start_ (n := 20) (S := fun w' => w'.cell? ⟨gb274, 0, none⟩ = some (.string a0_0) ∧ w'.cell? ⟨gb274, 1, none⟩ = some (.slice A0_1 l0_1.length c0_1) ∧ w'.cell? ⟨gb284, 0, none⟩ = some (.string x285000_1) ∧ w'.cell? ⟨gb284, 1, none⟩ = some (.string x285001_1) ∧ w'.cell? ⟨gb284, 2, none⟩ = some (.int .i64 x285002_1) ∧ w'.cell? ⟨gb284, 3, none⟩ = some (.int .i64 x285003_1) ∧ w'.cell? ⟨gb284, 4, none⟩ = some (.int .i64 x285004_1) ∧ w'.cell? ⟨gb284, 5, none⟩ = some (.int .i64 x285005_1) ∧ w'.cell? ⟨gb284, 6, none⟩ = some (.bool x285006_1) ∧ w'.cell? ⟨gb300, 0, none⟩ = some (.string t295) ∧ w'.cell? ⟨gb300, 1, none⟩ = some (.int .i64 t296) ∧ w'.cell? ⟨gb300, 2, none⟩ = some (.int .i64 t297) ∧ w'.cell? ⟨gb300, 3, none⟩ = some (.int .i64 t298) ∧ w'.cell? (ad313.add (x12_1).toNat) = some (.int .i64 (rd l1 x12_1))) (ds := []) #[false, false, false, false, false, false, false, false, false, false, false, false, false, false, false, false, false, false, false, false] (by kernel_rfl) rfl rfl ⟨(Zc BK274.out 0).trans rfl, (Zc BK274.out 1).trans rfl, (Zc BK284.out 0).trans rfl, (Zc BK284.out 1).trans rfl, (Zc BK284.out 2).trans rfl, (Zc BK284.out 3).trans rfl, (Zc BK284.out 4).trans rfl, (Zc BK284.out 5).trans rfl, (Zc BK284.out 6).trans rfl, (Zc BK300.out 0).trans rfl, (Zc BK300.out 1).trans rfl, (Zc BK300.out 2).trans rfl, (Zc BK300.out 3).trans rfl, ((HB.out.cell (World.block_lt_of_cell? w _ hw313_0)).trans hw313_0)⟩ (fun hHeld => ?_); refine with_tabW palinodelaw19_run.tab11 palinodelaw19_run.bits11 (fun HT_ HW_ => ?_)
            generalize w34.drew = w35 at HO312 BK274 BK275 BK284 BK300 HB hx313_0 hHeld ⊢
            refine pure_ (i := 2) (N := some 52) (v := ?_) (a' := ?_) #[false, false, true, false, false, false, false, false, false, false, false, false, false, false, false, false, false, false, false, false] rfl rfl (any_of HT_.out (by kernel_rfl)) (fun _ _ _ h => h) (Or.inl ⟨by rfl, ?_⟩) ?_ ?_
            rotate_left
            ·
             intro w'
             go_simp
             with_reducible rfl
            rotate_left
            ·
             simp only [Act.put, List.setIfInBounds_toArray, List.set_cons_zero, List.set_cons_succ, i64_w, i32_w]
             rfl
            refine pure_ (i := 4) (N := some 54) (v := ?_) (a' := ?_) #[false, false, true, false, true, false, false, false, false, false, false, false, false, false, false, false, false, false, false, false] rfl rfl (any_of HT_.out (by kernel_rfl)) (fun _ _ _ h => h) (Or.inl ⟨by rfl, ?_⟩) ?_ ?_
            rotate_left
            ·
             intro w'
             go_simp
             with_reducible rfl
            rotate_left
            ·
             simp only [Act.put, List.setIfInBounds_toArray, List.set_cons_zero, List.set_cons_succ, i64_w, i32_w]
             rfl
            refine pure_ (i := 6) (N := some 56) (v := ?_) (a' := ?_) #[false, false, true, false, true, false, true, false, false, false, false, false, false, false, false, false, false, false, false, false] rfl rfl (any_of HT_.out (by kernel_rfl)) (fun _ _ _ h => h) (Or.inl ⟨by rfl, ?_⟩) ?_ ?_
            rotate_left
            ·
             intro w'
             go_simp
             with_reducible rfl
            rotate_left
            ·
             simp only [Act.put, List.setIfInBounds_toArray, List.set_cons_zero, List.set_cons_succ, i64_w, i32_w]
             rfl
            refine pure_ (i := 7) (N := some 57) (v := ?_) (a' := ?_) #[false, false, true, false, true, false, true, true, false, false, false, false, false, false, false, false, false, false, false, false] rfl rfl (any_of HT_.out (by kernel_rfl)) (fun _ _ _ h => h) (Or.inl ⟨by rfl, ?_⟩) ?_ ?_
            rotate_left
            ·
             intro w'
             go_simp
             with_reducible rfl
            rotate_left
            ·
             simp only [Act.put, List.setIfInBounds_toArray, List.set_cons_zero, List.set_cons_succ, i64_w, i32_w]
             rfl
            refine pure_ (i := 8) (N := some 58) (v := ?_) (a' := ?_) #[false, false, true, false, true, false, true, true, true, false, false, false, false, false, false, false, false, false, false, false] rfl rfl (any_of HT_.out (by kernel_rfl)) (fun _ _ _ h => h) (Or.inl ⟨by rfl, ?_⟩) ?_ ?_
            rotate_left
            ·
             intro w'
             go_simp
             with_reducible rfl
            rotate_left
            ·
             simp only [Act.put, List.setIfInBounds_toArray, List.set_cons_zero, List.set_cons_succ, i64_w, i32_w]
             rfl
            refine pure_ (i := 12) (N := some 62) (v := ?_) (a' := ?_) #[false, false, true, false, true, false, true, true, true, false, false, false, true, false, false, false, false, false, false, false] rfl rfl (any_of HT_.out (by kernel_rfl)) (fun _ _ _ h => h) (Or.inl ⟨by rfl, ?_⟩) ?_ ?_
            rotate_left
            ·
             intro w'
             go_simp
             with_reducible rfl
            rotate_left
            ·
             simp only [Act.put, List.setIfInBounds_toArray, List.set_cons_zero, List.set_cons_succ, i64_w, i32_w]
             rfl
            refine take_ (i := 0) (N := some 50) (v := ?_) (a' := ?_) #[true, false, true, false, true, false, true, true, true, false, false, false, true, false, false, false, false, false, false, false] rfl rfl (take_ofW HT_.out HW_.out (by kernel_rfl)) (fun _ _ _ h => h) (Or.inl ⟨by rfl, ?_⟩) hHeld ?_ ?_
            rotate_left
            ·
             rintro w' ⟨s0, s1, s2, s3, s4, s5, s6, s7, s8, s9, s10, s11, s12, s13⟩
             go_simp
             with_reducible rfl
            rotate_left
            ·
             simp only [Act.put, List.setIfInBounds_toArray, List.set_cons_zero, List.set_cons_succ, i64_w, i32_w]
             rfl
            refine take_ (i := 1) (N := some 51) (v := ?_) (a' := ?_) #[true, true, true, false, true, false, true, true, true, false, false, false, true, false, false, false, false, false, false, false] rfl rfl (take_ofW HT_.out HW_.out (by kernel_rfl)) (fun _ _ _ h => h) (Or.inl ⟨by rfl, ?_⟩) hHeld ?_ ?_
            rotate_left
            ·
             rintro w' ⟨s0, s1, s2, s3, s4, s5, s6, s7, s8, s9, s10, s11, s12, s13⟩
             go_simp
             with_reducible rfl
            rotate_left
            ·
             simp only [Act.put, List.setIfInBounds_toArray, List.set_cons_zero, List.set_cons_succ, i64_w, i32_w]
             rfl
            refine take_ (i := 3) (N := some 53) (v := ?_) (a' := ?_) #[true, true, true, true, true, false, true, true, true, false, false, false, true, false, false, false, false, false, false, false] rfl rfl (take_ofW HT_.out HW_.out (by kernel_rfl)) (fun _ _ _ h => h) (Or.inl ⟨by rfl, ?_⟩) hHeld ?_ ?_
            rotate_left
            ·
             rintro w' ⟨s0, s1, s2, s3, s4, s5, s6, s7, s8, s9, s10, s11, s12, s13⟩
             go_simp
             with_reducible rfl
            rotate_left
            ·
             simp only [Act.put, List.setIfInBounds_toArray, List.set_cons_zero, List.set_cons_succ, i64_w, i32_w]
             rfl
            refine take_ (i := 5) (N := some 55) (v := ?_) (a' := ?_) #[true, true, true, true, true, true, true, true, true, false, false, false, true, false, false, false, false, false, false, false] rfl rfl (take_ofW HT_.out HW_.out (by kernel_rfl)) (fun _ _ _ h => h) (Or.inl ⟨by rfl, ?_⟩) hHeld ?_ ?_
            rotate_left
            ·
             rintro w' ⟨s0, s1, s2, s3, s4, s5, s6, s7, s8, s9, s10, s11, s12, s13⟩
             go_simp
             with_reducible rfl
            rotate_left
            ·
             simp only [Act.put, List.setIfInBounds_toArray, List.set_cons_zero, List.set_cons_succ, i64_w, i32_w]
             rfl
            refine take_ (i := 9) (N := some 59) (v := ?_) (a' := ?_) #[true, true, true, true, true, true, true, true, true, true, false, false, true, false, false, false, false, false, false, false] rfl rfl (take_ofW HT_.out HW_.out (by kernel_rfl)) (fun _ _ _ h => h) (Or.inl ⟨by rfl, ?_⟩) hHeld ?_ ?_
            rotate_left
            ·
             rintro w' ⟨s0, s1, s2, s3, s4, s5, s6, s7, s8, s9, s10, s11, s12, s13⟩
             go_simp
             with_reducible rfl
            rotate_left
            ·
             simp only [Act.put, List.setIfInBounds_toArray, List.set_cons_zero, List.set_cons_succ, i64_w, i32_w]
             rfl
            refine join_ (σ := Nat) 2 #[true, true, true, true, true, true, true, true, true, true, true, true, true, true, true, true, true, true, false, false] (fun s_ => [(60, .int .i64 t314), (63, .tuple #[.agg #[.string t315, .string t316, .int .i64 t317, .int .i64 t318, .int .i64 t319, .int .i64 t320, .bool t321], .bool true]), (15, .pointer (some ⟨s_, 0, none⟩)), (61, .int .i64 (wrap64 (1 + t314))), (49, .tuple #[.agg #[.string t315, .string t316, .int .i64 t317, .int .i64 t318, .int .i64 t319, .int .i64 t320, .bool t321], .bool true]), (64, .agg #[.string t315, .string t316, .int .i64 t317, .int .i64 t318, .int .i64 t319, .int .i64 t320, .bool t321]), (65, .bool true)]) (fun s_ w' => (w'.cell? ⟨gb274, 0, none⟩ = some (.string a0_0) ∧ w'.cell? ⟨gb274, 1, none⟩ = some (.slice A0_1 l0_1.length c0_1) ∧ w'.cell? ⟨gb284, 0, none⟩ = some (.string x285000_1) ∧ w'.cell? ⟨gb284, 1, none⟩ = some (.string x285001_1) ∧ w'.cell? ⟨gb284, 2, none⟩ = some (.int .i64 x285002_1) ∧ w'.cell? ⟨gb284, 3, none⟩ = some (.int .i64 x285003_1) ∧ w'.cell? ⟨gb284, 4, none⟩ = some (.int .i64 x285004_1) ∧ w'.cell? ⟨gb284, 5, none⟩ = some (.int .i64 x285005_1) ∧ w'.cell? ⟨gb284, 6, none⟩ = some (.bool x285006_1) ∧ w'.cell? ⟨gb300, 0, none⟩ = some (.string t295) ∧ w'.cell? ⟨gb300, 1, none⟩ = some (.int .i64 t296) ∧ w'.cell? ⟨gb300, 2, none⟩ = some (.int .i64 t297) ∧ w'.cell? ⟨gb300, 3, none⟩ = some (.int .i64 t298) ∧ w'.cell? (ad313.add (x12_1).toNat) = some (.int .i64 (rd l1 x12_1))) ∧ (Kd.R k35 35 w' w.heap.size (fun k_ => k_ ≠ gb300) v311 y310) ∧ (w'.heap[gb274]? = some (.cells #[.string a0_0, .slice A0_1 l0_1.length c0_1] 24 (0, 0))) ∧ (w'.heap[gb275]? = some (.cells #[.string x276000_1, .string x276001_1, .int .i64 x276002_1, .int .i64 x276003_1, .int .i64 x276004_1, .int .i64 x276005_1, .bool x276006_1] 26 (0, 0))) ∧ (w'.heap[gb284]? = some (.cells #[.string x285000_1, .string x285001_1, .int .i64 x285002_1, .int .i64 x285003_1, .int .i64 x285004_1, .int .i64 x285005_1, .bool x285006_1] 26 (0, 0))) ∧ (w'.heap[gb300]? = some (.cells #[.string t295, .int .i64 t296, .int .i64 t297, .int .i64 t298] 35 (0, 0))) ∧ (w'.heap[s_]? = some (.cells #[.string (⟨#[]⟩ : ByteArray), .string (⟨#[]⟩ : ByteArray), .int .i64 0, .int .i64 0, .int .i64 0, .int .i64 0, .bool false] 26 (0, 0))) ∧ (w.heap.size ≤ s_) ∧ (w.heap.size ≤ s_) ∧ (gb274 ≠ s_) ∧ (s_ ≠ gb274) ∧ (gb275 ≠ s_) ∧ (s_ ≠ gb275) ∧ (gb284 ≠ s_) ∧ (s_ ≠ gb284) ∧ (gb300 ≠ s_) ∧ (s_ ≠ gb300) ∧ (Below w.heap.size w w')) ?_ ?_
            rotate_left
            ·
             intro hCont
             refine two_ (i := 10) (j := 17) (Ni := some 60) (Nj := some 15) #[true, true, true, true, true, true, true, true, true, true, true, false, true, false, false, false, false, false, false, false] #[true, true, true, true, true, true, true, true, true, true, false, false, true, false, false, false, false, true, false, false] rfl rfl rfl rfl (two_of HT_.out (by kernel_rfl)) (by decide) (by decide) (fun K hK => ?_) (fun K hK => ?_)
             ·
              skip
              refine goes_ Try.func27 (by kernel_rfl) rfl #[.int .i64 (rd l1 x12_1), .int .i64 3] (by rfl) rfl rfl (by (try simp only [List.map_toArray, List.map_cons, List.map_nil]); first | done | rfl | (simp only [List.length_drop, List.length_take]; rfl)) ?_
              with_reducible refine (palinodelaw19_pick.calls (rd l1 x12_1) 3 t314 _ A22.out).mono ?_
              rintro e w' ⟨rfl, ⟨nd, rfl⟩⟩
              refine ⟨_, rfl, ?_⟩
              refine hK.out _ _ ⟨(Zc BK274.out 0).trans rfl, (Zc BK274.out 1).trans rfl, (Zc BK284.out 0).trans rfl, (Zc BK284.out 1).trans rfl, (Zc BK284.out 2).trans rfl, (Zc BK284.out 3).trans rfl, (Zc BK284.out 4).trans rfl, (Zc BK284.out 5).trans rfl, (Zc BK284.out 6).trans rfl, (Zc BK300.out 0).trans rfl, (Zc BK300.out 1).trans rfl, (Zc BK300.out 2).trans rfl, (Zc BK300.out 3).trans rfl, ((HB.out.cell (World.block_lt_of_cell? w _ hw313_0)).trans hw313_0)⟩ (fun hHeld => ?_)
              clear hK K
              refine norm_ (a' := ?_) ?_ ?_
              rotate_left
              ·
               show Act.put _ (some 60) _ = _
               simp only [Act.put, List.setIfInBounds_toArray, List.set_cons_zero, List.set_cons_succ, i64_w, i32_w]
               rfl
              refine pure_ (i := 11) (N := some 61) (v := ?_) (a' := ?_) #[true, true, true, true, true, true, true, true, true, true, true, true, true, false, false, false, false, false, false, false] rfl rfl (any_of HT_.out (by kernel_rfl)) (fun _ _ _ h => h) (Or.inl ⟨by rfl, ?_⟩) ?_ ?_
              rotate_left
              ·
               intro w'
               go_simp
               with_reducible rfl
              rotate_left
              ·
               simp only [Act.put, List.setIfInBounds_toArray, List.set_cons_zero, List.set_cons_succ, i64_w, i32_w]
               rfl
              refine two_ (i := 13) (j := 17) (Ni := some 63) (Nj := some 15) #[true, true, true, true, true, true, true, true, true, true, true, true, true, true, false, false, false, false, false, false] #[true, true, true, true, true, true, true, true, true, true, true, true, true, false, false, false, false, true, false, false] rfl rfl rfl rfl (two_of HT_.out (by kernel_rfl)) (by decide) (by decide) (fun K hK => ?_) (fun K hK => ?_)
              ·
               skip
               refine goes_ Try.func23 (by kernel_rfl) rfl #[.agg #[.string a0_0, .slice A0_1 l0_1.length c0_1], .agg #[.string x285000_1, .string x285001_1, .int .i64 x285002_1, .int .i64 x285003_1, .int .i64 x285004_1, .int .i64 x285005_1, .bool x285006_1], .int .i64 t296, .int .i64 t297, .int .i64 (wrap64 (1 + t314)), .int .i64 a2] (by rfl) rfl rfl (by (try simp only [List.map_toArray, List.map_cons, List.map_nil]); first | done | rfl | (simp only [List.length_drop, List.length_take]; rfl)) ?_
               with_reducible refine (saga_Reply.calls kj13 a0_0 _ _ l0_1 x285000_1 x285001_1 x285002_1 x285003_1 x285004_1 x285005_1 x285006_1 t296 t297 (wrap64 (1 + t314)) a2 t315 t316 t317 t318 t319 t320 t321 true _ ?side1 ?side2 A23.out).mono ?_
               (case side1 => repeat (first | exact (Kd.C_below HR0_1.out (Yr HB)) | (with_reducible refine Kd.C_alloc ?_ _) | (with_reducible refine Kd.C_drewN ?_ _) | (with_reducible refine Kd.C_drew ?_)))
               (case side2 => exact HC0_1.out)
               rintro e w36 ⟨rfl, hb⟩
               refine ⟨_, rfl, ?_⟩
               have n0_ := Aside0.mk (Kd.R_below (by (with_reducible repeat (first | apply Kd.R_alloc | apply Kd.R_drewN | apply Kd.R_drew)); exact HO312.out) hb)
               have n1_ := Aside0.mk (Zv BK274 hb)
               have n2_ := Aside0.mk (Zv BK275 hb)
               have n3_ := Aside0.mk (Zv BK284 hb)
               have n4_ := Aside0.mk (Zv BK300 hb)
               have n5_ := Aside0.mk (Yv HB hb)
               clear HO312
               clear BK274
               clear BK275
               clear BK284
               clear BK300
               clear HB
               have HO312 := n0_
               have BK274 := n1_
               have BK275 := n2_
               have BK284 := n3_
               have BK300 := n4_
               have HB := n5_
               clear n0_ n1_ n2_ n3_ n4_ n5_
               (try clear hb)
               (try clear hb2)
               (try clear hk)
               (try clear hi)
               refine hK.out _ _ ⟨(Zc BK274.out 0).trans rfl, (Zc BK274.out 1).trans rfl, (Zc BK284.out 0).trans rfl, (Zc BK284.out 1).trans rfl, (Zc BK284.out 2).trans rfl, (Zc BK284.out 3).trans rfl, (Zc BK284.out 4).trans rfl, (Zc BK284.out 5).trans rfl, (Zc BK284.out 6).trans rfl, (Zc BK300.out 0).trans rfl, (Zc BK300.out 1).trans rfl, (Zc BK300.out 2).trans rfl, (Zc BK300.out 3).trans rfl, ((HB.out.cell (World.block_lt_of_cell? w _ hw313_0)).trans hw313_0)⟩ (fun hHeld => ?_)
               clear hK K
               refine norm_ (a' := ?_) ?_ ?_
               rotate_left
               ·
                show Act.put _ (some 63) _ = _
                simp only [Act.put, List.setIfInBounds_toArray, List.set_cons_zero, List.set_cons_succ, i64_w, i32_w]
                rfl
               refine pure_ (i := 14) (N := some 49) (v := ?_) (a' := ?_) #[true, true, true, true, true, true, true, true, true, true, true, true, true, true, true, false, false, false, false, false] rfl rfl (any_of HT_.out (by kernel_rfl)) (fun _ _ _ h => h) (Or.inl ⟨by rfl, ?_⟩) ?_ ?_
               rotate_left
               ·
                intro w'
                go_simp
                with_reducible rfl
               rotate_left
               ·
                simp only [Act.put, List.setIfInBounds_toArray, List.set_cons_zero, List.set_cons_succ, i64_w, i32_w]
                rfl
               refine pure_ (i := 15) (N := some 64) (v := ?_) (a' := ?_) #[true, true, true, true, true, true, true, true, true, true, true, true, true, true, true, true, false, false, false, false] rfl rfl (any_of HT_.out (by kernel_rfl)) (fun _ _ _ h => h) (Or.inl ⟨by rfl, ?_⟩) ?_ ?_
               rotate_left
               ·
                intro w'
                go_simp
                with_reducible rfl
               rotate_left
               ·
                simp only [Act.put, List.setIfInBounds_toArray, List.set_cons_zero, List.set_cons_succ, i64_w, i32_w]
                rfl
               refine pure_ (i := 16) (N := some 65) (v := ?_) (a' := ?_) #[true, true, true, true, true, true, true, true, true, true, true, true, true, true, true, true, true, false, false, false] rfl rfl (any_of HT_.out (by kernel_rfl)) (fun _ _ _ h => h) (Or.inl ⟨by rfl, ?_⟩) ?_ ?_
               rotate_left
               ·
                intro w'
                go_simp
                with_reducible rfl
               rotate_left
               ·
                simp only [Act.put, List.setIfInBounds_toArray, List.set_cons_zero, List.set_cons_succ, i64_w, i32_w]
                rfl
               refine one_ (i := 17) (N := some 15) #[true, true, true, true, true, true, true, true, true, true, true, true, true, true, true, true, true, true, false, false] rfl rfl (one_of HT_.out (by kernel_rfl)) (by decide) (fun K hK => ?_)
               refine box_step ?hg (N := 15) ?hd (cs := #[.string (⟨#[]⟩ : ByteArray), .string (⟨#[]⟩ : ByteArray), .int .i64 0, .int .i64 0, .int .i64 0, .int .i64 0, .bool false]) (t := 26) ?hr ?_; (case hd => rfl); (case hg => rfl); (case hr => first | (go_simp; done) | (go_simp; rfl))
               intro gb323 hg w37 hbox hb
               have n0_ := Aside0.mk (Kd.R_below (by (with_reducible repeat (first | apply Kd.R_alloc | apply Kd.R_drewN | apply Kd.R_drew)); exact HO312.out) hb)
               have n1_ := Aside0.mk (Zv BK274 hb)
               have n2_ := Aside0.mk (Zv BK275 hb)
               have n3_ := Aside0.mk (Zv BK284 hb)
               have n4_ := Aside0.mk (Zv BK300 hb)
               have n5_ := Aside0.mk (Yv HB hb)
               have n6_ := Aside0.mk (hbox)
               have n7_ := Aside0.mk (Yg HB hg)
               have n8_ := Aside0.mk (Yg HB hg)
               have n9_ := Aside0.mk (Zl BK274 hg)
               have n10_ := Aside0.mk (Zg BK274 hg)
               have n11_ := Aside0.mk (Zl BK275 hg)
               have n12_ := Aside0.mk (Zg BK275 hg)
               have n13_ := Aside0.mk (Zl BK284 hg)
               have n14_ := Aside0.mk (Zg BK284 hg)
               have n15_ := Aside0.mk (Zl BK300 hg)
               have n16_ := Aside0.mk (Zg BK300 hg)
               clear HO312
               clear BK274
               clear BK275
               clear BK284
               clear BK300
               clear HB
               have HO312 := n0_
               have BK274 := n1_
               have BK275 := n2_
               have BK284 := n3_
               have BK300 := n4_
               have HB := n5_
               have BK323 := n6_
               have GW323 := n7_
               have GE323 := n8_
               have NB274_323 := n9_
               have NB323_274 := n10_
               have NB275_323 := n11_
               have NB323_275 := n12_
               have NB284_323 := n13_
               have NB323_284 := n14_
               have NB300_323 := n15_
               have NB323_300 := n16_
               clear n0_ n1_ n2_ n3_ n4_ n5_ n6_ n7_ n8_ n9_ n10_ n11_ n12_ n13_ n14_ n15_ n16_
               clear hb hbox hg
               refine hK.out _ _ ⟨(Zc BK274.out 0).trans rfl, (Zc BK274.out 1).trans rfl, (Zc BK284.out 0).trans rfl, (Zc BK284.out 1).trans rfl, (Zc BK284.out 2).trans rfl, (Zc BK284.out 3).trans rfl, (Zc BK284.out 4).trans rfl, (Zc BK284.out 5).trans rfl, (Zc BK284.out 6).trans rfl, (Zc BK300.out 0).trans rfl, (Zc BK300.out 1).trans rfl, (Zc BK300.out 2).trans rfl, (Zc BK300.out 3).trans rfl, ((HB.out.cell (World.block_lt_of_cell? w _ hw313_0)).trans hw313_0)⟩ (fun hHeld => ?_)
               clear hK K
               refine norm_ (a' := ?_) ?_ ?_
               rotate_left
               ·
                show Act.put _ (some 15) _ = _
                simp only [Act.put, List.setIfInBounds_toArray, List.set_cons_zero, List.set_cons_succ, i64_w, i32_w]
                rfl
               exact norm_ (by simp only [putAll, Act.put, List.setIfInBounds_toArray, List.set_cons_zero, List.set_cons_succ]) (hCont (gb323) _ ⟨hHeld, (by (with_reducible repeat (first | apply Kd.R_alloc | apply Kd.R_drewN | apply Kd.R_drew)); exact HO312.out), (Zr BK274), (Zr BK275), (Zr BK284), (Zr BK300), (Zr BK323), GW323.out, GE323.out, NB274_323.out, NB323_274.out, NB275_323.out, NB323_275.out, NB284_323.out, NB323_284.out, NB300_323.out, NB323_300.out, (Yr HB)⟩)
              ·
               skip
               refine box_step ?hg (N := 15) ?hd (cs := #[.string (⟨#[]⟩ : ByteArray), .string (⟨#[]⟩ : ByteArray), .int .i64 0, .int .i64 0, .int .i64 0, .int .i64 0, .bool false]) (t := 26) ?hr ?_; (case hd => rfl); (case hg => rfl); (case hr => first | (go_simp; done) | (go_simp; rfl))
               intro gb323 hg w36 hbox hb
               have n0_ := Aside0.mk (Kd.R_below (by (with_reducible repeat (first | apply Kd.R_alloc | apply Kd.R_drewN | apply Kd.R_drew)); exact HO312.out) hb)
               have n1_ := Aside0.mk (Zv BK274 hb)
               have n2_ := Aside0.mk (Zv BK275 hb)
               have n3_ := Aside0.mk (Zv BK284 hb)
               have n4_ := Aside0.mk (Zv BK300 hb)
               have n5_ := Aside0.mk (Yv HB hb)
               have n6_ := Aside0.mk (hbox)
               have n7_ := Aside0.mk (Yg HB hg)
               have n8_ := Aside0.mk (Yg HB hg)
               have n9_ := Aside0.mk (Zl BK274 hg)
               have n10_ := Aside0.mk (Zg BK274 hg)
               have n11_ := Aside0.mk (Zl BK275 hg)
               have n12_ := Aside0.mk (Zg BK275 hg)
               have n13_ := Aside0.mk (Zl BK284 hg)
               have n14_ := Aside0.mk (Zg BK284 hg)
               have n15_ := Aside0.mk (Zl BK300 hg)
               have n16_ := Aside0.mk (Zg BK300 hg)
               clear HO312
               clear BK274
               clear BK275
               clear BK284
               clear BK300
               clear HB
               have HO312 := n0_
               have BK274 := n1_
               have BK275 := n2_
               have BK284 := n3_
               have BK300 := n4_
               have HB := n5_
               have BK323 := n6_
               have GW323 := n7_
               have GE323 := n8_
               have NB274_323 := n9_
               have NB323_274 := n10_
               have NB275_323 := n11_
               have NB323_275 := n12_
               have NB284_323 := n13_
               have NB323_284 := n14_
               have NB300_323 := n15_
               have NB323_300 := n16_
               clear n0_ n1_ n2_ n3_ n4_ n5_ n6_ n7_ n8_ n9_ n10_ n11_ n12_ n13_ n14_ n15_ n16_
               clear hb hbox hg
               refine hK.out _ _ ⟨(Zc BK274.out 0).trans rfl, (Zc BK274.out 1).trans rfl, (Zc BK284.out 0).trans rfl, (Zc BK284.out 1).trans rfl, (Zc BK284.out 2).trans rfl, (Zc BK284.out 3).trans rfl, (Zc BK284.out 4).trans rfl, (Zc BK284.out 5).trans rfl, (Zc BK284.out 6).trans rfl, (Zc BK300.out 0).trans rfl, (Zc BK300.out 1).trans rfl, (Zc BK300.out 2).trans rfl, (Zc BK300.out 3).trans rfl, ((HB.out.cell (World.block_lt_of_cell? w _ hw313_0)).trans hw313_0)⟩ (fun hHeld => ?_)
               clear hK K
               refine norm_ (a' := ?_) ?_ ?_
               rotate_left
               ·
                show Act.put _ (some 15) _ = _
                simp only [Act.put, List.setIfInBounds_toArray, List.set_cons_zero, List.set_cons_succ, i64_w, i32_w]
                rfl
               refine one_ (i := 13) (N := some 63) #[true, true, true, true, true, true, true, true, true, true, true, true, true, true, false, false, false, true, false, false] rfl rfl (one_of HT_.out (by kernel_rfl)) (by decide) (fun K hK => ?_)
               refine goes_ Try.func23 (by kernel_rfl) rfl #[.agg #[.string a0_0, .slice A0_1 l0_1.length c0_1], .agg #[.string x285000_1, .string x285001_1, .int .i64 x285002_1, .int .i64 x285003_1, .int .i64 x285004_1, .int .i64 x285005_1, .bool x285006_1], .int .i64 t296, .int .i64 t297, .int .i64 (wrap64 (1 + t314)), .int .i64 a2] (by rfl) rfl rfl (by (try simp only [List.map_toArray, List.map_cons, List.map_nil]); first | done | rfl | (simp only [List.length_drop, List.length_take]; rfl)) ?_
               with_reducible refine (saga_Reply.calls kj13 a0_0 _ _ l0_1 x285000_1 x285001_1 x285002_1 x285003_1 x285004_1 x285005_1 x285006_1 t296 t297 (wrap64 (1 + t314)) a2 t315 t316 t317 t318 t319 t320 t321 true _ ?side1 ?side2 A23.out).mono ?_
               (case side1 => repeat (first | exact (Kd.C_below HR0_1.out HB.out) | (with_reducible refine Kd.C_alloc ?_ _) | (with_reducible refine Kd.C_drewN ?_ _) | (with_reducible refine Kd.C_drew ?_)))
               (case side2 => exact HC0_1.out)
               rintro e w37 ⟨rfl, hb⟩
               refine ⟨_, rfl, ?_⟩
               have n0_ := Aside0.mk (Kd.R_below (by (with_reducible repeat (first | apply Kd.R_alloc | apply Kd.R_drewN | apply Kd.R_drew)); exact HO312.out) hb)
               have n1_ := Aside0.mk (Zv BK274 hb)
               have n2_ := Aside0.mk (Zv BK275 hb)
               have n3_ := Aside0.mk (Zv BK284 hb)
               have n4_ := Aside0.mk (Zv BK300 hb)
               have n5_ := Aside0.mk (Zv BK323 hb)
               have n6_ := Aside0.mk (Yv HB hb)
               clear HO312
               clear BK274
               clear BK275
               clear BK284
               clear BK300
               clear BK323
               clear HB
               have HO312 := n0_
               have BK274 := n1_
               have BK275 := n2_
               have BK284 := n3_
               have BK300 := n4_
               have BK323 := n5_
               have HB := n6_
               clear n0_ n1_ n2_ n3_ n4_ n5_ n6_
               (try clear hb)
               (try clear hb2)
               (try clear hk)
               (try clear hi)
               refine hK.out _ _ ⟨(Zc BK274.out 0).trans rfl, (Zc BK274.out 1).trans rfl, (Zc BK284.out 0).trans rfl, (Zc BK284.out 1).trans rfl, (Zc BK284.out 2).trans rfl, (Zc BK284.out 3).trans rfl, (Zc BK284.out 4).trans rfl, (Zc BK284.out 5).trans rfl, (Zc BK284.out 6).trans rfl, (Zc BK300.out 0).trans rfl, (Zc BK300.out 1).trans rfl, (Zc BK300.out 2).trans rfl, (Zc BK300.out 3).trans rfl, ((HB.out.cell (World.block_lt_of_cell? w _ hw313_0)).trans hw313_0)⟩ (fun hHeld => ?_)
               clear hK K
               refine norm_ (a' := ?_) ?_ ?_
               rotate_left
               ·
                show Act.put _ (some 63) _ = _
                simp only [Act.put, List.setIfInBounds_toArray, List.set_cons_zero, List.set_cons_succ, i64_w, i32_w]
                rfl
               refine pure_ (i := 14) (N := some 49) (v := ?_) (a' := ?_) #[true, true, true, true, true, true, true, true, true, true, true, true, true, true, true, false, false, true, false, false] rfl rfl (any_of HT_.out (by kernel_rfl)) (fun _ _ _ h => h) (Or.inl ⟨by rfl, ?_⟩) ?_ ?_
               rotate_left
               ·
                intro w'
                go_simp
                with_reducible rfl
               rotate_left
               ·
                simp only [Act.put, List.setIfInBounds_toArray, List.set_cons_zero, List.set_cons_succ, i64_w, i32_w]
                rfl
               refine pure_ (i := 15) (N := some 64) (v := ?_) (a' := ?_) #[true, true, true, true, true, true, true, true, true, true, true, true, true, true, true, true, false, true, false, false] rfl rfl (any_of HT_.out (by kernel_rfl)) (fun _ _ _ h => h) (Or.inl ⟨by rfl, ?_⟩) ?_ ?_
               rotate_left
               ·
                intro w'
                go_simp
                with_reducible rfl
               rotate_left
               ·
                simp only [Act.put, List.setIfInBounds_toArray, List.set_cons_zero, List.set_cons_succ, i64_w, i32_w]
                rfl
               refine pure_ (i := 16) (N := some 65) (v := ?_) (a' := ?_) #[true, true, true, true, true, true, true, true, true, true, true, true, true, true, true, true, true, true, false, false] rfl rfl (any_of HT_.out (by kernel_rfl)) (fun _ _ _ h => h) (Or.inl ⟨by rfl, ?_⟩) ?_ ?_
               rotate_left
               ·
                intro w'
                go_simp
                with_reducible rfl
               rotate_left
               ·
                simp only [Act.put, List.setIfInBounds_toArray, List.set_cons_zero, List.set_cons_succ, i64_w, i32_w]
                rfl
               exact norm_ (by simp only [putAll, Act.put, List.setIfInBounds_toArray, List.set_cons_zero, List.set_cons_succ]) (hCont (gb323) _ ⟨hHeld, (by (with_reducible repeat (first | apply Kd.R_alloc | apply Kd.R_drewN | apply Kd.R_drew)); exact HO312.out), (Zr BK274), (Zr BK275), (Zr BK284), (Zr BK300), (Zr BK323), GW323.out, GE323.out, NB274_323.out, NB323_274.out, NB275_323.out, NB323_275.out, NB284_323.out, NB323_284.out, NB300_323.out, NB323_300.out, (Yr HB)⟩)
             ·
              skip
              refine box_step ?hg (N := 15) ?hd (cs := #[.string (⟨#[]⟩ : ByteArray), .string (⟨#[]⟩ : ByteArray), .int .i64 0, .int .i64 0, .int .i64 0, .int .i64 0, .bool false]) (t := 26) ?hr ?_; (case hd => rfl); (case hg => rfl); (case hr => first | (go_simp; done) | (go_simp; rfl))
              intro gb323 hg w36 hbox hb
              have n0_ := Aside0.mk (Kd.R_below (by (with_reducible repeat (first | apply Kd.R_alloc | apply Kd.R_drewN | apply Kd.R_drew)); exact HO312.out) hb)
              have n1_ := Aside0.mk (Zv BK274 hb)
              have n2_ := Aside0.mk (Zv BK275 hb)
              have n3_ := Aside0.mk (Zv BK284 hb)
              have n4_ := Aside0.mk (Zv BK300 hb)
              have n5_ := Aside0.mk (Yv HB hb)
              have n6_ := Aside0.mk (hbox)
              have n7_ := Aside0.mk (Yg HB hg)
              have n8_ := Aside0.mk (Yg HB hg)
              have n9_ := Aside0.mk (Zl BK274 hg)
              have n10_ := Aside0.mk (Zg BK274 hg)
              have n11_ := Aside0.mk (Zl BK275 hg)
              have n12_ := Aside0.mk (Zg BK275 hg)
              have n13_ := Aside0.mk (Zl BK284 hg)
              have n14_ := Aside0.mk (Zg BK284 hg)
              have n15_ := Aside0.mk (Zl BK300 hg)
              have n16_ := Aside0.mk (Zg BK300 hg)
              clear HO312
              clear BK274
              clear BK275
              clear BK284
              clear BK300
              clear HB
              have HO312 := n0_
              have BK274 := n1_
              have BK275 := n2_
              have BK284 := n3_
              have BK300 := n4_
              have HB := n5_
              have BK323 := n6_
              have GW323 := n7_
              have GE323 := n8_
              have NB274_323 := n9_
              have NB323_274 := n10_
              have NB275_323 := n11_
              have NB323_275 := n12_
              have NB284_323 := n13_
              have NB323_284 := n14_
              have NB300_323 := n15_
              have NB323_300 := n16_
              clear n0_ n1_ n2_ n3_ n4_ n5_ n6_ n7_ n8_ n9_ n10_ n11_ n12_ n13_ n14_ n15_ n16_
              clear hb hbox hg
              refine hK.out _ _ ⟨(Zc BK274.out 0).trans rfl, (Zc BK274.out 1).trans rfl, (Zc BK284.out 0).trans rfl, (Zc BK284.out 1).trans rfl, (Zc BK284.out 2).trans rfl, (Zc BK284.out 3).trans rfl, (Zc BK284.out 4).trans rfl, (Zc BK284.out 5).trans rfl, (Zc BK284.out 6).trans rfl, (Zc BK300.out 0).trans rfl, (Zc BK300.out 1).trans rfl, (Zc BK300.out 2).trans rfl, (Zc BK300.out 3).trans rfl, ((HB.out.cell (World.block_lt_of_cell? w _ hw313_0)).trans hw313_0)⟩ (fun hHeld => ?_)
              clear hK K
              refine norm_ (a' := ?_) ?_ ?_
              rotate_left
              ·
               show Act.put _ (some 15) _ = _
               simp only [Act.put, List.setIfInBounds_toArray, List.set_cons_zero, List.set_cons_succ, i64_w, i32_w]
               rfl
              refine one_ (i := 10) (N := some 60) #[true, true, true, true, true, true, true, true, true, true, true, false, true, false, false, false, false, true, false, false] rfl rfl (one_of HT_.out (by kernel_rfl)) (by decide) (fun K hK => ?_)
              refine goes_ Try.func27 (by kernel_rfl) rfl #[.int .i64 (rd l1 x12_1), .int .i64 3] (by rfl) rfl rfl (by (try simp only [List.map_toArray, List.map_cons, List.map_nil]); first | done | rfl | (simp only [List.length_drop, List.length_take]; rfl)) ?_
              with_reducible refine (palinodelaw19_pick.calls (rd l1 x12_1) 3 t314 _ A22.out).mono ?_
              rintro e w' ⟨rfl, ⟨nd, rfl⟩⟩
              refine ⟨_, rfl, ?_⟩
              refine hK.out _ _ ⟨(Zc BK274.out 0).trans rfl, (Zc BK274.out 1).trans rfl, (Zc BK284.out 0).trans rfl, (Zc BK284.out 1).trans rfl, (Zc BK284.out 2).trans rfl, (Zc BK284.out 3).trans rfl, (Zc BK284.out 4).trans rfl, (Zc BK284.out 5).trans rfl, (Zc BK284.out 6).trans rfl, (Zc BK300.out 0).trans rfl, (Zc BK300.out 1).trans rfl, (Zc BK300.out 2).trans rfl, (Zc BK300.out 3).trans rfl, ((HB.out.cell (World.block_lt_of_cell? w _ hw313_0)).trans hw313_0)⟩ (fun hHeld => ?_)
              clear hK K
              refine norm_ (a' := ?_) ?_ ?_
              rotate_left
              ·
               show Act.put _ (some 60) _ = _
               simp only [Act.put, List.setIfInBounds_toArray, List.set_cons_zero, List.set_cons_succ, i64_w, i32_w]
               rfl
              refine pure_ (i := 11) (N := some 61) (v := ?_) (a' := ?_) #[true, true, true, true, true, true, true, true, true, true, true, true, true, false, false, false, false, true, false, false] rfl rfl (any_of HT_.out (by kernel_rfl)) (fun _ _ _ h => h) (Or.inl ⟨by rfl, ?_⟩) ?_ ?_
              rotate_left
              ·
               intro w'
               go_simp
               with_reducible rfl
              rotate_left
              ·
               simp only [Act.put, List.setIfInBounds_toArray, List.set_cons_zero, List.set_cons_succ, i64_w, i32_w]
               rfl
              refine one_ (i := 13) (N := some 63) #[true, true, true, true, true, true, true, true, true, true, true, true, true, true, false, false, false, true, false, false] rfl rfl (one_of HT_.out (by kernel_rfl)) (by decide) (fun K hK => ?_)
              refine goes_ Try.func23 (by kernel_rfl) rfl #[.agg #[.string a0_0, .slice A0_1 l0_1.length c0_1], .agg #[.string x285000_1, .string x285001_1, .int .i64 x285002_1, .int .i64 x285003_1, .int .i64 x285004_1, .int .i64 x285005_1, .bool x285006_1], .int .i64 t296, .int .i64 t297, .int .i64 (wrap64 (1 + t314)), .int .i64 a2] (by rfl) rfl rfl (by (try simp only [List.map_toArray, List.map_cons, List.map_nil]); first | done | rfl | (simp only [List.length_drop, List.length_take]; rfl)) ?_
              with_reducible refine (saga_Reply.calls kj13 a0_0 _ _ l0_1 x285000_1 x285001_1 x285002_1 x285003_1 x285004_1 x285005_1 x285006_1 t296 t297 (wrap64 (1 + t314)) a2 t315 t316 t317 t318 t319 t320 t321 true _ ?side1 ?side2 A23.out).mono ?_
              (case side1 => repeat (first | exact (Kd.C_below HR0_1.out (Yr HB)) | (with_reducible refine Kd.C_alloc ?_ _) | (with_reducible refine Kd.C_drewN ?_ _) | (with_reducible refine Kd.C_drew ?_)))
              (case side2 => exact HC0_1.out)
              rintro e w37 ⟨rfl, hb⟩
              refine ⟨_, rfl, ?_⟩
              have n0_ := Aside0.mk (Kd.R_below (by (with_reducible repeat (first | apply Kd.R_alloc | apply Kd.R_drewN | apply Kd.R_drew)); exact HO312.out) hb)
              have n1_ := Aside0.mk (Zv BK274 hb)
              have n2_ := Aside0.mk (Zv BK275 hb)
              have n3_ := Aside0.mk (Zv BK284 hb)
              have n4_ := Aside0.mk (Zv BK300 hb)
              have n5_ := Aside0.mk (Zv BK323 hb)
              have n6_ := Aside0.mk (Yv HB hb)
              clear HO312
              clear BK274
              clear BK275
              clear BK284
              clear BK300
              clear BK323
              clear HB
              have HO312 := n0_
              have BK274 := n1_
              have BK275 := n2_
              have BK284 := n3_
              have BK300 := n4_
              have BK323 := n5_
              have HB := n6_
              clear n0_ n1_ n2_ n3_ n4_ n5_ n6_
              (try clear hb)
              (try clear hb2)
              (try clear hk)
              (try clear hi)
              refine hK.out _ _ ⟨(Zc BK274.out 0).trans rfl, (Zc BK274.out 1).trans rfl, (Zc BK284.out 0).trans rfl, (Zc BK284.out 1).trans rfl, (Zc BK284.out 2).trans rfl, (Zc BK284.out 3).trans rfl, (Zc BK284.out 4).trans rfl, (Zc BK284.out 5).trans rfl, (Zc BK284.out 6).trans rfl, (Zc BK300.out 0).trans rfl, (Zc BK300.out 1).trans rfl, (Zc BK300.out 2).trans rfl, (Zc BK300.out 3).trans rfl, ((HB.out.cell (World.block_lt_of_cell? w _ hw313_0)).trans hw313_0)⟩ (fun hHeld => ?_)
              clear hK K
              refine norm_ (a' := ?_) ?_ ?_
              rotate_left
              ·
               show Act.put _ (some 63) _ = _
               simp only [Act.put, List.setIfInBounds_toArray, List.set_cons_zero, List.set_cons_succ, i64_w, i32_w]
               rfl
              refine pure_ (i := 14) (N := some 49) (v := ?_) (a' := ?_) #[true, true, true, true, true, true, true, true, true, true, true, true, true, true, true, false, false, true, false, false] rfl rfl (any_of HT_.out (by kernel_rfl)) (fun _ _ _ h => h) (Or.inl ⟨by rfl, ?_⟩) ?_ ?_
              rotate_left
              ·
               intro w'
               go_simp
               with_reducible rfl
              rotate_left
              ·
               simp only [Act.put, List.setIfInBounds_toArray, List.set_cons_zero, List.set_cons_succ, i64_w, i32_w]
               rfl
              refine pure_ (i := 15) (N := some 64) (v := ?_) (a' := ?_) #[true, true, true, true, true, true, true, true, true, true, true, true, true, true, true, true, false, true, false, false] rfl rfl (any_of HT_.out (by kernel_rfl)) (fun _ _ _ h => h) (Or.inl ⟨by rfl, ?_⟩) ?_ ?_
              rotate_left
              ·
               intro w'
               go_simp
               with_reducible rfl
              rotate_left
              ·
               simp only [Act.put, List.setIfInBounds_toArray, List.set_cons_zero, List.set_cons_succ, i64_w, i32_w]
               rfl
              refine pure_ (i := 16) (N := some 65) (v := ?_) (a' := ?_) #[true, true, true, true, true, true, true, true, true, true, true, true, true, true, true, true, true, true, false, false] rfl rfl (any_of HT_.out (by kernel_rfl)) (fun _ _ _ h => h) (Or.inl ⟨by rfl, ?_⟩) ?_ ?_
              rotate_left
              ·
               intro w'
               go_simp
               with_reducible rfl
              rotate_left
              ·
               simp only [Act.put, List.setIfInBounds_toArray, List.set_cons_zero, List.set_cons_succ, i64_w, i32_w]
               rfl
              exact norm_ (by simp only [putAll, Act.put, List.setIfInBounds_toArray, List.set_cons_zero, List.set_cons_succ]) (hCont (gb323) _ ⟨hHeld, (by (with_reducible repeat (first | apply Kd.R_alloc | apply Kd.R_drewN | apply Kd.R_drew)); exact HO312.out), (Zr BK274), (Zr BK275), (Zr BK284), (Zr BK300), (Zr BK323), GW323.out, GE323.out, NB274_323.out, NB323_274.out, NB275_323.out, NB323_275.out, NB284_323.out, NB323_284.out, NB300_323.out, NB323_300.out, (Yr HB)⟩)
            rintro gb323 w38 ⟨hS_, h0_, h1_, h2_, h3_, h4_, h5_, h6_, h7_, h8_, h9_, h10_, h11_, h12_, h13_, h14_, h15_, h16_⟩
            have n0_ : Aside0 (Kd.R k35 35 w38 w.heap.size (fun k_ => k_ ≠ gb300) v311 y310) := ⟨h0_⟩
            have n1_ : Aside0 (w38.heap[gb274]? = some (.cells #[.string a0_0, .slice A0_1 l0_1.length c0_1] 24 (0, 0))) := ⟨h1_⟩
            have n2_ : Aside0 (w38.heap[gb275]? = some (.cells #[.string x276000_1, .string x276001_1, .int .i64 x276002_1, .int .i64 x276003_1, .int .i64 x276004_1, .int .i64 x276005_1, .bool x276006_1] 26 (0, 0))) := ⟨h2_⟩
            have n3_ : Aside0 (w38.heap[gb284]? = some (.cells #[.string x285000_1, .string x285001_1, .int .i64 x285002_1, .int .i64 x285003_1, .int .i64 x285004_1, .int .i64 x285005_1, .bool x285006_1] 26 (0, 0))) := ⟨h3_⟩
            have n4_ : Aside0 (w38.heap[gb300]? = some (.cells #[.string t295, .int .i64 t296, .int .i64 t297, .int .i64 t298] 35 (0, 0))) := ⟨h4_⟩
            have n5_ : Aside0 (w38.heap[gb323]? = some (.cells #[.string (⟨#[]⟩ : ByteArray), .string (⟨#[]⟩ : ByteArray), .int .i64 0, .int .i64 0, .int .i64 0, .int .i64 0, .bool false] 26 (0, 0))) := ⟨h5_⟩
            have n6_ : Aside0 (w.heap.size ≤ gb323) := ⟨h6_⟩
            have n7_ : Aside0 (w.heap.size ≤ gb323) := ⟨h7_⟩
            have n8_ : Aside0 (gb274 ≠ gb323) := ⟨h8_⟩
            have n9_ : Aside0 (gb323 ≠ gb274) := ⟨h9_⟩
            have n10_ : Aside0 (gb275 ≠ gb323) := ⟨h10_⟩
            have n11_ : Aside0 (gb323 ≠ gb275) := ⟨h11_⟩
            have n12_ : Aside0 (gb284 ≠ gb323) := ⟨h12_⟩
            have n13_ : Aside0 (gb323 ≠ gb284) := ⟨h13_⟩
            have n14_ : Aside0 (gb300 ≠ gb323) := ⟨h14_⟩
            have n15_ : Aside0 (gb323 ≠ gb300) := ⟨h15_⟩
            have n16_ : Aside0 (Below w.heap.size w w38) := ⟨h16_⟩
            clear HO312
            clear BK274
            clear BK275
            clear BK284
            clear BK300
            clear HB
            clear h0_ h1_ h2_ h3_ h4_ h5_ h6_ h7_ h8_ h9_ h10_ h11_ h12_ h13_ h14_ h15_ h16_
            have HO312 := n0_
            have BK274 := n1_
            have BK275 := n2_
            have BK284 := n3_
            have BK300 := n4_
            have BK323 := n5_
            have GW323 := n6_
            have GE323 := n7_
            have NB274_323 := n8_
            have NB323_274 := n9_
            have NB275_323 := n10_
            have NB323_275 := n11_
            have NB284_323 := n12_
            have NB323_284 := n13_
            have NB300_323 := n14_
            have NB323_300 := n15_
            have HB := n16_
            clear n0_ n1_ n2_ n3_ n4_ n5_ n6_ n7_ n8_ n9_ n10_ n11_ n12_ n13_ n14_ n15_ n16_
            have hHeld : w38.cell? ⟨gb274, 0, none⟩ = some (.string a0_0) ∧ w38.cell? ⟨gb274, 1, none⟩ = some (.slice A0_1 l0_1.length c0_1) ∧ w38.cell? ⟨gb284, 0, none⟩ = some (.string x285000_1) ∧ w38.cell? ⟨gb284, 1, none⟩ = some (.string x285001_1) ∧ w38.cell? ⟨gb284, 2, none⟩ = some (.int .i64 x285002_1) ∧ w38.cell? ⟨gb284, 3, none⟩ = some (.int .i64 x285003_1) ∧ w38.cell? ⟨gb284, 4, none⟩ = some (.int .i64 x285004_1) ∧ w38.cell? ⟨gb284, 5, none⟩ = some (.int .i64 x285005_1) ∧ w38.cell? ⟨gb284, 6, none⟩ = some (.bool x285006_1) ∧ w38.cell? ⟨gb300, 0, none⟩ = some (.string t295) ∧ w38.cell? ⟨gb300, 1, none⟩ = some (.int .i64 t296) ∧ w38.cell? ⟨gb300, 2, none⟩ = some (.int .i64 t297) ∧ w38.cell? ⟨gb300, 3, none⟩ = some (.int .i64 t298) ∧ w38.cell? (ad313.add (x12_1).toNat) = some (.int .i64 (rd l1 x12_1)) := hS_
            refine norm_ (a' := ?_) ?_ ?_
            rotate_left
            ·
             simp only [putAll, Act.put, List.setIfInBounds_toArray, List.set_cons_zero, List.set_cons_succ]
             rfl
            refine one_ (i := 18) (N := none) #[true, true, true, true, true, true, true, true, true, true, true, true, true, true, true, true, true, true, true, false] rfl rfl (one_of HT_.out (by kernel_rfl)) (by decide) (fun K hK => ?_)
            have hs39 : w38.cell? ⟨gb323, 0, none⟩ = some (.string (⟨#[]⟩ : ByteArray)) := (Zc BK323.out 0).trans rfl
            have hfs39 := Zf BK323.out 0
            obtain ⟨hns39_0, hms39_0⟩ := Zo NB274_323
            obtain ⟨hns39_1, hms39_1⟩ := Zo NB275_323
            obtain ⟨hns39_2, hms39_2⟩ := Zo NB284_323
            obtain ⟨hns39_3, hms39_3⟩ := Zo NB300_323
            have hs40 : w38.cell? ⟨gb323, 1, none⟩ = some (.string (⟨#[]⟩ : ByteArray)) := (Zc BK323.out 1).trans rfl
            have hfs40 := Zf BK323.out 1
            obtain ⟨hns40_0, hms40_0⟩ := Zo NB274_323
            obtain ⟨hns40_1, hms40_1⟩ := Zo NB275_323
            obtain ⟨hns40_2, hms40_2⟩ := Zo NB284_323
            obtain ⟨hns40_3, hms40_3⟩ := Zo NB300_323
            have hs41 : w38.cell? ⟨gb323, 2, none⟩ = some (.int .i64 0) := (Zc BK323.out 2).trans rfl
            have hfs41 := Zf BK323.out 2
            obtain ⟨hns41_0, hms41_0⟩ := Zo NB274_323
            obtain ⟨hns41_1, hms41_1⟩ := Zo NB275_323
            obtain ⟨hns41_2, hms41_2⟩ := Zo NB284_323
            obtain ⟨hns41_3, hms41_3⟩ := Zo NB300_323
            have hs42 : w38.cell? ⟨gb323, 3, none⟩ = some (.int .i64 0) := (Zc BK323.out 3).trans rfl
            have hfs42 := Zf BK323.out 3
            obtain ⟨hns42_0, hms42_0⟩ := Zo NB274_323
            obtain ⟨hns42_1, hms42_1⟩ := Zo NB275_323
            obtain ⟨hns42_2, hms42_2⟩ := Zo NB284_323
            obtain ⟨hns42_3, hms42_3⟩ := Zo NB300_323
            have hs43 : w38.cell? ⟨gb323, 4, none⟩ = some (.int .i64 0) := (Zc BK323.out 4).trans rfl
            have hfs43 := Zf BK323.out 4
            obtain ⟨hns43_0, hms43_0⟩ := Zo NB274_323
            obtain ⟨hns43_1, hms43_1⟩ := Zo NB275_323
            obtain ⟨hns43_2, hms43_2⟩ := Zo NB284_323
            obtain ⟨hns43_3, hms43_3⟩ := Zo NB300_323
            have hs44 : w38.cell? ⟨gb323, 5, none⟩ = some (.int .i64 0) := (Zc BK323.out 5).trans rfl
            have hfs44 := Zf BK323.out 5
            obtain ⟨hns44_0, hms44_0⟩ := Zo NB274_323
            obtain ⟨hns44_1, hms44_1⟩ := Zo NB275_323
            obtain ⟨hns44_2, hms44_2⟩ := Zo NB284_323
            obtain ⟨hns44_3, hms44_3⟩ := Zo NB300_323
            have hs45 : w38.cell? ⟨gb323, 6, none⟩ = some (.bool false) := (Zc BK323.out 6).trans rfl
            have hfs45 := Zf BK323.out 6
            obtain ⟨hns45_0, hms45_0⟩ := Zo NB274_323
            obtain ⟨hns45_1, hms45_1⟩ := Zo NB275_323
            obtain ⟨hns45_2, hms45_2⟩ := Zo NB284_323
            obtain ⟨hns45_3, hms45_3⟩ := Zo NB300_323
            refine skip_ (w1 := ?_) (by rfl) rfl ?_ ?_
            rotate_left
            ·
             go_simp
             rfl
            refine hK.out _ _ ⟨((Zh NB274_323).trans (((Zh NB274_323).trans (((Zh NB274_323).trans (((Zh NB274_323).trans (((Zh NB274_323).trans (((Zh NB274_323).trans (((Zh NB274_323).trans (hHeld.1)))))))))))))), ((Zh NB274_323).trans (((Zh NB274_323).trans (((Zh NB274_323).trans (((Zh NB274_323).trans (((Zh NB274_323).trans (((Zh NB274_323).trans (((Zh NB274_323).trans (hHeld.2.1)))))))))))))), ((Zh NB284_323).trans (((Zh NB284_323).trans (((Zh NB284_323).trans (((Zh NB284_323).trans (((Zh NB284_323).trans (((Zh NB284_323).trans (((Zh NB284_323).trans (hHeld.2.2.1)))))))))))))), ((Zh NB284_323).trans (((Zh NB284_323).trans (((Zh NB284_323).trans (((Zh NB284_323).trans (((Zh NB284_323).trans (((Zh NB284_323).trans (((Zh NB284_323).trans (hHeld.2.2.2.1)))))))))))))), ((Zh NB284_323).trans (((Zh NB284_323).trans (((Zh NB284_323).trans (((Zh NB284_323).trans (((Zh NB284_323).trans (((Zh NB284_323).trans (((Zh NB284_323).trans (hHeld.2.2.2.2.1)))))))))))))), ((Zh NB284_323).trans (((Zh NB284_323).trans (((Zh NB284_323).trans (((Zh NB284_323).trans (((Zh NB284_323).trans (((Zh NB284_323).trans (((Zh NB284_323).trans (hHeld.2.2.2.2.2.1)))))))))))))), ((Zh NB284_323).trans (((Zh NB284_323).trans (((Zh NB284_323).trans (((Zh NB284_323).trans (((Zh NB284_323).trans (((Zh NB284_323).trans (((Zh NB284_323).trans (hHeld.2.2.2.2.2.2.1)))))))))))))), ((Zh NB284_323).trans (((Zh NB284_323).trans (((Zh NB284_323).trans (((Zh NB284_323).trans (((Zh NB284_323).trans (((Zh NB284_323).trans (((Zh NB284_323).trans (hHeld.2.2.2.2.2.2.2.1)))))))))))))), ((Zh NB284_323).trans (((Zh NB284_323).trans (((Zh NB284_323).trans (((Zh NB284_323).trans (((Zh NB284_323).trans (((Zh NB284_323).trans (((Zh NB284_323).trans (hHeld.2.2.2.2.2.2.2.2.1)))))))))))))), ((Zh NB300_323).trans (((Zh NB300_323).trans (((Zh NB300_323).trans (((Zh NB300_323).trans (((Zh NB300_323).trans (((Zh NB300_323).trans (((Zh NB300_323).trans (hHeld.2.2.2.2.2.2.2.2.2.1)))))))))))))), ((Zh NB300_323).trans (((Zh NB300_323).trans (((Zh NB300_323).trans (((Zh NB300_323).trans (((Zh NB300_323).trans (((Zh NB300_323).trans (((Zh NB300_323).trans (hHeld.2.2.2.2.2.2.2.2.2.2.1)))))))))))))), ((Zh NB300_323).trans (((Zh NB300_323).trans (((Zh NB300_323).trans (((Zh NB300_323).trans (((Zh NB300_323).trans (((Zh NB300_323).trans (((Zh NB300_323).trans (hHeld.2.2.2.2.2.2.2.2.2.2.2.1)))))))))))))), ((Zh NB300_323).trans (((Zh NB300_323).trans (((Zh NB300_323).trans (((Zh NB300_323).trans (((Zh NB300_323).trans (((Zh NB300_323).trans (((Zh NB300_323).trans (hHeld.2.2.2.2.2.2.2.2.2.2.2.2.1)))))))))))))), ((cell_far (p := ⟨gb323, _, none⟩) (by first | exact Nat.ne_of_lt (Nat.lt_of_lt_of_le (by have := World.block_lt_of_cell? _ _ hw313_0; first | rwa [add_block] at this | exact this) GW323.out) | (rw [add_block]; exact Nat.ne_of_lt (Nat.lt_of_lt_of_le (by have := World.block_lt_of_cell? _ _ hw313_0; first | rwa [add_block] at this | exact this) GW323.out)) | (show (Addr.add _ _).block ≠ _; rw [add_block]; exact Nat.ne_of_lt (Nat.lt_of_lt_of_le (by have := World.block_lt_of_cell? _ _ hw313_0; first | rwa [add_block] at this | exact this) GW323.out)) | (dsimp only; exact Nat.ne_of_lt (Nat.lt_of_lt_of_le (by have := World.block_lt_of_cell? _ _ hw313_0; first | rwa [add_block] at this | exact this) GW323.out))) _).trans (((cell_far (p := ⟨gb323, _, none⟩) (by first | exact Nat.ne_of_lt (Nat.lt_of_lt_of_le (by have := World.block_lt_of_cell? _ _ hw313_0; first | rwa [add_block] at this | exact this) GW323.out) | (rw [add_block]; exact Nat.ne_of_lt (Nat.lt_of_lt_of_le (by have := World.block_lt_of_cell? _ _ hw313_0; first | rwa [add_block] at this | exact this) GW323.out)) | (show (Addr.add _ _).block ≠ _; rw [add_block]; exact Nat.ne_of_lt (Nat.lt_of_lt_of_le (by have := World.block_lt_of_cell? _ _ hw313_0; first | rwa [add_block] at this | exact this) GW323.out)) | (dsimp only; exact Nat.ne_of_lt (Nat.lt_of_lt_of_le (by have := World.block_lt_of_cell? _ _ hw313_0; first | rwa [add_block] at this | exact this) GW323.out))) _).trans (((cell_far (p := ⟨gb323, _, none⟩) (by first | exact Nat.ne_of_lt (Nat.lt_of_lt_of_le (by have := World.block_lt_of_cell? _ _ hw313_0; first | rwa [add_block] at this | exact this) GW323.out) | (rw [add_block]; exact Nat.ne_of_lt (Nat.lt_of_lt_of_le (by have := World.block_lt_of_cell? _ _ hw313_0; first | rwa [add_block] at this | exact this) GW323.out)) | (show (Addr.add _ _).block ≠ _; rw [add_block]; exact Nat.ne_of_lt (Nat.lt_of_lt_of_le (by have := World.block_lt_of_cell? _ _ hw313_0; first | rwa [add_block] at this | exact this) GW323.out)) | (dsimp only; exact Nat.ne_of_lt (Nat.lt_of_lt_of_le (by have := World.block_lt_of_cell? _ _ hw313_0; first | rwa [add_block] at this | exact this) GW323.out))) _).trans (((cell_far (p := ⟨gb323, _, none⟩) (by first | exact Nat.ne_of_lt (Nat.lt_of_lt_of_le (by have := World.block_lt_of_cell? _ _ hw313_0; first | rwa [add_block] at this | exact this) GW323.out) | (rw [add_block]; exact Nat.ne_of_lt (Nat.lt_of_lt_of_le (by have := World.block_lt_of_cell? _ _ hw313_0; first | rwa [add_block] at this | exact this) GW323.out)) | (show (Addr.add _ _).block ≠ _; rw [add_block]; exact Nat.ne_of_lt (Nat.lt_of_lt_of_le (by have := World.block_lt_of_cell? _ _ hw313_0; first | rwa [add_block] at this | exact this) GW323.out)) | (dsimp only; exact Nat.ne_of_lt (Nat.lt_of_lt_of_le (by have := World.block_lt_of_cell? _ _ hw313_0; first | rwa [add_block] at this | exact this) GW323.out))) _).trans (((cell_far (p := ⟨gb323, _, none⟩) (by first | exact Nat.ne_of_lt (Nat.lt_of_lt_of_le (by have := World.block_lt_of_cell? _ _ hw313_0; first | rwa [add_block] at this | exact this) GW323.out) | (rw [add_block]; exact Nat.ne_of_lt (Nat.lt_of_lt_of_le (by have := World.block_lt_of_cell? _ _ hw313_0; first | rwa [add_block] at this | exact this) GW323.out)) | (show (Addr.add _ _).block ≠ _; rw [add_block]; exact Nat.ne_of_lt (Nat.lt_of_lt_of_le (by have := World.block_lt_of_cell? _ _ hw313_0; first | rwa [add_block] at this | exact this) GW323.out)) | (dsimp only; exact Nat.ne_of_lt (Nat.lt_of_lt_of_le (by have := World.block_lt_of_cell? _ _ hw313_0; first | rwa [add_block] at this | exact this) GW323.out))) _).trans (((cell_far (p := ⟨gb323, _, none⟩) (by first | exact Nat.ne_of_lt (Nat.lt_of_lt_of_le (by have := World.block_lt_of_cell? _ _ hw313_0; first | rwa [add_block] at this | exact this) GW323.out) | (rw [add_block]; exact Nat.ne_of_lt (Nat.lt_of_lt_of_le (by have := World.block_lt_of_cell? _ _ hw313_0; first | rwa [add_block] at this | exact this) GW323.out)) | (show (Addr.add _ _).block ≠ _; rw [add_block]; exact Nat.ne_of_lt (Nat.lt_of_lt_of_le (by have := World.block_lt_of_cell? _ _ hw313_0; first | rwa [add_block] at this | exact this) GW323.out)) | (dsimp only; exact Nat.ne_of_lt (Nat.lt_of_lt_of_le (by have := World.block_lt_of_cell? _ _ hw313_0; first | rwa [add_block] at this | exact this) GW323.out))) _).trans (((cell_far (p := ⟨gb323, _, none⟩) (by first | exact Nat.ne_of_lt (Nat.lt_of_lt_of_le (by have := World.block_lt_of_cell? _ _ hw313_0; first | rwa [add_block] at this | exact this) GW323.out) | (rw [add_block]; exact Nat.ne_of_lt (Nat.lt_of_lt_of_le (by have := World.block_lt_of_cell? _ _ hw313_0; first | rwa [add_block] at this | exact this) GW323.out)) | (show (Addr.add _ _).block ≠ _; rw [add_block]; exact Nat.ne_of_lt (Nat.lt_of_lt_of_le (by have := World.block_lt_of_cell? _ _ hw313_0; first | rwa [add_block] at this | exact this) GW323.out)) | (dsimp only; exact Nat.ne_of_lt (Nat.lt_of_lt_of_le (by have := World.block_lt_of_cell? _ _ hw313_0; first | rwa [add_block] at this | exact this) GW323.out))) _).trans (hHeld.2.2.2.2.2.2.2.2.2.2.2.2.2))))))))))))))⟩ (fun hHeld => ?_)
            clear hK K
            refine pure_ (i := 19) (N := some 16) (v := ?_) (a' := ?_) #[true, true, true, true, true, true, true, true, true, true, true, true, true, true, true, true, true, true, true, true] rfl rfl (any_of HT_.out (by kernel_rfl)) (fun _ _ _ h => h) (Or.inl ⟨by rfl, ?_⟩) ?_ ?_
            rotate_left
            ·
             intro w'
             go_simp
             with_reducible rfl
            rotate_left
            ·
             simp only [Act.put, List.setIfInBounds_toArray, List.set_cons_zero, List.set_cons_succ, i64_w, i32_w]
             rfl
            refine done_ (done_of HT_.out (by kernel_rfl)) ?_
            obtain ⟨hnb46, hnc46⟩ := Zo NB323_274
            obtain ⟨hnb47, hnc47⟩ := Zo NB323_275
            obtain ⟨hnb48, hnc48⟩ := Zo NB323_284
            obtain ⟨hnb49, hnc49⟩ := Zo NB323_300
            obtain ⟨⟨hcz50_0, hcz50_1, hcz50_2, hcz50_3, hcz50_4, hcz50_5, hcz50_6⟩, hfz50_0, hfz50_1, hfz50_2, hfz50_3, hfz50_4, hfz50_5, hfz50_6⟩ := Zk7 BK323
            obtain ⟨⟨hcz51_0, hcz51_1, hcz51_2, hcz51_3, hcz51_4, hcz51_5, hcz51_6⟩, hfz51_0, hfz51_1, hfz51_2, hfz51_3, hfz51_4, hfz51_5, hfz51_6⟩ := Zk7 BK284
            try go_wp2
            go_roundg kj13
            case measure => have := HK1.out; have := HJ13.out; omega
            case rel => exact ⟨(y310), (wrap64 (x12_1 + 1)), (x276000_1), (x276001_1), (x276002_1), (x276003_1), (x276004_1), (x276005_1), (x276006_1), (t315), (t316), (t317), (t318), (t319), (t320), (t321), (by first | rfl | (simp; done) | (simp [*]; done)), H', ⟨by have := HK1.out; have := HJ13.out; omega⟩, ⟨by (with_reducible repeat (first | apply Kd.R_alloc | apply Kd.R_drewN | apply Kd.R_drew)); exact Kd.R_mono (Kd.R_far (p := ⟨gb284, 6, none⟩) (Kd.R_far (p := ⟨gb284, 5, none⟩) (Kd.R_far (p := ⟨gb284, 4, none⟩) (Kd.R_far (p := ⟨gb284, 3, none⟩) (Kd.R_far (p := ⟨gb284, 2, none⟩) (Kd.R_far (p := ⟨gb284, 1, none⟩) (Kd.R_far (p := ⟨gb284, 0, none⟩) (Kd.R_far (p := ⟨gb323, 6, none⟩) (Kd.R_far (p := ⟨gb323, 5, none⟩) (Kd.R_far (p := ⟨gb323, 4, none⟩) (Kd.R_far (p := ⟨gb323, 3, none⟩) (Kd.R_far (p := ⟨gb323, 2, none⟩) (Kd.R_far (p := ⟨gb323, 1, none⟩) (Kd.R_far (p := ⟨gb323, 0, none⟩) (Kd.R_types (Kd.R_types HO312.out BK323.out (by decide)) BK284.out (by decide)) (fun _ hk => hk.1.2) (.string t315)) (fun _ hk => hk.1.2) (.string t316)) (fun _ hk => hk.1.2) (.int .i64 t317)) (fun _ hk => hk.1.2) (.int .i64 t318)) (fun _ hk => hk.1.2) (.int .i64 t319)) (fun _ hk => hk.1.2) (.int .i64 t320)) (fun _ hk => hk.1.2) (.bool t321)) (fun _ hk => hk.2) (.string t315)) (fun _ hk => hk.2) (.string t316)) (fun _ hk => hk.2) (.int .i64 t317)) (fun _ hk => hk.2) (.int .i64 t318)) (fun _ hk => hk.2) (.int .i64 t319)) (fun _ hk => hk.2) (.int .i64 t320)) (fun _ hk => hk.2) (.bool t321)) (fun _ hk => trivial)⟩, ⟨by (with_reducible repeat first | apply Zn | apply Zd | apply Za); refine Zq ?_ NB274_284.out _; (with_reducible repeat first | apply Zn | apply Zd | apply Za); refine Zq ?_ NB274_284.out _; (with_reducible repeat first | apply Zn | apply Zd | apply Za); refine Zq ?_ NB274_284.out _; (with_reducible repeat first | apply Zn | apply Zd | apply Za); refine Zq ?_ NB274_284.out _; (with_reducible repeat first | apply Zn | apply Zd | apply Za); refine Zq ?_ NB274_284.out _; (with_reducible repeat first | apply Zn | apply Zd | apply Za); refine Zq ?_ NB274_284.out _; (with_reducible repeat first | apply Zn | apply Zd | apply Za); refine Zq ?_ NB274_284.out _; (with_reducible repeat first | apply Zn | apply Zd | apply Za); refine Zq ?_ NB274_323.out _; (with_reducible repeat first | apply Zn | apply Zd | apply Za); refine Zq ?_ NB274_323.out _; (with_reducible repeat first | apply Zn | apply Zd | apply Za); refine Zq ?_ NB274_323.out _; (with_reducible repeat first | apply Zn | apply Zd | apply Za); refine Zq ?_ NB274_323.out _; (with_reducible repeat first | apply Zn | apply Zd | apply Za); refine Zq ?_ NB274_323.out _; (with_reducible repeat first | apply Zn | apply Zd | apply Za); refine Zq ?_ NB274_323.out _; (with_reducible repeat first | apply Zn | apply Zd | apply Za); refine Zq ?_ NB274_323.out _; (with_reducible repeat first | apply Zn | apply Zd | apply Za); exact BK274.out⟩, ⟨by (with_reducible repeat first | apply Zn | apply Zd | apply Za); refine Zq ?_ NB275_284.out _; (with_reducible repeat first | apply Zn | apply Zd | apply Za); refine Zq ?_ NB275_284.out _; (with_reducible repeat first | apply Zn | apply Zd | apply Za); refine Zq ?_ NB275_284.out _; (with_reducible repeat first | apply Zn | apply Zd | apply Za); refine Zq ?_ NB275_284.out _; (with_reducible repeat first | apply Zn | apply Zd | apply Za); refine Zq ?_ NB275_284.out _; (with_reducible repeat first | apply Zn | apply Zd | apply Za); refine Zq ?_ NB275_284.out _; (with_reducible repeat first | apply Zn | apply Zd | apply Za); refine Zq ?_ NB275_284.out _; (with_reducible repeat first | apply Zn | apply Zd | apply Za); refine Zq ?_ NB275_323.out _; (with_reducible repeat first | apply Zn | apply Zd | apply Za); refine Zq ?_ NB275_323.out _; (with_reducible repeat first | apply Zn | apply Zd | apply Za); refine Zq ?_ NB275_323.out _; (with_reducible repeat first | apply Zn | apply Zd | apply Za); refine Zq ?_ NB275_323.out _; (with_reducible repeat first | apply Zn | apply Zd | apply Za); refine Zq ?_ NB275_323.out _; (with_reducible repeat first | apply Zn | apply Zd | apply Za); refine Zq ?_ NB275_323.out _; (with_reducible repeat first | apply Zn | apply Zd | apply Za); refine Zq ?_ NB275_323.out _; (with_reducible repeat first | apply Zn | apply Zd | apply Za); exact BK275.out⟩, ⟨by (with_reducible repeat first | apply Zn | apply Zd | apply Za); refine Zp (cs := #[.string t315, .string t316, .int .i64 t317, .int .i64 t318, .int .i64 t319, .int .i64 t320, .bool x285006_1]) ?_ 6 _ rfl; (with_reducible repeat first | apply Zn | apply Zd | apply Za); refine Zp (cs := #[.string t315, .string t316, .int .i64 t317, .int .i64 t318, .int .i64 t319, .int .i64 x285005_1, .bool x285006_1]) ?_ 5 _ rfl; (with_reducible repeat first | apply Zn | apply Zd | apply Za); refine Zp (cs := #[.string t315, .string t316, .int .i64 t317, .int .i64 t318, .int .i64 x285004_1, .int .i64 x285005_1, .bool x285006_1]) ?_ 4 _ rfl; (with_reducible repeat first | apply Zn | apply Zd | apply Za); refine Zp (cs := #[.string t315, .string t316, .int .i64 t317, .int .i64 x285003_1, .int .i64 x285004_1, .int .i64 x285005_1, .bool x285006_1]) ?_ 3 _ rfl; (with_reducible repeat first | apply Zn | apply Zd | apply Za); refine Zp (cs := #[.string t315, .string t316, .int .i64 x285002_1, .int .i64 x285003_1, .int .i64 x285004_1, .int .i64 x285005_1, .bool x285006_1]) ?_ 2 _ rfl; (with_reducible repeat first | apply Zn | apply Zd | apply Za); refine Zp (cs := #[.string t315, .string x285001_1, .int .i64 x285002_1, .int .i64 x285003_1, .int .i64 x285004_1, .int .i64 x285005_1, .bool x285006_1]) ?_ 1 _ rfl; (with_reducible repeat first | apply Zn | apply Zd | apply Za); refine Zp (cs := #[.string x285000_1, .string x285001_1, .int .i64 x285002_1, .int .i64 x285003_1, .int .i64 x285004_1, .int .i64 x285005_1, .bool x285006_1]) ?_ 0 _ rfl; (with_reducible repeat first | apply Zn | apply Zd | apply Za); refine Zq ?_ NB284_323.out _; (with_reducible repeat first | apply Zn | apply Zd | apply Za); refine Zq ?_ NB284_323.out _; (with_reducible repeat first | apply Zn | apply Zd | apply Za); refine Zq ?_ NB284_323.out _; (with_reducible repeat first | apply Zn | apply Zd | apply Za); refine Zq ?_ NB284_323.out _; (with_reducible repeat first | apply Zn | apply Zd | apply Za); refine Zq ?_ NB284_323.out _; (with_reducible repeat first | apply Zn | apply Zd | apply Za); refine Zq ?_ NB284_323.out _; (with_reducible repeat first | apply Zn | apply Zd | apply Za); refine Zq ?_ NB284_323.out _; (with_reducible repeat first | apply Zn | apply Zd | apply Za); exact BK284.out⟩, ⟨Yr HB⟩⟩
           ·
            replace c24 := Bool.eq_false_iff.mpr c24
            subst c24
            have H1 : (some (([] : List (S35)), x285000_1, x285001_1, x285002_1, x285003_1, x285004_1, x285005_1, x285006_1, false)) = some (r1, r2, r3, r4, r5, r6, r7, r8, r9) := by rw [if_neg (show ¬ (false = true) by decide)] at H; exact H
            clear H
            have H := H1
            clear H1
            simp only [Option.some.injEq, Prod.mk.injEq] at H
            obtain ⟨rfl, rfl, rfl, rfl, rfl, rfl, rfl, rfl, rfl⟩ := H
            obtain ⟨hnb52, hnc52⟩ := Zo NB284_274
            obtain ⟨hnb53, hnc53⟩ := Zo NB284_275
            obtain ⟨⟨hcz54_0, hcz54_1, hcz54_2, hcz54_3, hcz54_4, hcz54_5, hcz54_6⟩, hfz54_0, hfz54_1, hfz54_2, hfz54_3, hfz54_4, hfz54_5, hfz54_6⟩ := Zk7 BK284
            try go_wp2_with (first | ((with_reducible refine gate_callee (f := 16) rfl ?_); refine goesL_ (some 40) rfl rfl Try.func16 (by kernel_rfl) rfl #[.agg #[.string x285000_1, .string x285001_1, .int .i64 x285002_1, .int .i64 x285003_1, .int .i64 x285004_1, .int .i64 x285005_1, .bool x285006_1]] rfl (by (try simp only [List.map_toArray, List.map_cons, List.map_nil]); first | done | rfl | (simp only [List.length_drop, List.length_take]; rfl)) ?_; (with_reducible refine (saga_Command.calls x285000_1 x285001_1 x285002_1 x285003_1 x285004_1 x285005_1 x285006_1 t295 t296 t297 t298 true _ A17.out).mono ?_); rintro e w55 ⟨rfl, hb⟩; refine ⟨_, rfl, ?_⟩; have n0_ := Aside0.mk (Kd.R_below (by (with_reducible repeat (first | apply Kd.R_alloc | apply Kd.R_drewN | apply Kd.R_drew)); exact HO_9.out) hb); have n1_ := Aside0.mk (Zv BK274 hb); have n2_ := Aside0.mk (Zv BK275 hb); have n3_ := Aside0.mk (Zv BK284 hb); have n4_ := Aside0.mk (Yv HB hb); clear HO_9; clear BK274; clear BK275; clear BK284; clear HB; have HO_9 := n0_; have BK274 := n1_; have BK275 := n2_; have BK284 := n3_; have HB := n4_; clear n0_ n1_ n2_ n3_ n4_; (try clear hb); (try clear hb2); (try clear hk); (try clear hi)) | ((with_reducible refine gate_dst (N := 13) rfl ?_); refine box_event ?hg (N := 13) ?hd (cs := #[.string (⟨#[]⟩ : ByteArray), .int .i64 0, .int .i64 0, .int .i64 0]) (t := 35) ?hr ?_; (case hd => rfl); (case hg => rfl); (case hr => first | (go_simp; done) | (go_simp; rfl)); intro gb300 hg w56 hbox hb; have n0_ := Aside0.mk (Kd.R_below (Kd.R_elderB (by (with_reducible repeat (first | apply Kd.R_alloc | apply Kd.R_drewN | apply Kd.R_drew)); exact HO_9.out) gb300 (Nat.le_of_eq hg.symm)) hb); have n1_ := Aside0.mk (Zv BK274 hb); have n2_ := Aside0.mk (Zv BK275 hb); have n3_ := Aside0.mk (Zv BK284 hb); have n4_ := Aside0.mk (Yv HB hb); have n5_ := Aside0.mk (hbox); have n6_ := Aside0.mk (Yg HB hg); have n7_ := Aside0.mk (Yg HB hg); have n8_ := Aside0.mk (Zl BK274 hg); have n9_ := Aside0.mk (Zg BK274 hg); have n10_ := Aside0.mk (Zl BK275 hg); have n11_ := Aside0.mk (Zg BK275 hg); have n12_ := Aside0.mk (Zl BK284 hg); have n13_ := Aside0.mk (Zg BK284 hg); clear HO_9; clear BK274; clear BK275; clear BK284; clear HB; have HO_9 := n0_; have BK274 := n1_; have BK275 := n2_; have BK284 := n3_; have HB := n4_; have BK300 := n5_; have GW300 := n6_; have GE300 := n7_; have NB274_300 := n8_; have NB300_274 := n9_; have NB275_300 := n10_; have NB300_275 := n11_; have NB284_300 := n12_; have NB300_284 := n13_; clear n0_ n1_ n2_ n3_ n4_ n5_ n6_ n7_ n8_ n9_ n10_ n11_ n12_ n13_; clear hb hbox hg; obtain ⟨hnb57, hnc57⟩ := Zo NB300_274; obtain ⟨hnb58, hnc58⟩ := Zo NB300_275; obtain ⟨hnb59, hnc59⟩ := Zo NB300_284; obtain ⟨⟨hcz60_0, hcz60_1, hcz60_2, hcz60_3⟩, hfz60_0, hfz60_1, hfz60_2, hfz60_3⟩ := Zk4 BK300) | ((with_reducible refine gate_builtin (b := .append) (xs := #[.tmp 45, .tmp 47]) rfl ?_); at_builtin; refine Kd.R_append k35 (w0 := w) w.heap.size rfl (.tmp 45) (.tmp 47) 45 35 (.agg #[(.string ⟨#[]⟩), (.int .i64 0), (.int .i64 0), (.int .i64 0)]) 40 rfl Try.underlying45 info35 rfl (by decide) (by omega) u9 x9_1 (⟨t295, t296, t297, t298⟩ : S35) [.string t295, .int .i64 t296, .int .i64 t297, .int .i64 t298] (fun k_ => k_ ≠ gb300) (fun _ => False) rfl (by first | (go_simp; done) | (go_simp; rfl)) ?aP (fun _ hk => hk.elim) ?aF ?aO ?aB ?aS ?aL ?_; (case aP => exact k35_mkM _ _ _ (⟨t295, t296, t297, t298⟩ : S35)); (case aB => exact (Yr HB)); (case aF => exact (fun k_ hk => Kd.freshB (g := gb300) (o := .cells #[.string t295, .int .i64 t296, .int .i64 t297, .int .i64 t298] 35 (0, 0)) (by (with_reducible repeat first | apply Zn | apply Zd | apply Za); refine Zp (cs := #[.string t295, .int .i64 t296, .int .i64 t297, .int .i64 0]) ?_ 3 _ rfl; (with_reducible repeat first | apply Zn | apply Zd | apply Za); refine Zp (cs := #[.string t295, .int .i64 t296, .int .i64 0, .int .i64 0]) ?_ 2 _ rfl; (with_reducible repeat first | apply Zn | apply Zd | apply Za); refine Zp (cs := #[.string t295, .int .i64 0, .int .i64 0, .int .i64 0]) ?_ 1 _ rfl; (with_reducible repeat first | apply Zn | apply Zd | apply Za); refine Zp (cs := #[.string (⟨#[]⟩ : ByteArray), .int .i64 0, .int .i64 0, .int .i64 0]) ?_ 0 _ rfl; (with_reducible repeat first | apply Zn | apply Zd | apply Za); exact BK300.out) k_ hk)); (case aO => exact (by (with_reducible repeat (first | apply Kd.R_alloc | apply Kd.R_drewN | apply Kd.R_drew)); exact Kd.R_mono (Kd.R_far (p := ⟨gb300, 3, none⟩) (Kd.R_far (p := ⟨gb300, 2, none⟩) (Kd.R_far (p := ⟨gb300, 1, none⟩) (Kd.R_far (p := ⟨gb300, 0, none⟩) (Kd.R_mono HO_9.out (fun k_ hk => (⟨hk, hk.2⟩ : _ ∧ k_ ≠ gb300))) (fun _ hk => hk.2) (.string t295)) (fun _ hk => hk.2) (.int .i64 t296)) (fun _ hk => hk.2) (.int .i64 t297)) (fun _ hk => hk.2) (.int .i64 t298)) (fun _ hk => hk.1.2))); (case aS => exact (below_size (Yr HB))); (case aL => have := LMc19.out; omega); intro v311 w61 ho hb hg hat; rw [← Ny310.out] at ho; have n0_ := Aside0.mk (blk_grown (g := gb274) (o := .cells #[.string a0_0, .slice A0_1 l0_1.length c0_1] 24 (0, 0)) (Zr BK274) hg (Kd.R_ne HO_9.out BK274.out (by decide))); have n1_ := Aside0.mk (blk_grown (g := gb275) (o := .cells #[.string x276000_1, .string x276001_1, .int .i64 x276002_1, .int .i64 x276003_1, .int .i64 x276004_1, .int .i64 x276005_1, .bool x276006_1] 26 (0, 0)) (Zr BK275) hg (Kd.R_ne HO_9.out BK275.out (by decide))); have n2_ := Aside0.mk (blk_grown (g := gb284) (o := .cells #[.string x285000_1, .string x285001_1, .int .i64 x285002_1, .int .i64 x285003_1, .int .i64 x285004_1, .int .i64 x285005_1, .bool x285006_1] 26 (0, 0)) (Zr BK284) hg (Kd.R_ne HO_9.out BK284.out (by decide))); have n3_ := Aside0.mk (blk_grown (g := gb300) (o := .cells #[.string t295, .int .i64 t296, .int .i64 t297, .int .i64 t298] 35 (0, 0)) (by (with_reducible repeat first | apply Zn | apply Zd | apply Za); refine Zp (cs := #[.string t295, .int .i64 t296, .int .i64 t297, .int .i64 0]) ?_ 3 _ rfl; (with_reducible repeat first | apply Zn | apply Zd | apply Za); refine Zp (cs := #[.string t295, .int .i64 t296, .int .i64 0, .int .i64 0]) ?_ 2 _ rfl; (with_reducible repeat first | apply Zn | apply Zd | apply Za); refine Zp (cs := #[.string t295, .int .i64 0, .int .i64 0, .int .i64 0]) ?_ 1 _ rfl; (with_reducible repeat first | apply Zn | apply Zd | apply Za); refine Zp (cs := #[.string (⟨#[]⟩ : ByteArray), .int .i64 0, .int .i64 0, .int .i64 0]) ?_ 0 _ rfl; (with_reducible repeat first | apply Zn | apply Zd | apply Za); exact BK300.out) hg (Kd.R_away HO_9.out (fun _ hk => hk.2))); have n4_ := Aside0.mk (hb); have n5_ := Aside0.mk (ho); clear BK274; clear BK275; clear BK284; clear BK300; clear HB; clear HO_9; have BK274 := n0_; have BK275 := n1_; have BK284 := n2_; have BK300 := n3_; have HB := n4_; have HO312 := n5_; clear n0_ n1_ n2_ n3_ n4_ n5_; clear ho hb hg hat))
            have n0_ := Aside0.mk (Kd.R_drew HO312.out)
            have n1_ := Aside0.mk (Zd BK274.out)
            have n2_ := Aside0.mk (Zd BK275.out)
            have n3_ := Aside0.mk (Zd BK284.out)
            have n4_ := Aside0.mk (Zd BK300.out)
            have n5_ := Aside0.mk (Yd HB.out)
            clear HO312
            clear BK274
            clear BK275
            clear BK284
            clear BK300
            clear HB
            have HO312 := n0_
            have BK274 := n1_
            have BK275 := n2_
            have BK284 := n3_
            have BK300 := n4_
            have HB := n5_
            clear n0_ n1_ n2_ n3_ n4_ n5_
            have p313 : 0 ≤ (x12_1 : Int) := of_decide_eq_true (by first | (with_reducible assumption) | assumption)
            have q313 : x12_1 < (l1.length : Int) := of_decide_eq_true (by first | (with_reducible assumption) | assumption)
            obtain ⟨ad313, e313, hx313_0⟩ := Kd.at_int HR1.out x12_1 p313 q313
            have hw313_0 := hx313_0
            cases e313
            replace hx313_0 := (HB.out.cell (World.block_lt_of_cell? w _ hx313_0)).trans hx313_0
            replace p313 := eq_true p313
            replace q313 := eq_true q313
            refine start_ (n := 20) (S := fun w' => w'.cell? ⟨gb274, 0, none⟩ = some (.string a0_0) ∧ w'.cell? ⟨gb274, 1, none⟩ = some (.slice A0_1 l0_1.length c0_1) ∧ w'.cell? ⟨gb284, 0, none⟩ = some (.string x285000_1) ∧ w'.cell? ⟨gb284, 1, none⟩ = some (.string x285001_1) ∧ w'.cell? ⟨gb284, 2, none⟩ = some (.int .i64 x285002_1) ∧ w'.cell? ⟨gb284, 3, none⟩ = some (.int .i64 x285003_1) ∧ w'.cell? ⟨gb284, 4, none⟩ = some (.int .i64 x285004_1) ∧ w'.cell? ⟨gb284, 5, none⟩ = some (.int .i64 x285005_1) ∧ w'.cell? ⟨gb284, 6, none⟩ = some (.bool x285006_1) ∧ w'.cell? ⟨gb300, 0, none⟩ = some (.string t295) ∧ w'.cell? ⟨gb300, 1, none⟩ = some (.int .i64 t296) ∧ w'.cell? ⟨gb300, 2, none⟩ = some (.int .i64 t297) ∧ w'.cell? ⟨gb300, 3, none⟩ = some (.int .i64 t298) ∧ w'.cell? (ad313.add (x12_1).toNat) = some (.int .i64 (rd l1 x12_1))) (ds := []) #[false, false, false, false, false, false, false, false, false, false, false, false, false, false, false, false, false, false, false, false] (by kernel_rfl) rfl rfl ⟨(Zc BK274.out 0).trans rfl, (Zc BK274.out 1).trans rfl, (Zc BK284.out 0).trans rfl, (Zc BK284.out 1).trans rfl, (Zc BK284.out 2).trans rfl, (Zc BK284.out 3).trans rfl, (Zc BK284.out 4).trans rfl, (Zc BK284.out 5).trans rfl, (Zc BK284.out 6).trans rfl, (Zc BK300.out 0).trans rfl, (Zc BK300.out 1).trans rfl, (Zc BK300.out 2).trans rfl, (Zc BK300.out 3).trans rfl, ((HB.out.cell (World.block_lt_of_cell? w _ hw313_0)).trans hw313_0)⟩ (fun hHeld => ?_); refine with_tabW palinodelaw19_run.tab11 palinodelaw19_run.bits11 (fun HT_ HW_ => ?_)
            generalize w61.drew = w62 at HO312 BK274 BK275 BK284 BK300 HB hx313_0 hHeld ⊢
            refine pure_ (i := 2) (N := some 52) (v := ?_) (a' := ?_) #[false, false, true, false, false, false, false, false, false, false, false, false, false, false, false, false, false, false, false, false] rfl rfl (any_of HT_.out (by kernel_rfl)) (fun _ _ _ h => h) (Or.inl ⟨by rfl, ?_⟩) ?_ ?_
            rotate_left
            ·
             intro w'
             go_simp
             with_reducible rfl
            rotate_left
            ·
             simp only [Act.put, List.setIfInBounds_toArray, List.set_cons_zero, List.set_cons_succ, i64_w, i32_w]
             rfl
            refine pure_ (i := 4) (N := some 54) (v := ?_) (a' := ?_) #[false, false, true, false, true, false, false, false, false, false, false, false, false, false, false, false, false, false, false, false] rfl rfl (any_of HT_.out (by kernel_rfl)) (fun _ _ _ h => h) (Or.inl ⟨by rfl, ?_⟩) ?_ ?_
            rotate_left
            ·
             intro w'
             go_simp
             with_reducible rfl
            rotate_left
            ·
             simp only [Act.put, List.setIfInBounds_toArray, List.set_cons_zero, List.set_cons_succ, i64_w, i32_w]
             rfl
            refine pure_ (i := 6) (N := some 56) (v := ?_) (a' := ?_) #[false, false, true, false, true, false, true, false, false, false, false, false, false, false, false, false, false, false, false, false] rfl rfl (any_of HT_.out (by kernel_rfl)) (fun _ _ _ h => h) (Or.inl ⟨by rfl, ?_⟩) ?_ ?_
            rotate_left
            ·
             intro w'
             go_simp
             with_reducible rfl
            rotate_left
            ·
             simp only [Act.put, List.setIfInBounds_toArray, List.set_cons_zero, List.set_cons_succ, i64_w, i32_w]
             rfl
            refine pure_ (i := 7) (N := some 57) (v := ?_) (a' := ?_) #[false, false, true, false, true, false, true, true, false, false, false, false, false, false, false, false, false, false, false, false] rfl rfl (any_of HT_.out (by kernel_rfl)) (fun _ _ _ h => h) (Or.inl ⟨by rfl, ?_⟩) ?_ ?_
            rotate_left
            ·
             intro w'
             go_simp
             with_reducible rfl
            rotate_left
            ·
             simp only [Act.put, List.setIfInBounds_toArray, List.set_cons_zero, List.set_cons_succ, i64_w, i32_w]
             rfl
            refine pure_ (i := 8) (N := some 58) (v := ?_) (a' := ?_) #[false, false, true, false, true, false, true, true, true, false, false, false, false, false, false, false, false, false, false, false] rfl rfl (any_of HT_.out (by kernel_rfl)) (fun _ _ _ h => h) (Or.inl ⟨by rfl, ?_⟩) ?_ ?_
            rotate_left
            ·
             intro w'
             go_simp
             with_reducible rfl
            rotate_left
            ·
             simp only [Act.put, List.setIfInBounds_toArray, List.set_cons_zero, List.set_cons_succ, i64_w, i32_w]
             rfl
            refine pure_ (i := 12) (N := some 62) (v := ?_) (a' := ?_) #[false, false, true, false, true, false, true, true, true, false, false, false, true, false, false, false, false, false, false, false] rfl rfl (any_of HT_.out (by kernel_rfl)) (fun _ _ _ h => h) (Or.inl ⟨by rfl, ?_⟩) ?_ ?_
            rotate_left
            ·
             intro w'
             go_simp
             with_reducible rfl
            rotate_left
            ·
             simp only [Act.put, List.setIfInBounds_toArray, List.set_cons_zero, List.set_cons_succ, i64_w, i32_w]
             rfl
            refine take_ (i := 0) (N := some 50) (v := ?_) (a' := ?_) #[true, false, true, false, true, false, true, true, true, false, false, false, true, false, false, false, false, false, false, false] rfl rfl (take_ofW HT_.out HW_.out (by kernel_rfl)) (fun _ _ _ h => h) (Or.inl ⟨by rfl, ?_⟩) hHeld ?_ ?_
            rotate_left
            ·
             rintro w' ⟨s0, s1, s2, s3, s4, s5, s6, s7, s8, s9, s10, s11, s12, s13⟩
             go_simp
             with_reducible rfl
            rotate_left
            ·
             simp only [Act.put, List.setIfInBounds_toArray, List.set_cons_zero, List.set_cons_succ, i64_w, i32_w]
             rfl
            refine take_ (i := 1) (N := some 51) (v := ?_) (a' := ?_) #[true, true, true, false, true, false, true, true, true, false, false, false, true, false, false, false, false, false, false, false] rfl rfl (take_ofW HT_.out HW_.out (by kernel_rfl)) (fun _ _ _ h => h) (Or.inl ⟨by rfl, ?_⟩) hHeld ?_ ?_
            rotate_left
            ·
             rintro w' ⟨s0, s1, s2, s3, s4, s5, s6, s7, s8, s9, s10, s11, s12, s13⟩
             go_simp
             with_reducible rfl
            rotate_left
            ·
             simp only [Act.put, List.setIfInBounds_toArray, List.set_cons_zero, List.set_cons_succ, i64_w, i32_w]
             rfl
            refine take_ (i := 3) (N := some 53) (v := ?_) (a' := ?_) #[true, true, true, true, true, false, true, true, true, false, false, false, true, false, false, false, false, false, false, false] rfl rfl (take_ofW HT_.out HW_.out (by kernel_rfl)) (fun _ _ _ h => h) (Or.inl ⟨by rfl, ?_⟩) hHeld ?_ ?_
            rotate_left
            ·
             rintro w' ⟨s0, s1, s2, s3, s4, s5, s6, s7, s8, s9, s10, s11, s12, s13⟩
             go_simp
             with_reducible rfl
            rotate_left
            ·
             simp only [Act.put, List.setIfInBounds_toArray, List.set_cons_zero, List.set_cons_succ, i64_w, i32_w]
             rfl
            refine take_ (i := 5) (N := some 55) (v := ?_) (a' := ?_) #[true, true, true, true, true, true, true, true, true, false, false, false, true, false, false, false, false, false, false, false] rfl rfl (take_ofW HT_.out HW_.out (by kernel_rfl)) (fun _ _ _ h => h) (Or.inl ⟨by rfl, ?_⟩) hHeld ?_ ?_
            rotate_left
            ·
             rintro w' ⟨s0, s1, s2, s3, s4, s5, s6, s7, s8, s9, s10, s11, s12, s13⟩
             go_simp
             with_reducible rfl
            rotate_left
            ·
             simp only [Act.put, List.setIfInBounds_toArray, List.set_cons_zero, List.set_cons_succ, i64_w, i32_w]
             rfl
            refine take_ (i := 9) (N := some 59) (v := ?_) (a' := ?_) #[true, true, true, true, true, true, true, true, true, true, false, false, true, false, false, false, false, false, false, false] rfl rfl (take_ofW HT_.out HW_.out (by kernel_rfl)) (fun _ _ _ h => h) (Or.inl ⟨by rfl, ?_⟩) hHeld ?_ ?_
            rotate_left
            ·
             rintro w' ⟨s0, s1, s2, s3, s4, s5, s6, s7, s8, s9, s10, s11, s12, s13⟩
             go_simp
             with_reducible rfl
            rotate_left
            ·
             simp only [Act.put, List.setIfInBounds_toArray, List.set_cons_zero, List.set_cons_succ, i64_w, i32_w]
             rfl
            refine join_ (σ := Nat) 2 #[true, true, true, true, true, true, true, true, true, true, true, true, true, true, true, true, true, true, false, false] (fun s_ => [(60, .int .i64 t314), (63, .tuple #[.agg #[.string t315, .string t316, .int .i64 t317, .int .i64 t318, .int .i64 t319, .int .i64 t320, .bool t321], .bool false]), (15, .pointer (some ⟨s_, 0, none⟩)), (61, .int .i64 (wrap64 (1 + t314))), (49, .tuple #[.agg #[.string t315, .string t316, .int .i64 t317, .int .i64 t318, .int .i64 t319, .int .i64 t320, .bool t321], .bool false]), (64, .agg #[.string t315, .string t316, .int .i64 t317, .int .i64 t318, .int .i64 t319, .int .i64 t320, .bool t321]), (65, .bool false)]) (fun s_ w' => (w'.cell? ⟨gb274, 0, none⟩ = some (.string a0_0) ∧ w'.cell? ⟨gb274, 1, none⟩ = some (.slice A0_1 l0_1.length c0_1) ∧ w'.cell? ⟨gb284, 0, none⟩ = some (.string x285000_1) ∧ w'.cell? ⟨gb284, 1, none⟩ = some (.string x285001_1) ∧ w'.cell? ⟨gb284, 2, none⟩ = some (.int .i64 x285002_1) ∧ w'.cell? ⟨gb284, 3, none⟩ = some (.int .i64 x285003_1) ∧ w'.cell? ⟨gb284, 4, none⟩ = some (.int .i64 x285004_1) ∧ w'.cell? ⟨gb284, 5, none⟩ = some (.int .i64 x285005_1) ∧ w'.cell? ⟨gb284, 6, none⟩ = some (.bool x285006_1) ∧ w'.cell? ⟨gb300, 0, none⟩ = some (.string t295) ∧ w'.cell? ⟨gb300, 1, none⟩ = some (.int .i64 t296) ∧ w'.cell? ⟨gb300, 2, none⟩ = some (.int .i64 t297) ∧ w'.cell? ⟨gb300, 3, none⟩ = some (.int .i64 t298) ∧ w'.cell? (ad313.add (x12_1).toNat) = some (.int .i64 (rd l1 x12_1))) ∧ (Kd.R k35 35 w' w.heap.size (fun k_ => k_ ≠ gb300) v311 y310) ∧ (w'.heap[gb274]? = some (.cells #[.string a0_0, .slice A0_1 l0_1.length c0_1] 24 (0, 0))) ∧ (w'.heap[gb275]? = some (.cells #[.string x276000_1, .string x276001_1, .int .i64 x276002_1, .int .i64 x276003_1, .int .i64 x276004_1, .int .i64 x276005_1, .bool x276006_1] 26 (0, 0))) ∧ (w'.heap[gb284]? = some (.cells #[.string x285000_1, .string x285001_1, .int .i64 x285002_1, .int .i64 x285003_1, .int .i64 x285004_1, .int .i64 x285005_1, .bool x285006_1] 26 (0, 0))) ∧ (w'.heap[gb300]? = some (.cells #[.string t295, .int .i64 t296, .int .i64 t297, .int .i64 t298] 35 (0, 0))) ∧ (w'.heap[s_]? = some (.cells #[.string (⟨#[]⟩ : ByteArray), .string (⟨#[]⟩ : ByteArray), .int .i64 0, .int .i64 0, .int .i64 0, .int .i64 0, .bool false] 26 (0, 0))) ∧ (w.heap.size ≤ s_) ∧ (w.heap.size ≤ s_) ∧ (gb274 ≠ s_) ∧ (s_ ≠ gb274) ∧ (gb275 ≠ s_) ∧ (s_ ≠ gb275) ∧ (gb284 ≠ s_) ∧ (s_ ≠ gb284) ∧ (gb300 ≠ s_) ∧ (s_ ≠ gb300) ∧ (Below w.heap.size w w')) ?_ ?_
            rotate_left
            ·
             intro hCont
             refine two_ (i := 10) (j := 17) (Ni := some 60) (Nj := some 15) #[true, true, true, true, true, true, true, true, true, true, true, false, true, false, false, false, false, false, false, false] #[true, true, true, true, true, true, true, true, true, true, false, false, true, false, false, false, false, true, false, false] rfl rfl rfl rfl (two_of HT_.out (by kernel_rfl)) (by decide) (by decide) (fun K hK => ?_) (fun K hK => ?_)
             ·
              skip
              refine goes_ Try.func27 (by kernel_rfl) rfl #[.int .i64 (rd l1 x12_1), .int .i64 3] (by rfl) rfl rfl (by (try simp only [List.map_toArray, List.map_cons, List.map_nil]); first | done | rfl | (simp only [List.length_drop, List.length_take]; rfl)) ?_
              with_reducible refine (palinodelaw19_pick.calls (rd l1 x12_1) 3 t314 _ A22.out).mono ?_
              rintro e w' ⟨rfl, ⟨nd, rfl⟩⟩
              refine ⟨_, rfl, ?_⟩
              refine hK.out _ _ ⟨(Zc BK274.out 0).trans rfl, (Zc BK274.out 1).trans rfl, (Zc BK284.out 0).trans rfl, (Zc BK284.out 1).trans rfl, (Zc BK284.out 2).trans rfl, (Zc BK284.out 3).trans rfl, (Zc BK284.out 4).trans rfl, (Zc BK284.out 5).trans rfl, (Zc BK284.out 6).trans rfl, (Zc BK300.out 0).trans rfl, (Zc BK300.out 1).trans rfl, (Zc BK300.out 2).trans rfl, (Zc BK300.out 3).trans rfl, ((HB.out.cell (World.block_lt_of_cell? w _ hw313_0)).trans hw313_0)⟩ (fun hHeld => ?_)
              clear hK K
              refine norm_ (a' := ?_) ?_ ?_
              rotate_left
              ·
               show Act.put _ (some 60) _ = _
               simp only [Act.put, List.setIfInBounds_toArray, List.set_cons_zero, List.set_cons_succ, i64_w, i32_w]
               rfl
              refine pure_ (i := 11) (N := some 61) (v := ?_) (a' := ?_) #[true, true, true, true, true, true, true, true, true, true, true, true, true, false, false, false, false, false, false, false] rfl rfl (any_of HT_.out (by kernel_rfl)) (fun _ _ _ h => h) (Or.inl ⟨by rfl, ?_⟩) ?_ ?_
              rotate_left
              ·
               intro w'
               go_simp
               with_reducible rfl
              rotate_left
              ·
               simp only [Act.put, List.setIfInBounds_toArray, List.set_cons_zero, List.set_cons_succ, i64_w, i32_w]
               rfl
              refine two_ (i := 13) (j := 17) (Ni := some 63) (Nj := some 15) #[true, true, true, true, true, true, true, true, true, true, true, true, true, true, false, false, false, false, false, false] #[true, true, true, true, true, true, true, true, true, true, true, true, true, false, false, false, false, true, false, false] rfl rfl rfl rfl (two_of HT_.out (by kernel_rfl)) (by decide) (by decide) (fun K hK => ?_) (fun K hK => ?_)
              ·
               skip
               refine goes_ Try.func23 (by kernel_rfl) rfl #[.agg #[.string a0_0, .slice A0_1 l0_1.length c0_1], .agg #[.string x285000_1, .string x285001_1, .int .i64 x285002_1, .int .i64 x285003_1, .int .i64 x285004_1, .int .i64 x285005_1, .bool x285006_1], .int .i64 t296, .int .i64 t297, .int .i64 (wrap64 (1 + t314)), .int .i64 a2] (by rfl) rfl rfl (by (try simp only [List.map_toArray, List.map_cons, List.map_nil]); first | done | rfl | (simp only [List.length_drop, List.length_take]; rfl)) ?_
               with_reducible refine (saga_Reply.calls kj13 a0_0 _ _ l0_1 x285000_1 x285001_1 x285002_1 x285003_1 x285004_1 x285005_1 x285006_1 t296 t297 (wrap64 (1 + t314)) a2 t315 t316 t317 t318 t319 t320 t321 false _ ?side1 ?side2 A23.out).mono ?_
               (case side1 => repeat (first | exact (Kd.C_below HR0_1.out (Yr HB)) | (with_reducible refine Kd.C_alloc ?_ _) | (with_reducible refine Kd.C_drewN ?_ _) | (with_reducible refine Kd.C_drew ?_)))
               (case side2 => exact HC0_1.out)
               rintro e w63 ⟨rfl, hb⟩
               refine ⟨_, rfl, ?_⟩
               have n0_ := Aside0.mk (Kd.R_below (by (with_reducible repeat (first | apply Kd.R_alloc | apply Kd.R_drewN | apply Kd.R_drew)); exact HO312.out) hb)
               have n1_ := Aside0.mk (Zv BK274 hb)
               have n2_ := Aside0.mk (Zv BK275 hb)
               have n3_ := Aside0.mk (Zv BK284 hb)
               have n4_ := Aside0.mk (Zv BK300 hb)
               have n5_ := Aside0.mk (Yv HB hb)
               clear HO312
               clear BK274
               clear BK275
               clear BK284
               clear BK300
               clear HB
               have HO312 := n0_
               have BK274 := n1_
               have BK275 := n2_
               have BK284 := n3_
               have BK300 := n4_
               have HB := n5_
               clear n0_ n1_ n2_ n3_ n4_ n5_
               (try clear hb)
               (try clear hb2)
               (try clear hk)
               (try clear hi)
               refine hK.out _ _ ⟨(Zc BK274.out 0).trans rfl, (Zc BK274.out 1).trans rfl, (Zc BK284.out 0).trans rfl, (Zc BK284.out 1).trans rfl, (Zc BK284.out 2).trans rfl, (Zc BK284.out 3).trans rfl, (Zc BK284.out 4).trans rfl, (Zc BK284.out 5).trans rfl, (Zc BK284.out 6).trans rfl, (Zc BK300.out 0).trans rfl, (Zc BK300.out 1).trans rfl, (Zc BK300.out 2).trans rfl, (Zc BK300.out 3).trans rfl, ((HB.out.cell (World.block_lt_of_cell? w _ hw313_0)).trans hw313_0)⟩ (fun hHeld => ?_)
               clear hK K
               refine norm_ (a' := ?_) ?_ ?_
               rotate_left
               ·
                show Act.put _ (some 63) _ = _
                simp only [Act.put, List.setIfInBounds_toArray, List.set_cons_zero, List.set_cons_succ, i64_w, i32_w]
                rfl
               refine pure_ (i := 14) (N := some 49) (v := ?_) (a' := ?_) #[true, true, true, true, true, true, true, true, true, true, true, true, true, true, true, false, false, false, false, false] rfl rfl (any_of HT_.out (by kernel_rfl)) (fun _ _ _ h => h) (Or.inl ⟨by rfl, ?_⟩) ?_ ?_
               rotate_left
               ·
                intro w'
                go_simp
                with_reducible rfl
               rotate_left
               ·
                simp only [Act.put, List.setIfInBounds_toArray, List.set_cons_zero, List.set_cons_succ, i64_w, i32_w]
                rfl
               refine pure_ (i := 15) (N := some 64) (v := ?_) (a' := ?_) #[true, true, true, true, true, true, true, true, true, true, true, true, true, true, true, true, false, false, false, false] rfl rfl (any_of HT_.out (by kernel_rfl)) (fun _ _ _ h => h) (Or.inl ⟨by rfl, ?_⟩) ?_ ?_
               rotate_left
               ·
                intro w'
                go_simp
                with_reducible rfl
               rotate_left
               ·
                simp only [Act.put, List.setIfInBounds_toArray, List.set_cons_zero, List.set_cons_succ, i64_w, i32_w]
                rfl
               refine pure_ (i := 16) (N := some 65) (v := ?_) (a' := ?_) #[true, true, true, true, true, true, true, true, true, true, true, true, true, true, true, true, true, false, false, false] rfl rfl (any_of HT_.out (by kernel_rfl)) (fun _ _ _ h => h) (Or.inl ⟨by rfl, ?_⟩) ?_ ?_
               rotate_left
               ·
                intro w'
                go_simp
                with_reducible rfl
               rotate_left
               ·
                simp only [Act.put, List.setIfInBounds_toArray, List.set_cons_zero, List.set_cons_succ, i64_w, i32_w]
                rfl
               refine one_ (i := 17) (N := some 15) #[true, true, true, true, true, true, true, true, true, true, true, true, true, true, true, true, true, true, false, false] rfl rfl (one_of HT_.out (by kernel_rfl)) (by decide) (fun K hK => ?_)
               refine box_step ?hg (N := 15) ?hd (cs := #[.string (⟨#[]⟩ : ByteArray), .string (⟨#[]⟩ : ByteArray), .int .i64 0, .int .i64 0, .int .i64 0, .int .i64 0, .bool false]) (t := 26) ?hr ?_; (case hd => rfl); (case hg => rfl); (case hr => first | (go_simp; done) | (go_simp; rfl))
               intro gb323 hg w64 hbox hb
               have n0_ := Aside0.mk (Kd.R_below (by (with_reducible repeat (first | apply Kd.R_alloc | apply Kd.R_drewN | apply Kd.R_drew)); exact HO312.out) hb)
               have n1_ := Aside0.mk (Zv BK274 hb)
               have n2_ := Aside0.mk (Zv BK275 hb)
               have n3_ := Aside0.mk (Zv BK284 hb)
               have n4_ := Aside0.mk (Zv BK300 hb)
               have n5_ := Aside0.mk (Yv HB hb)
               have n6_ := Aside0.mk (hbox)
               have n7_ := Aside0.mk (Yg HB hg)
               have n8_ := Aside0.mk (Yg HB hg)
               have n9_ := Aside0.mk (Zl BK274 hg)
               have n10_ := Aside0.mk (Zg BK274 hg)
               have n11_ := Aside0.mk (Zl BK275 hg)
               have n12_ := Aside0.mk (Zg BK275 hg)
               have n13_ := Aside0.mk (Zl BK284 hg)
               have n14_ := Aside0.mk (Zg BK284 hg)
               have n15_ := Aside0.mk (Zl BK300 hg)
               have n16_ := Aside0.mk (Zg BK300 hg)
               clear HO312
               clear BK274
               clear BK275
               clear BK284
               clear BK300
               clear HB
               have HO312 := n0_
               have BK274 := n1_
               have BK275 := n2_
               have BK284 := n3_
               have BK300 := n4_
               have HB := n5_
               have BK323 := n6_
               have GW323 := n7_
               have GE323 := n8_
               have NB274_323 := n9_
               have NB323_274 := n10_
               have NB275_323 := n11_
               have NB323_275 := n12_
               have NB284_323 := n13_
               have NB323_284 := n14_
               have NB300_323 := n15_
               have NB323_300 := n16_
               clear n0_ n1_ n2_ n3_ n4_ n5_ n6_ n7_ n8_ n9_ n10_ n11_ n12_ n13_ n14_ n15_ n16_
               clear hb hbox hg
               refine hK.out _ _ ⟨(Zc BK274.out 0).trans rfl, (Zc BK274.out 1).trans rfl, (Zc BK284.out 0).trans rfl, (Zc BK284.out 1).trans rfl, (Zc BK284.out 2).trans rfl, (Zc BK284.out 3).trans rfl, (Zc BK284.out 4).trans rfl, (Zc BK284.out 5).trans rfl, (Zc BK284.out 6).trans rfl, (Zc BK300.out 0).trans rfl, (Zc BK300.out 1).trans rfl, (Zc BK300.out 2).trans rfl, (Zc BK300.out 3).trans rfl, ((HB.out.cell (World.block_lt_of_cell? w _ hw313_0)).trans hw313_0)⟩ (fun hHeld => ?_)
               clear hK K
               refine norm_ (a' := ?_) ?_ ?_
               rotate_left
               ·
                show Act.put _ (some 15) _ = _
                simp only [Act.put, List.setIfInBounds_toArray, List.set_cons_zero, List.set_cons_succ, i64_w, i32_w]
                rfl
               exact norm_ (by simp only [putAll, Act.put, List.setIfInBounds_toArray, List.set_cons_zero, List.set_cons_succ]) (hCont (gb323) _ ⟨hHeld, (by (with_reducible repeat (first | apply Kd.R_alloc | apply Kd.R_drewN | apply Kd.R_drew)); exact HO312.out), (Zr BK274), (Zr BK275), (Zr BK284), (Zr BK300), (Zr BK323), GW323.out, GE323.out, NB274_323.out, NB323_274.out, NB275_323.out, NB323_275.out, NB284_323.out, NB323_284.out, NB300_323.out, NB323_300.out, (Yr HB)⟩)
              ·
               skip
               refine box_step ?hg (N := 15) ?hd (cs := #[.string (⟨#[]⟩ : ByteArray), .string (⟨#[]⟩ : ByteArray), .int .i64 0, .int .i64 0, .int .i64 0, .int .i64 0, .bool false]) (t := 26) ?hr ?_; (case hd => rfl); (case hg => rfl); (case hr => first | (go_simp; done) | (go_simp; rfl))
               intro gb323 hg w63 hbox hb
               have n0_ := Aside0.mk (Kd.R_below (by (with_reducible repeat (first | apply Kd.R_alloc | apply Kd.R_drewN | apply Kd.R_drew)); exact HO312.out) hb)
               have n1_ := Aside0.mk (Zv BK274 hb)
               have n2_ := Aside0.mk (Zv BK275 hb)
               have n3_ := Aside0.mk (Zv BK284 hb)
               have n4_ := Aside0.mk (Zv BK300 hb)
               have n5_ := Aside0.mk (Yv HB hb)
               have n6_ := Aside0.mk (hbox)
               have n7_ := Aside0.mk (Yg HB hg)
               have n8_ := Aside0.mk (Yg HB hg)
               have n9_ := Aside0.mk (Zl BK274 hg)
               have n10_ := Aside0.mk (Zg BK274 hg)
               have n11_ := Aside0.mk (Zl BK275 hg)
               have n12_ := Aside0.mk (Zg BK275 hg)
               have n13_ := Aside0.mk (Zl BK284 hg)
               have n14_ := Aside0.mk (Zg BK284 hg)
               have n15_ := Aside0.mk (Zl BK300 hg)
               have n16_ := Aside0.mk (Zg BK300 hg)
               clear HO312
               clear BK274
               clear BK275
               clear BK284
               clear BK300
               clear HB
               have HO312 := n0_
               have BK274 := n1_
               have BK275 := n2_
               have BK284 := n3_
               have BK300 := n4_
               have HB := n5_
               have BK323 := n6_
               have GW323 := n7_
               have GE323 := n8_
               have NB274_323 := n9_
               have NB323_274 := n10_
               have NB275_323 := n11_
               have NB323_275 := n12_
               have NB284_323 := n13_
               have NB323_284 := n14_
               have NB300_323 := n15_
               have NB323_300 := n16_
               clear n0_ n1_ n2_ n3_ n4_ n5_ n6_ n7_ n8_ n9_ n10_ n11_ n12_ n13_ n14_ n15_ n16_
               clear hb hbox hg
               refine hK.out _ _ ⟨(Zc BK274.out 0).trans rfl, (Zc BK274.out 1).trans rfl, (Zc BK284.out 0).trans rfl, (Zc BK284.out 1).trans rfl, (Zc BK284.out 2).trans rfl, (Zc BK284.out 3).trans rfl, (Zc BK284.out 4).trans rfl, (Zc BK284.out 5).trans rfl, (Zc BK284.out 6).trans rfl, (Zc BK300.out 0).trans rfl, (Zc BK300.out 1).trans rfl, (Zc BK300.out 2).trans rfl, (Zc BK300.out 3).trans rfl, ((HB.out.cell (World.block_lt_of_cell? w _ hw313_0)).trans hw313_0)⟩ (fun hHeld => ?_)
               clear hK K
               refine norm_ (a' := ?_) ?_ ?_
               rotate_left
               ·
                show Act.put _ (some 15) _ = _
                simp only [Act.put, List.setIfInBounds_toArray, List.set_cons_zero, List.set_cons_succ, i64_w, i32_w]
                rfl
               refine one_ (i := 13) (N := some 63) #[true, true, true, true, true, true, true, true, true, true, true, true, true, true, false, false, false, true, false, false] rfl rfl (one_of HT_.out (by kernel_rfl)) (by decide) (fun K hK => ?_)
               refine goes_ Try.func23 (by kernel_rfl) rfl #[.agg #[.string a0_0, .slice A0_1 l0_1.length c0_1], .agg #[.string x285000_1, .string x285001_1, .int .i64 x285002_1, .int .i64 x285003_1, .int .i64 x285004_1, .int .i64 x285005_1, .bool x285006_1], .int .i64 t296, .int .i64 t297, .int .i64 (wrap64 (1 + t314)), .int .i64 a2] (by rfl) rfl rfl (by (try simp only [List.map_toArray, List.map_cons, List.map_nil]); first | done | rfl | (simp only [List.length_drop, List.length_take]; rfl)) ?_
               with_reducible refine (saga_Reply.calls kj13 a0_0 _ _ l0_1 x285000_1 x285001_1 x285002_1 x285003_1 x285004_1 x285005_1 x285006_1 t296 t297 (wrap64 (1 + t314)) a2 t315 t316 t317 t318 t319 t320 t321 false _ ?side1 ?side2 A23.out).mono ?_
               (case side1 => repeat (first | exact (Kd.C_below HR0_1.out HB.out) | (with_reducible refine Kd.C_alloc ?_ _) | (with_reducible refine Kd.C_drewN ?_ _) | (with_reducible refine Kd.C_drew ?_)))
               (case side2 => exact HC0_1.out)
               rintro e w64 ⟨rfl, hb⟩
               refine ⟨_, rfl, ?_⟩
               have n0_ := Aside0.mk (Kd.R_below (by (with_reducible repeat (first | apply Kd.R_alloc | apply Kd.R_drewN | apply Kd.R_drew)); exact HO312.out) hb)
               have n1_ := Aside0.mk (Zv BK274 hb)
               have n2_ := Aside0.mk (Zv BK275 hb)
               have n3_ := Aside0.mk (Zv BK284 hb)
               have n4_ := Aside0.mk (Zv BK300 hb)
               have n5_ := Aside0.mk (Zv BK323 hb)
               have n6_ := Aside0.mk (Yv HB hb)
               clear HO312
               clear BK274
               clear BK275
               clear BK284
               clear BK300
               clear BK323
               clear HB
               have HO312 := n0_
               have BK274 := n1_
               have BK275 := n2_
               have BK284 := n3_
               have BK300 := n4_
               have BK323 := n5_
               have HB := n6_
               clear n0_ n1_ n2_ n3_ n4_ n5_ n6_
               (try clear hb)
               (try clear hb2)
               (try clear hk)
               (try clear hi)
               refine hK.out _ _ ⟨(Zc BK274.out 0).trans rfl, (Zc BK274.out 1).trans rfl, (Zc BK284.out 0).trans rfl, (Zc BK284.out 1).trans rfl, (Zc BK284.out 2).trans rfl, (Zc BK284.out 3).trans rfl, (Zc BK284.out 4).trans rfl, (Zc BK284.out 5).trans rfl, (Zc BK284.out 6).trans rfl, (Zc BK300.out 0).trans rfl, (Zc BK300.out 1).trans rfl, (Zc BK300.out 2).trans rfl, (Zc BK300.out 3).trans rfl, ((HB.out.cell (World.block_lt_of_cell? w _ hw313_0)).trans hw313_0)⟩ (fun hHeld => ?_)
               clear hK K
               refine norm_ (a' := ?_) ?_ ?_
               rotate_left
               ·
                show Act.put _ (some 63) _ = _
                simp only [Act.put, List.setIfInBounds_toArray, List.set_cons_zero, List.set_cons_succ, i64_w, i32_w]
                rfl
               refine pure_ (i := 14) (N := some 49) (v := ?_) (a' := ?_) #[true, true, true, true, true, true, true, true, true, true, true, true, true, true, true, false, false, true, false, false] rfl rfl (any_of HT_.out (by kernel_rfl)) (fun _ _ _ h => h) (Or.inl ⟨by rfl, ?_⟩) ?_ ?_
               rotate_left
               ·
                intro w'
                go_simp
                with_reducible rfl
               rotate_left
               ·
                simp only [Act.put, List.setIfInBounds_toArray, List.set_cons_zero, List.set_cons_succ, i64_w, i32_w]
                rfl
               refine pure_ (i := 15) (N := some 64) (v := ?_) (a' := ?_) #[true, true, true, true, true, true, true, true, true, true, true, true, true, true, true, true, false, true, false, false] rfl rfl (any_of HT_.out (by kernel_rfl)) (fun _ _ _ h => h) (Or.inl ⟨by rfl, ?_⟩) ?_ ?_
               rotate_left
               ·
                intro w'
                go_simp
                with_reducible rfl
               rotate_left
               ·
                simp only [Act.put, List.setIfInBounds_toArray, List.set_cons_zero, List.set_cons_succ, i64_w, i32_w]
                rfl
               refine pure_ (i := 16) (N := some 65) (v := ?_) (a' := ?_) #[true, true, true, true, true, true, true, true, true, true, true, true, true, true, true, true, true, true, false, false] rfl rfl (any_of HT_.out (by kernel_rfl)) (fun _ _ _ h => h) (Or.inl ⟨by rfl, ?_⟩) ?_ ?_
               rotate_left
               ·
                intro w'
                go_simp
                with_reducible rfl
               rotate_left
               ·
                simp only [Act.put, List.setIfInBounds_toArray, List.set_cons_zero, List.set_cons_succ, i64_w, i32_w]
                rfl
               exact norm_ (by simp only [putAll, Act.put, List.setIfInBounds_toArray, List.set_cons_zero, List.set_cons_succ]) (hCont (gb323) _ ⟨hHeld, (by (with_reducible repeat (first | apply Kd.R_alloc | apply Kd.R_drewN | apply Kd.R_drew)); exact HO312.out), (Zr BK274), (Zr BK275), (Zr BK284), (Zr BK300), (Zr BK323), GW323.out, GE323.out, NB274_323.out, NB323_274.out, NB275_323.out, NB323_275.out, NB284_323.out, NB323_284.out, NB300_323.out, NB323_300.out, (Yr HB)⟩)
             ·
              skip
              refine box_step ?hg (N := 15) ?hd (cs := #[.string (⟨#[]⟩ : ByteArray), .string (⟨#[]⟩ : ByteArray), .int .i64 0, .int .i64 0, .int .i64 0, .int .i64 0, .bool false]) (t := 26) ?hr ?_; (case hd => rfl); (case hg => rfl); (case hr => first | (go_simp; done) | (go_simp; rfl))
              intro gb323 hg w63 hbox hb
              have n0_ := Aside0.mk (Kd.R_below (by (with_reducible repeat (first | apply Kd.R_alloc | apply Kd.R_drewN | apply Kd.R_drew)); exact HO312.out) hb)
              have n1_ := Aside0.mk (Zv BK274 hb)
              have n2_ := Aside0.mk (Zv BK275 hb)
              have n3_ := Aside0.mk (Zv BK284 hb)
              have n4_ := Aside0.mk (Zv BK300 hb)
              have n5_ := Aside0.mk (Yv HB hb)
              have n6_ := Aside0.mk (hbox)
              have n7_ := Aside0.mk (Yg HB hg)
              have n8_ := Aside0.mk (Yg HB hg)
              have n9_ := Aside0.mk (Zl BK274 hg)
              have n10_ := Aside0.mk (Zg BK274 hg)
              have n11_ := Aside0.mk (Zl BK275 hg)
              have n12_ := Aside0.mk (Zg BK275 hg)
              have n13_ := Aside0.mk (Zl BK284 hg)
              have n14_ := Aside0.mk (Zg BK284 hg)
              have n15_ := Aside0.mk (Zl BK300 hg)
              have n16_ := Aside0.mk (Zg BK300 hg)
              clear HO312
              clear BK274
              clear BK275
              clear BK284
              clear BK300
              clear HB
              have HO312 := n0_
              have BK274 := n1_
              have BK275 := n2_
              have BK284 := n3_
              have BK300 := n4_
              have HB := n5_
              have BK323 := n6_
              have GW323 := n7_
              have GE323 := n8_
              have NB274_323 := n9_
              have NB323_274 := n10_
              have NB275_323 := n11_
              have NB323_275 := n12_
              have NB284_323 := n13_
              have NB323_284 := n14_
              have NB300_323 := n15_
              have NB323_300 := n16_
              clear n0_ n1_ n2_ n3_ n4_ n5_ n6_ n7_ n8_ n9_ n10_ n11_ n12_ n13_ n14_ n15_ n16_
              clear hb hbox hg
              refine hK.out _ _ ⟨(Zc BK274.out 0).trans rfl, (Zc BK274.out 1).trans rfl, (Zc BK284.out 0).trans rfl, (Zc BK284.out 1).trans rfl, (Zc BK284.out 2).trans rfl, (Zc BK284.out 3).trans rfl, (Zc BK284.out 4).trans rfl, (Zc BK284.out 5).trans rfl, (Zc BK284.out 6).trans rfl, (Zc BK300.out 0).trans rfl, (Zc BK300.out 1).trans rfl, (Zc BK300.out 2).trans rfl, (Zc BK300.out 3).trans rfl, ((HB.out.cell (World.block_lt_of_cell? w _ hw313_0)).trans hw313_0)⟩ (fun hHeld => ?_)
              clear hK K
              refine norm_ (a' := ?_) ?_ ?_
              rotate_left
              ·
               show Act.put _ (some 15) _ = _
               simp only [Act.put, List.setIfInBounds_toArray, List.set_cons_zero, List.set_cons_succ, i64_w, i32_w]
               rfl
              refine one_ (i := 10) (N := some 60) #[true, true, true, true, true, true, true, true, true, true, true, false, true, false, false, false, false, true, false, false] rfl rfl (one_of HT_.out (by kernel_rfl)) (by decide) (fun K hK => ?_)
              refine goes_ Try.func27 (by kernel_rfl) rfl #[.int .i64 (rd l1 x12_1), .int .i64 3] (by rfl) rfl rfl (by (try simp only [List.map_toArray, List.map_cons, List.map_nil]); first | done | rfl | (simp only [List.length_drop, List.length_take]; rfl)) ?_
              with_reducible refine (palinodelaw19_pick.calls (rd l1 x12_1) 3 t314 _ A22.out).mono ?_
              rintro e w' ⟨rfl, ⟨nd, rfl⟩⟩
              refine ⟨_, rfl, ?_⟩
              refine hK.out _ _ ⟨(Zc BK274.out 0).trans rfl, (Zc BK274.out 1).trans rfl, (Zc BK284.out 0).trans rfl, (Zc BK284.out 1).trans rfl, (Zc BK284.out 2).trans rfl, (Zc BK284.out 3).trans rfl, (Zc BK284.out 4).trans rfl, (Zc BK284.out 5).trans rfl, (Zc BK284.out 6).trans rfl, (Zc BK300.out 0).trans rfl, (Zc BK300.out 1).trans rfl, (Zc BK300.out 2).trans rfl, (Zc BK300.out 3).trans rfl, ((HB.out.cell (World.block_lt_of_cell? w _ hw313_0)).trans hw313_0)⟩ (fun hHeld => ?_)
              clear hK K
              refine norm_ (a' := ?_) ?_ ?_
              rotate_left
              ·
               show Act.put _ (some 60) _ = _
               simp only [Act.put, List.setIfInBounds_toArray, List.set_cons_zero, List.set_cons_succ, i64_w, i32_w]
               rfl
              refine pure_ (i := 11) (N := some 61) (v := ?_) (a' := ?_) #[true, true, true, true, true, true, true, true, true, true, true, true, true, false, false, false, false, true, false, false] rfl rfl (any_of HT_.out (by kernel_rfl)) (fun _ _ _ h => h) (Or.inl ⟨by rfl, ?_⟩) ?_ ?_
              rotate_left
              ·
               intro w'
               go_simp
               with_reducible rfl
              rotate_left
              ·
               simp only [Act.put, List.setIfInBounds_toArray, List.set_cons_zero, List.set_cons_succ, i64_w, i32_w]
               rfl
              refine one_ (i := 13) (N := some 63) #[true, true, true, true, true, true, true, true, true, true, true, true, true, true, false, false, false, true, false, false] rfl rfl (one_of HT_.out (by kernel_rfl)) (by decide) (fun K hK => ?_)
              refine goes_ Try.func23 (by kernel_rfl) rfl #[.agg #[.string a0_0, .slice A0_1 l0_1.length c0_1], .agg #[.string x285000_1, .string x285001_1, .int .i64 x285002_1, .int .i64 x285003_1, .int .i64 x285004_1, .int .i64 x285005_1, .bool x285006_1], .int .i64 t296, .int .i64 t297, .int .i64 (wrap64 (1 + t314)), .int .i64 a2] (by rfl) rfl rfl (by (try simp only [List.map_toArray, List.map_cons, List.map_nil]); first | done | rfl | (simp only [List.length_drop, List.length_take]; rfl)) ?_
              with_reducible refine (saga_Reply.calls kj13 a0_0 _ _ l0_1 x285000_1 x285001_1 x285002_1 x285003_1 x285004_1 x285005_1 x285006_1 t296 t297 (wrap64 (1 + t314)) a2 t315 t316 t317 t318 t319 t320 t321 false _ ?side1 ?side2 A23.out).mono ?_
              (case side1 => repeat (first | exact (Kd.C_below HR0_1.out (Yr HB)) | (with_reducible refine Kd.C_alloc ?_ _) | (with_reducible refine Kd.C_drewN ?_ _) | (with_reducible refine Kd.C_drew ?_)))
              (case side2 => exact HC0_1.out)
              rintro e w64 ⟨rfl, hb⟩
              refine ⟨_, rfl, ?_⟩
              have n0_ := Aside0.mk (Kd.R_below (by (with_reducible repeat (first | apply Kd.R_alloc | apply Kd.R_drewN | apply Kd.R_drew)); exact HO312.out) hb)
              have n1_ := Aside0.mk (Zv BK274 hb)
              have n2_ := Aside0.mk (Zv BK275 hb)
              have n3_ := Aside0.mk (Zv BK284 hb)
              have n4_ := Aside0.mk (Zv BK300 hb)
              have n5_ := Aside0.mk (Zv BK323 hb)
              have n6_ := Aside0.mk (Yv HB hb)
              clear HO312
              clear BK274
              clear BK275
              clear BK284
              clear BK300
              clear BK323
              clear HB
              have HO312 := n0_
              have BK274 := n1_
              have BK275 := n2_
              have BK284 := n3_
              have BK300 := n4_
              have BK323 := n5_
              have HB := n6_
              clear n0_ n1_ n2_ n3_ n4_ n5_ n6_
              (try clear hb)
              (try clear hb2)
              (try clear hk)
              (try clear hi)
              refine hK.out _ _ ⟨(Zc BK274.out 0).trans rfl, (Zc BK274.out 1).trans rfl, (Zc BK284.out 0).trans rfl, (Zc BK284.out 1).trans rfl, (Zc BK284.out 2).trans rfl, (Zc BK284.out 3).trans rfl, (Zc BK284.out 4).trans rfl, (Zc BK284.out 5).trans rfl, (Zc BK284.out 6).trans rfl, (Zc BK300.out 0).trans rfl, (Zc BK300.out 1).trans rfl, (Zc BK300.out 2).trans rfl, (Zc BK300.out 3).trans rfl, ((HB.out.cell (World.block_lt_of_cell? w _ hw313_0)).trans hw313_0)⟩ (fun hHeld => ?_)
              clear hK K
              refine norm_ (a' := ?_) ?_ ?_
              rotate_left
              ·
               show Act.put _ (some 63) _ = _
               simp only [Act.put, List.setIfInBounds_toArray, List.set_cons_zero, List.set_cons_succ, i64_w, i32_w]
               rfl
              refine pure_ (i := 14) (N := some 49) (v := ?_) (a' := ?_) #[true, true, true, true, true, true, true, true, true, true, true, true, true, true, true, false, false, true, false, false] rfl rfl (any_of HT_.out (by kernel_rfl)) (fun _ _ _ h => h) (Or.inl ⟨by rfl, ?_⟩) ?_ ?_
              rotate_left
              ·
               intro w'
               go_simp
               with_reducible rfl
              rotate_left
              ·
               simp only [Act.put, List.setIfInBounds_toArray, List.set_cons_zero, List.set_cons_succ, i64_w, i32_w]
               rfl
              refine pure_ (i := 15) (N := some 64) (v := ?_) (a' := ?_) #[true, true, true, true, true, true, true, true, true, true, true, true, true, true, true, true, false, true, false, false] rfl rfl (any_of HT_.out (by kernel_rfl)) (fun _ _ _ h => h) (Or.inl ⟨by rfl, ?_⟩) ?_ ?_
              rotate_left
              ·
               intro w'
               go_simp
               with_reducible rfl
              rotate_left
              ·
               simp only [Act.put, List.setIfInBounds_toArray, List.set_cons_zero, List.set_cons_succ, i64_w, i32_w]
               rfl
              refine pure_ (i := 16) (N := some 65) (v := ?_) (a' := ?_) #[true, true, true, true, true, true, true, true, true, true, true, true, true, true, true, true, true, true, false, false] rfl rfl (any_of HT_.out (by kernel_rfl)) (fun _ _ _ h => h) (Or.inl ⟨by rfl, ?_⟩) ?_ ?_
              rotate_left
              ·
               intro w'
               go_simp
               with_reducible rfl
              rotate_left
              ·
               simp only [Act.put, List.setIfInBounds_toArray, List.set_cons_zero, List.set_cons_succ, i64_w, i32_w]
               rfl
              exact norm_ (by simp only [putAll, Act.put, List.setIfInBounds_toArray, List.set_cons_zero, List.set_cons_succ]) (hCont (gb323) _ ⟨hHeld, (by (with_reducible repeat (first | apply Kd.R_alloc | apply Kd.R_drewN | apply Kd.R_drew)); exact HO312.out), (Zr BK274), (Zr BK275), (Zr BK284), (Zr BK300), (Zr BK323), GW323.out, GE323.out, NB274_323.out, NB323_274.out, NB275_323.out, NB323_275.out, NB284_323.out, NB323_284.out, NB300_323.out, NB323_300.out, (Yr HB)⟩)
            rintro gb323 w65 ⟨hS_, h0_, h1_, h2_, h3_, h4_, h5_, h6_, h7_, h8_, h9_, h10_, h11_, h12_, h13_, h14_, h15_, h16_⟩
            have n0_ : Aside0 (Kd.R k35 35 w65 w.heap.size (fun k_ => k_ ≠ gb300) v311 y310) := ⟨h0_⟩
            have n1_ : Aside0 (w65.heap[gb274]? = some (.cells #[.string a0_0, .slice A0_1 l0_1.length c0_1] 24 (0, 0))) := ⟨h1_⟩
            have n2_ : Aside0 (w65.heap[gb275]? = some (.cells #[.string x276000_1, .string x276001_1, .int .i64 x276002_1, .int .i64 x276003_1, .int .i64 x276004_1, .int .i64 x276005_1, .bool x276006_1] 26 (0, 0))) := ⟨h2_⟩
            have n3_ : Aside0 (w65.heap[gb284]? = some (.cells #[.string x285000_1, .string x285001_1, .int .i64 x285002_1, .int .i64 x285003_1, .int .i64 x285004_1, .int .i64 x285005_1, .bool x285006_1] 26 (0, 0))) := ⟨h3_⟩
            have n4_ : Aside0 (w65.heap[gb300]? = some (.cells #[.string t295, .int .i64 t296, .int .i64 t297, .int .i64 t298] 35 (0, 0))) := ⟨h4_⟩
            have n5_ : Aside0 (w65.heap[gb323]? = some (.cells #[.string (⟨#[]⟩ : ByteArray), .string (⟨#[]⟩ : ByteArray), .int .i64 0, .int .i64 0, .int .i64 0, .int .i64 0, .bool false] 26 (0, 0))) := ⟨h5_⟩
            have n6_ : Aside0 (w.heap.size ≤ gb323) := ⟨h6_⟩
            have n7_ : Aside0 (w.heap.size ≤ gb323) := ⟨h7_⟩
            have n8_ : Aside0 (gb274 ≠ gb323) := ⟨h8_⟩
            have n9_ : Aside0 (gb323 ≠ gb274) := ⟨h9_⟩
            have n10_ : Aside0 (gb275 ≠ gb323) := ⟨h10_⟩
            have n11_ : Aside0 (gb323 ≠ gb275) := ⟨h11_⟩
            have n12_ : Aside0 (gb284 ≠ gb323) := ⟨h12_⟩
            have n13_ : Aside0 (gb323 ≠ gb284) := ⟨h13_⟩
            have n14_ : Aside0 (gb300 ≠ gb323) := ⟨h14_⟩
            have n15_ : Aside0 (gb323 ≠ gb300) := ⟨h15_⟩
            have n16_ : Aside0 (Below w.heap.size w w65) := ⟨h16_⟩
            clear HO312
            clear BK274
            clear BK275
            clear BK284
            clear BK300
            clear HB
            clear h0_ h1_ h2_ h3_ h4_ h5_ h6_ h7_ h8_ h9_ h10_ h11_ h12_ h13_ h14_ h15_ h16_
            have HO312 := n0_
            have BK274 := n1_
            have BK275 := n2_
            have BK284 := n3_
            have BK300 := n4_
            have BK323 := n5_
            have GW323 := n6_
            have GE323 := n7_
            have NB274_323 := n8_
            have NB323_274 := n9_
            have NB275_323 := n10_
            have NB323_275 := n11_
            have NB284_323 := n12_
            have NB323_284 := n13_
            have NB300_323 := n14_
            have NB323_300 := n15_
            have HB := n16_
            clear n0_ n1_ n2_ n3_ n4_ n5_ n6_ n7_ n8_ n9_ n10_ n11_ n12_ n13_ n14_ n15_ n16_
            have hHeld : w65.cell? ⟨gb274, 0, none⟩ = some (.string a0_0) ∧ w65.cell? ⟨gb274, 1, none⟩ = some (.slice A0_1 l0_1.length c0_1) ∧ w65.cell? ⟨gb284, 0, none⟩ = some (.string x285000_1) ∧ w65.cell? ⟨gb284, 1, none⟩ = some (.string x285001_1) ∧ w65.cell? ⟨gb284, 2, none⟩ = some (.int .i64 x285002_1) ∧ w65.cell? ⟨gb284, 3, none⟩ = some (.int .i64 x285003_1) ∧ w65.cell? ⟨gb284, 4, none⟩ = some (.int .i64 x285004_1) ∧ w65.cell? ⟨gb284, 5, none⟩ = some (.int .i64 x285005_1) ∧ w65.cell? ⟨gb284, 6, none⟩ = some (.bool x285006_1) ∧ w65.cell? ⟨gb300, 0, none⟩ = some (.string t295) ∧ w65.cell? ⟨gb300, 1, none⟩ = some (.int .i64 t296) ∧ w65.cell? ⟨gb300, 2, none⟩ = some (.int .i64 t297) ∧ w65.cell? ⟨gb300, 3, none⟩ = some (.int .i64 t298) ∧ w65.cell? (ad313.add (x12_1).toNat) = some (.int .i64 (rd l1 x12_1)) := hS_
            refine norm_ (a' := ?_) ?_ ?_
            rotate_left
            ·
             simp only [putAll, Act.put, List.setIfInBounds_toArray, List.set_cons_zero, List.set_cons_succ]
             rfl
            refine one_ (i := 18) (N := none) #[true, true, true, true, true, true, true, true, true, true, true, true, true, true, true, true, true, true, true, false] rfl rfl (one_of HT_.out (by kernel_rfl)) (by decide) (fun K hK => ?_)
            have hs66 : w65.cell? ⟨gb323, 0, none⟩ = some (.string (⟨#[]⟩ : ByteArray)) := (Zc BK323.out 0).trans rfl
            have hfs66 := Zf BK323.out 0
            obtain ⟨hns66_0, hms66_0⟩ := Zo NB274_323
            obtain ⟨hns66_1, hms66_1⟩ := Zo NB275_323
            obtain ⟨hns66_2, hms66_2⟩ := Zo NB284_323
            obtain ⟨hns66_3, hms66_3⟩ := Zo NB300_323
            have hs67 : w65.cell? ⟨gb323, 1, none⟩ = some (.string (⟨#[]⟩ : ByteArray)) := (Zc BK323.out 1).trans rfl
            have hfs67 := Zf BK323.out 1
            obtain ⟨hns67_0, hms67_0⟩ := Zo NB274_323
            obtain ⟨hns67_1, hms67_1⟩ := Zo NB275_323
            obtain ⟨hns67_2, hms67_2⟩ := Zo NB284_323
            obtain ⟨hns67_3, hms67_3⟩ := Zo NB300_323
            have hs68 : w65.cell? ⟨gb323, 2, none⟩ = some (.int .i64 0) := (Zc BK323.out 2).trans rfl
            have hfs68 := Zf BK323.out 2
            obtain ⟨hns68_0, hms68_0⟩ := Zo NB274_323
            obtain ⟨hns68_1, hms68_1⟩ := Zo NB275_323
            obtain ⟨hns68_2, hms68_2⟩ := Zo NB284_323
            obtain ⟨hns68_3, hms68_3⟩ := Zo NB300_323
            have hs69 : w65.cell? ⟨gb323, 3, none⟩ = some (.int .i64 0) := (Zc BK323.out 3).trans rfl
            have hfs69 := Zf BK323.out 3
            obtain ⟨hns69_0, hms69_0⟩ := Zo NB274_323
            obtain ⟨hns69_1, hms69_1⟩ := Zo NB275_323
            obtain ⟨hns69_2, hms69_2⟩ := Zo NB284_323
            obtain ⟨hns69_3, hms69_3⟩ := Zo NB300_323
            have hs70 : w65.cell? ⟨gb323, 4, none⟩ = some (.int .i64 0) := (Zc BK323.out 4).trans rfl
            have hfs70 := Zf BK323.out 4
            obtain ⟨hns70_0, hms70_0⟩ := Zo NB274_323
            obtain ⟨hns70_1, hms70_1⟩ := Zo NB275_323
            obtain ⟨hns70_2, hms70_2⟩ := Zo NB284_323
            obtain ⟨hns70_3, hms70_3⟩ := Zo NB300_323
            have hs71 : w65.cell? ⟨gb323, 5, none⟩ = some (.int .i64 0) := (Zc BK323.out 5).trans rfl
            have hfs71 := Zf BK323.out 5
            obtain ⟨hns71_0, hms71_0⟩ := Zo NB274_323
            obtain ⟨hns71_1, hms71_1⟩ := Zo NB275_323
            obtain ⟨hns71_2, hms71_2⟩ := Zo NB284_323
            obtain ⟨hns71_3, hms71_3⟩ := Zo NB300_323
            have hs72 : w65.cell? ⟨gb323, 6, none⟩ = some (.bool false) := (Zc BK323.out 6).trans rfl
            have hfs72 := Zf BK323.out 6
            obtain ⟨hns72_0, hms72_0⟩ := Zo NB274_323
            obtain ⟨hns72_1, hms72_1⟩ := Zo NB275_323
            obtain ⟨hns72_2, hms72_2⟩ := Zo NB284_323
            obtain ⟨hns72_3, hms72_3⟩ := Zo NB300_323
            refine skip_ (w1 := ?_) (by rfl) rfl ?_ ?_
            rotate_left
            ·
             go_simp
             rfl
            refine hK.out _ _ ⟨((Zh NB274_323).trans (((Zh NB274_323).trans (((Zh NB274_323).trans (((Zh NB274_323).trans (((Zh NB274_323).trans (((Zh NB274_323).trans (((Zh NB274_323).trans (hHeld.1)))))))))))))), ((Zh NB274_323).trans (((Zh NB274_323).trans (((Zh NB274_323).trans (((Zh NB274_323).trans (((Zh NB274_323).trans (((Zh NB274_323).trans (((Zh NB274_323).trans (hHeld.2.1)))))))))))))), ((Zh NB284_323).trans (((Zh NB284_323).trans (((Zh NB284_323).trans (((Zh NB284_323).trans (((Zh NB284_323).trans (((Zh NB284_323).trans (((Zh NB284_323).trans (hHeld.2.2.1)))))))))))))), ((Zh NB284_323).trans (((Zh NB284_323).trans (((Zh NB284_323).trans (((Zh NB284_323).trans (((Zh NB284_323).trans (((Zh NB284_323).trans (((Zh NB284_323).trans (hHeld.2.2.2.1)))))))))))))), ((Zh NB284_323).trans (((Zh NB284_323).trans (((Zh NB284_323).trans (((Zh NB284_323).trans (((Zh NB284_323).trans (((Zh NB284_323).trans (((Zh NB284_323).trans (hHeld.2.2.2.2.1)))))))))))))), ((Zh NB284_323).trans (((Zh NB284_323).trans (((Zh NB284_323).trans (((Zh NB284_323).trans (((Zh NB284_323).trans (((Zh NB284_323).trans (((Zh NB284_323).trans (hHeld.2.2.2.2.2.1)))))))))))))), ((Zh NB284_323).trans (((Zh NB284_323).trans (((Zh NB284_323).trans (((Zh NB284_323).trans (((Zh NB284_323).trans (((Zh NB284_323).trans (((Zh NB284_323).trans (hHeld.2.2.2.2.2.2.1)))))))))))))), ((Zh NB284_323).trans (((Zh NB284_323).trans (((Zh NB284_323).trans (((Zh NB284_323).trans (((Zh NB284_323).trans (((Zh NB284_323).trans (((Zh NB284_323).trans (hHeld.2.2.2.2.2.2.2.1)))))))))))))), ((Zh NB284_323).trans (((Zh NB284_323).trans (((Zh NB284_323).trans (((Zh NB284_323).trans (((Zh NB284_323).trans (((Zh NB284_323).trans (((Zh NB284_323).trans (hHeld.2.2.2.2.2.2.2.2.1)))))))))))))), ((Zh NB300_323).trans (((Zh NB300_323).trans (((Zh NB300_323).trans (((Zh NB300_323).trans (((Zh NB300_323).trans (((Zh NB300_323).trans (((Zh NB300_323).trans (hHeld.2.2.2.2.2.2.2.2.2.1)))))))))))))), ((Zh NB300_323).trans (((Zh NB300_323).trans (((Zh NB300_323).trans (((Zh NB300_323).trans (((Zh NB300_323).trans (((Zh NB300_323).trans (((Zh NB300_323).trans (hHeld.2.2.2.2.2.2.2.2.2.2.1)))))))))))))), ((Zh NB300_323).trans (((Zh NB300_323).trans (((Zh NB300_323).trans (((Zh NB300_323).trans (((Zh NB300_323).trans (((Zh NB300_323).trans (((Zh NB300_323).trans (hHeld.2.2.2.2.2.2.2.2.2.2.2.1)))))))))))))), ((Zh NB300_323).trans (((Zh NB300_323).trans (((Zh NB300_323).trans (((Zh NB300_323).trans (((Zh NB300_323).trans (((Zh NB300_323).trans (((Zh NB300_323).trans (hHeld.2.2.2.2.2.2.2.2.2.2.2.2.1)))))))))))))), ((cell_far (p := ⟨gb323, _, none⟩) (by first | exact Nat.ne_of_lt (Nat.lt_of_lt_of_le (by have := World.block_lt_of_cell? _ _ hw313_0; first | rwa [add_block] at this | exact this) GW323.out) | (rw [add_block]; exact Nat.ne_of_lt (Nat.lt_of_lt_of_le (by have := World.block_lt_of_cell? _ _ hw313_0; first | rwa [add_block] at this | exact this) GW323.out)) | (show (Addr.add _ _).block ≠ _; rw [add_block]; exact Nat.ne_of_lt (Nat.lt_of_lt_of_le (by have := World.block_lt_of_cell? _ _ hw313_0; first | rwa [add_block] at this | exact this) GW323.out)) | (dsimp only; exact Nat.ne_of_lt (Nat.lt_of_lt_of_le (by have := World.block_lt_of_cell? _ _ hw313_0; first | rwa [add_block] at this | exact this) GW323.out))) _).trans (((cell_far (p := ⟨gb323, _, none⟩) (by first | exact Nat.ne_of_lt (Nat.lt_of_lt_of_le (by have := World.block_lt_of_cell? _ _ hw313_0; first | rwa [add_block] at this | exact this) GW323.out) | (rw [add_block]; exact Nat.ne_of_lt (Nat.lt_of_lt_of_le (by have := World.block_lt_of_cell? _ _ hw313_0; first | rwa [add_block] at this | exact this) GW323.out)) | (show (Addr.add _ _).block ≠ _; rw [add_block]; exact Nat.ne_of_lt (Nat.lt_of_lt_of_le (by have := World.block_lt_of_cell? _ _ hw313_0; first | rwa [add_block] at this | exact this) GW323.out)) | (dsimp only; exact Nat.ne_of_lt (Nat.lt_of_lt_of_le (by have := World.block_lt_of_cell? _ _ hw313_0; first | rwa [add_block] at this | exact this) GW323.out))) _).trans (((cell_far (p := ⟨gb323, _, none⟩) (by first | exact Nat.ne_of_lt (Nat.lt_of_lt_of_le (by have := World.block_lt_of_cell? _ _ hw313_0; first | rwa [add_block] at this | exact this) GW323.out) | (rw [add_block]; exact Nat.ne_of_lt (Nat.lt_of_lt_of_le (by have := World.block_lt_of_cell? _ _ hw313_0; first | rwa [add_block] at this | exact this) GW323.out)) | (show (Addr.add _ _).block ≠ _; rw [add_block]; exact Nat.ne_of_lt (Nat.lt_of_lt_of_le (by have := World.block_lt_of_cell? _ _ hw313_0; first | rwa [add_block] at this | exact this) GW323.out)) | (dsimp only; exact Nat.ne_of_lt (Nat.lt_of_lt_of_le (by have := World.block_lt_of_cell? _ _ hw313_0; first | rwa [add_block] at this | exact this) GW323.out))) _).trans (((cell_far (p := ⟨gb323, _, none⟩) (by first | exact Nat.ne_of_lt (Nat.lt_of_lt_of_le (by have := World.block_lt_of_cell? _ _ hw313_0; first | rwa [add_block] at this | exact this) GW323.out) | (rw [add_block]; exact Nat.ne_of_lt (Nat.lt_of_lt_of_le (by have := World.block_lt_of_cell? _ _ hw313_0; first | rwa [add_block] at this | exact this) GW323.out)) | (show (Addr.add _ _).block ≠ _; rw [add_block]; exact Nat.ne_of_lt (Nat.lt_of_lt_of_le (by have := World.block_lt_of_cell? _ _ hw313_0; first | rwa [add_block] at this | exact this) GW323.out)) | (dsimp only; exact Nat.ne_of_lt (Nat.lt_of_lt_of_le (by have := World.block_lt_of_cell? _ _ hw313_0; first | rwa [add_block] at this | exact this) GW323.out))) _).trans (((cell_far (p := ⟨gb323, _, none⟩) (by first | exact Nat.ne_of_lt (Nat.lt_of_lt_of_le (by have := World.block_lt_of_cell? _ _ hw313_0; first | rwa [add_block] at this | exact this) GW323.out) | (rw [add_block]; exact Nat.ne_of_lt (Nat.lt_of_lt_of_le (by have := World.block_lt_of_cell? _ _ hw313_0; first | rwa [add_block] at this | exact this) GW323.out)) | (show (Addr.add _ _).block ≠ _; rw [add_block]; exact Nat.ne_of_lt (Nat.lt_of_lt_of_le (by have := World.block_lt_of_cell? _ _ hw313_0; first | rwa [add_block] at this | exact this) GW323.out)) | (dsimp only; exact Nat.ne_of_lt (Nat.lt_of_lt_of_le (by have := World.block_lt_of_cell? _ _ hw313_0; first | rwa [add_block] at this | exact this) GW323.out))) _).trans (((cell_far (p := ⟨gb323, _, none⟩) (by first | exact Nat.ne_of_lt (Nat.lt_of_lt_of_le (by have := World.block_lt_of_cell? _ _ hw313_0; first | rwa [add_block] at this | exact this) GW323.out) | (rw [add_block]; exact Nat.ne_of_lt (Nat.lt_of_lt_of_le (by have := World.block_lt_of_cell? _ _ hw313_0; first | rwa [add_block] at this | exact this) GW323.out)) | (show (Addr.add _ _).block ≠ _; rw [add_block]; exact Nat.ne_of_lt (Nat.lt_of_lt_of_le (by have := World.block_lt_of_cell? _ _ hw313_0; first | rwa [add_block] at this | exact this) GW323.out)) | (dsimp only; exact Nat.ne_of_lt (Nat.lt_of_lt_of_le (by have := World.block_lt_of_cell? _ _ hw313_0; first | rwa [add_block] at this | exact this) GW323.out))) _).trans (((cell_far (p := ⟨gb323, _, none⟩) (by first | exact Nat.ne_of_lt (Nat.lt_of_lt_of_le (by have := World.block_lt_of_cell? _ _ hw313_0; first | rwa [add_block] at this | exact this) GW323.out) | (rw [add_block]; exact Nat.ne_of_lt (Nat.lt_of_lt_of_le (by have := World.block_lt_of_cell? _ _ hw313_0; first | rwa [add_block] at this | exact this) GW323.out)) | (show (Addr.add _ _).block ≠ _; rw [add_block]; exact Nat.ne_of_lt (Nat.lt_of_lt_of_le (by have := World.block_lt_of_cell? _ _ hw313_0; first | rwa [add_block] at this | exact this) GW323.out)) | (dsimp only; exact Nat.ne_of_lt (Nat.lt_of_lt_of_le (by have := World.block_lt_of_cell? _ _ hw313_0; first | rwa [add_block] at this | exact this) GW323.out))) _).trans (hHeld.2.2.2.2.2.2.2.2.2.2.2.2.2))))))))))))))⟩ (fun hHeld => ?_)
            clear hK K
            refine pure_ (i := 19) (N := some 16) (v := ?_) (a' := ?_) #[true, true, true, true, true, true, true, true, true, true, true, true, true, true, true, true, true, true, true, true] rfl rfl (any_of HT_.out (by kernel_rfl)) (fun _ _ _ h => h) (Or.inl ⟨by rfl, ?_⟩) ?_ ?_
            rotate_left
            ·
             intro w'
             go_simp
             with_reducible rfl
            rotate_left
            ·
             simp only [Act.put, List.setIfInBounds_toArray, List.set_cons_zero, List.set_cons_succ, i64_w, i32_w]
             rfl
            refine done_ (done_of HT_.out (by kernel_rfl)) ?_
            try go_wp2
            have n0_ : Aside0 (Kd.R k35 35 (((((((w65.setCell ⟨gb323, 0, none⟩ (.string t315)).setCell ⟨gb323, 1, none⟩ (.string t316)).setCell ⟨gb323, 2, none⟩ (.int .i64 t317)).setCell ⟨gb323, 3, none⟩ (.int .i64 t318)).setCell ⟨gb323, 4, none⟩ (.int .i64 t319)).setCell ⟨gb323, 5, none⟩ (.int .i64 t320)).setCell ⟨gb323, 6, none⟩ (.bool t321)) w.heap.size (fun k_ => k_ ≠ gb300) v311 y310) := ⟨by (with_reducible repeat (first | apply Kd.R_alloc | apply Kd.R_drewN | apply Kd.R_drew)); exact Kd.R_mono (Kd.R_far (p := ⟨gb323, 6, none⟩) (Kd.R_far (p := ⟨gb323, 5, none⟩) (Kd.R_far (p := ⟨gb323, 4, none⟩) (Kd.R_far (p := ⟨gb323, 3, none⟩) (Kd.R_far (p := ⟨gb323, 2, none⟩) (Kd.R_far (p := ⟨gb323, 1, none⟩) (Kd.R_far (p := ⟨gb323, 0, none⟩) (Kd.R_types HO312.out BK323.out (by decide)) (fun _ hk => hk.2) (.string t315)) (fun _ hk => hk.2) (.string t316)) (fun _ hk => hk.2) (.int .i64 t317)) (fun _ hk => hk.2) (.int .i64 t318)) (fun _ hk => hk.2) (.int .i64 t319)) (fun _ hk => hk.2) (.int .i64 t320)) (fun _ hk => hk.2) (.bool t321)) (fun _ hk => hk.1)⟩
            have n1_ : Aside0 ((((((((w65.setCell ⟨gb323, 0, none⟩ (.string t315)).setCell ⟨gb323, 1, none⟩ (.string t316)).setCell ⟨gb323, 2, none⟩ (.int .i64 t317)).setCell ⟨gb323, 3, none⟩ (.int .i64 t318)).setCell ⟨gb323, 4, none⟩ (.int .i64 t319)).setCell ⟨gb323, 5, none⟩ (.int .i64 t320)).setCell ⟨gb323, 6, none⟩ (.bool t321)).heap[gb274]? = some (.cells #[.string a0_0, .slice A0_1 l0_1.length c0_1] 24 (0, 0))) := ⟨by (with_reducible repeat first | apply Zn | apply Zd | apply Za); refine Zq ?_ NB274_323.out _; (with_reducible repeat first | apply Zn | apply Zd | apply Za); refine Zq ?_ NB274_323.out _; (with_reducible repeat first | apply Zn | apply Zd | apply Za); refine Zq ?_ NB274_323.out _; (with_reducible repeat first | apply Zn | apply Zd | apply Za); refine Zq ?_ NB274_323.out _; (with_reducible repeat first | apply Zn | apply Zd | apply Za); refine Zq ?_ NB274_323.out _; (with_reducible repeat first | apply Zn | apply Zd | apply Za); refine Zq ?_ NB274_323.out _; (with_reducible repeat first | apply Zn | apply Zd | apply Za); refine Zq ?_ NB274_323.out _; (with_reducible repeat first | apply Zn | apply Zd | apply Za); exact BK274.out⟩
            have n2_ : Aside0 ((((((((w65.setCell ⟨gb323, 0, none⟩ (.string t315)).setCell ⟨gb323, 1, none⟩ (.string t316)).setCell ⟨gb323, 2, none⟩ (.int .i64 t317)).setCell ⟨gb323, 3, none⟩ (.int .i64 t318)).setCell ⟨gb323, 4, none⟩ (.int .i64 t319)).setCell ⟨gb323, 5, none⟩ (.int .i64 t320)).setCell ⟨gb323, 6, none⟩ (.bool t321)).heap[gb275]? = some (.cells #[.string x276000_1, .string x276001_1, .int .i64 x276002_1, .int .i64 x276003_1, .int .i64 x276004_1, .int .i64 x276005_1, .bool x276006_1] 26 (0, 0))) := ⟨by (with_reducible repeat first | apply Zn | apply Zd | apply Za); refine Zq ?_ NB275_323.out _; (with_reducible repeat first | apply Zn | apply Zd | apply Za); refine Zq ?_ NB275_323.out _; (with_reducible repeat first | apply Zn | apply Zd | apply Za); refine Zq ?_ NB275_323.out _; (with_reducible repeat first | apply Zn | apply Zd | apply Za); refine Zq ?_ NB275_323.out _; (with_reducible repeat first | apply Zn | apply Zd | apply Za); refine Zq ?_ NB275_323.out _; (with_reducible repeat first | apply Zn | apply Zd | apply Za); refine Zq ?_ NB275_323.out _; (with_reducible repeat first | apply Zn | apply Zd | apply Za); refine Zq ?_ NB275_323.out _; (with_reducible repeat first | apply Zn | apply Zd | apply Za); exact BK275.out⟩
            have n3_ : Aside0 ((((((((w65.setCell ⟨gb323, 0, none⟩ (.string t315)).setCell ⟨gb323, 1, none⟩ (.string t316)).setCell ⟨gb323, 2, none⟩ (.int .i64 t317)).setCell ⟨gb323, 3, none⟩ (.int .i64 t318)).setCell ⟨gb323, 4, none⟩ (.int .i64 t319)).setCell ⟨gb323, 5, none⟩ (.int .i64 t320)).setCell ⟨gb323, 6, none⟩ (.bool t321)).heap[gb284]? = some (.cells #[.string x285000_1, .string x285001_1, .int .i64 x285002_1, .int .i64 x285003_1, .int .i64 x285004_1, .int .i64 x285005_1, .bool x285006_1] 26 (0, 0))) := ⟨by (with_reducible repeat first | apply Zn | apply Zd | apply Za); refine Zq ?_ NB284_323.out _; (with_reducible repeat first | apply Zn | apply Zd | apply Za); refine Zq ?_ NB284_323.out _; (with_reducible repeat first | apply Zn | apply Zd | apply Za); refine Zq ?_ NB284_323.out _; (with_reducible repeat first | apply Zn | apply Zd | apply Za); refine Zq ?_ NB284_323.out _; (with_reducible repeat first | apply Zn | apply Zd | apply Za); refine Zq ?_ NB284_323.out _; (with_reducible repeat first | apply Zn | apply Zd | apply Za); refine Zq ?_ NB284_323.out _; (with_reducible repeat first | apply Zn | apply Zd | apply Za); refine Zq ?_ NB284_323.out _; (with_reducible repeat first | apply Zn | apply Zd | apply Za); exact BK284.out⟩
            have n4_ : Aside0 ((((((((w65.setCell ⟨gb323, 0, none⟩ (.string t315)).setCell ⟨gb323, 1, none⟩ (.string t316)).setCell ⟨gb323, 2, none⟩ (.int .i64 t317)).setCell ⟨gb323, 3, none⟩ (.int .i64 t318)).setCell ⟨gb323, 4, none⟩ (.int .i64 t319)).setCell ⟨gb323, 5, none⟩ (.int .i64 t320)).setCell ⟨gb323, 6, none⟩ (.bool t321)).heap[gb300]? = some (.cells #[.string t295, .int .i64 t296, .int .i64 t297, .int .i64 t298] 35 (0, 0))) := ⟨by (with_reducible repeat first | apply Zn | apply Zd | apply Za); refine Zq ?_ NB300_323.out _; (with_reducible repeat first | apply Zn | apply Zd | apply Za); refine Zq ?_ NB300_323.out _; (with_reducible repeat first | apply Zn | apply Zd | apply Za); refine Zq ?_ NB300_323.out _; (with_reducible repeat first | apply Zn | apply Zd | apply Za); refine Zq ?_ NB300_323.out _; (with_reducible repeat first | apply Zn | apply Zd | apply Za); refine Zq ?_ NB300_323.out _; (with_reducible repeat first | apply Zn | apply Zd | apply Za); refine Zq ?_ NB300_323.out _; (with_reducible repeat first | apply Zn | apply Zd | apply Za); refine Zq ?_ NB300_323.out _; (with_reducible repeat first | apply Zn | apply Zd | apply Za); exact BK300.out⟩
            have n5_ : Aside0 ((((((((w65.setCell ⟨gb323, 0, none⟩ (.string t315)).setCell ⟨gb323, 1, none⟩ (.string t316)).setCell ⟨gb323, 2, none⟩ (.int .i64 t317)).setCell ⟨gb323, 3, none⟩ (.int .i64 t318)).setCell ⟨gb323, 4, none⟩ (.int .i64 t319)).setCell ⟨gb323, 5, none⟩ (.int .i64 t320)).setCell ⟨gb323, 6, none⟩ (.bool t321)).heap[gb323]? = some (.cells #[.string t315, .string t316, .int .i64 t317, .int .i64 t318, .int .i64 t319, .int .i64 t320, .bool t321] 26 (0, 0))) := ⟨by (with_reducible repeat first | apply Zn | apply Zd | apply Za); refine Zp (cs := #[.string t315, .string t316, .int .i64 t317, .int .i64 t318, .int .i64 t319, .int .i64 t320, .bool false]) ?_ 6 _ rfl; (with_reducible repeat first | apply Zn | apply Zd | apply Za); refine Zp (cs := #[.string t315, .string t316, .int .i64 t317, .int .i64 t318, .int .i64 t319, .int .i64 0, .bool false]) ?_ 5 _ rfl; (with_reducible repeat first | apply Zn | apply Zd | apply Za); refine Zp (cs := #[.string t315, .string t316, .int .i64 t317, .int .i64 t318, .int .i64 0, .int .i64 0, .bool false]) ?_ 4 _ rfl; (with_reducible repeat first | apply Zn | apply Zd | apply Za); refine Zp (cs := #[.string t315, .string t316, .int .i64 t317, .int .i64 0, .int .i64 0, .int .i64 0, .bool false]) ?_ 3 _ rfl; (with_reducible repeat first | apply Zn | apply Zd | apply Za); refine Zp (cs := #[.string t315, .string t316, .int .i64 0, .int .i64 0, .int .i64 0, .int .i64 0, .bool false]) ?_ 2 _ rfl; (with_reducible repeat first | apply Zn | apply Zd | apply Za); refine Zp (cs := #[.string t315, .string (⟨#[]⟩ : ByteArray), .int .i64 0, .int .i64 0, .int .i64 0, .int .i64 0, .bool false]) ?_ 1 _ rfl; (with_reducible repeat first | apply Zn | apply Zd | apply Za); refine Zp (cs := #[.string (⟨#[]⟩ : ByteArray), .string (⟨#[]⟩ : ByteArray), .int .i64 0, .int .i64 0, .int .i64 0, .int .i64 0, .bool false]) ?_ 0 _ rfl; (with_reducible repeat first | apply Zn | apply Zd | apply Za); exact BK323.out⟩
            have n6_ : Aside0 (Below w.heap.size w (((((((w65.setCell ⟨gb323, 0, none⟩ (.string t315)).setCell ⟨gb323, 1, none⟩ (.string t316)).setCell ⟨gb323, 2, none⟩ (.int .i64 t317)).setCell ⟨gb323, 3, none⟩ (.int .i64 t318)).setCell ⟨gb323, 4, none⟩ (.int .i64 t319)).setCell ⟨gb323, 5, none⟩ (.int .i64 t320)).setCell ⟨gb323, 6, none⟩ (.bool t321))) := ⟨Yr HB⟩
            (try clear HO312)
            (try clear BK274)
            (try clear BK275)
            (try clear BK284)
            (try clear BK300)
            (try clear BK323)
            (try clear HB)
            generalize (((((((w65.setCell ⟨gb323, 0, none⟩ (.string t315)).setCell ⟨gb323, 1, none⟩ (.string t316)).setCell ⟨gb323, 2, none⟩ (.int .i64 t317)).setCell ⟨gb323, 3, none⟩ (.int .i64 t318)).setCell ⟨gb323, 4, none⟩ (.int .i64 t319)).setCell ⟨gb323, 5, none⟩ (.int .i64 t320)).setCell ⟨gb323, 6, none⟩ (.bool t321)) = w73 at n0_ n1_ n2_ n3_ n4_ n5_ n6_ ⊢
            have HO312 := n0_
            have BK274 := n1_
            have BK275 := n2_
            have BK284 := n3_
            have BK300 := n4_
            have BK323 := n5_
            have HB := n6_
            clear n0_ n1_ n2_ n3_ n4_ n5_ n6_
            have n0_ := Aside0.mk (Kd.R_drew HO312.out)
            have n1_ := Aside0.mk (Zd BK274.out)
            have n2_ := Aside0.mk (Zd BK275.out)
            have n3_ := Aside0.mk (Zd BK284.out)
            have n4_ := Aside0.mk (Zd BK300.out)
            have n5_ := Aside0.mk (Zd BK323.out)
            have n6_ := Aside0.mk (Yd HB.out)
            clear HO312
            clear BK274
            clear BK275
            clear BK284
            clear BK300
            clear BK323
            clear HB
            have HO312 := n0_
            have BK274 := n1_
            have BK275 := n2_
            have BK284 := n3_
            have BK300 := n4_
            have BK323 := n5_
            have HB := n6_
            clear n0_ n1_ n2_ n3_ n4_ n5_ n6_
            refine start_ (n := 4) (S := fun w' => w'.cell? ⟨gb284, 0, none⟩ = some (.string x285000_1) ∧ w'.cell? ⟨gb284, 1, none⟩ = some (.string x285001_1) ∧ w'.cell? ⟨gb284, 2, none⟩ = some (.int .i64 x285002_1) ∧ w'.cell? ⟨gb284, 3, none⟩ = some (.int .i64 x285003_1) ∧ w'.cell? ⟨gb284, 4, none⟩ = some (.int .i64 x285004_1) ∧ w'.cell? ⟨gb284, 5, none⟩ = some (.int .i64 x285005_1) ∧ w'.cell? ⟨gb284, 6, none⟩ = some (.bool x285006_1)) (ds := []) #[false, false, false, false] (by kernel_rfl) rfl rfl ⟨(Zc BK284.out 0).trans rfl, (Zc BK284.out 1).trans rfl, (Zc BK284.out 2).trans rfl, (Zc BK284.out 3).trans rfl, (Zc BK284.out 4).trans rfl, (Zc BK284.out 5).trans rfl, (Zc BK284.out 6).trans rfl⟩ (fun hHeld => ?_)
            generalize w73.drew = w74 at HO312 BK274 BK275 BK284 BK300 BK323 HB hHeld ⊢
            refine pure_ (i := 1) (N := some 6) (v := ?_) (a' := ?_) #[false, true, false, false] rfl rfl (by kernel_rfl) (fun _ _ _ h => h) (Or.inl ⟨by rfl, ?_⟩) ?_ ?_
            rotate_left
            ·
             intro w'
             go_simp
             with_reducible rfl
            rotate_left
            ·
             simp only [Act.put, List.setIfInBounds_toArray, List.set_cons_zero, List.set_cons_succ, i64_w, i32_w]
             rfl
            refine take_ (i := 0) (N := some 68) (v := ?_) (a' := ?_) #[true, true, false, false] rfl rfl (by kernel_rfl) (fun _ _ _ h => h) (Or.inl ⟨by rfl, ?_⟩) hHeld ?_ ?_
            rotate_left
            ·
             rintro w' ⟨s0, s1, s2, s3, s4, s5, s6⟩
             go_simp
             with_reducible rfl
            rotate_left
            ·
             simp only [Act.put, List.setIfInBounds_toArray, List.set_cons_zero, List.set_cons_succ, i64_w, i32_w]
             rfl
            refine one_ (i := 2) (N := none) #[true, true, true, false] rfl rfl (by kernel_rfl) (by decide) (fun K hK => ?_)
            have hs75 : w74.cell? ⟨gb275, 0, none⟩ = some (.string x276000_1) := (Zc BK275.out 0).trans rfl
            have hfs75 := Zf BK275.out 0
            obtain ⟨hns75_0, hms75_0⟩ := Zo NB274_275
            obtain ⟨hns75_2, hms75_2⟩ := Zo NB284_275
            obtain ⟨hns75_3, hms75_3⟩ := Zo NB300_275
            obtain ⟨hns75_4, hms75_4⟩ := Zo NB323_275
            have hs76 : w74.cell? ⟨gb275, 1, none⟩ = some (.string x276001_1) := (Zc BK275.out 1).trans rfl
            have hfs76 := Zf BK275.out 1
            obtain ⟨hns76_0, hms76_0⟩ := Zo NB274_275
            obtain ⟨hns76_2, hms76_2⟩ := Zo NB284_275
            obtain ⟨hns76_3, hms76_3⟩ := Zo NB300_275
            obtain ⟨hns76_4, hms76_4⟩ := Zo NB323_275
            have hs77 : w74.cell? ⟨gb275, 2, none⟩ = some (.int .i64 x276002_1) := (Zc BK275.out 2).trans rfl
            have hfs77 := Zf BK275.out 2
            obtain ⟨hns77_0, hms77_0⟩ := Zo NB274_275
            obtain ⟨hns77_2, hms77_2⟩ := Zo NB284_275
            obtain ⟨hns77_3, hms77_3⟩ := Zo NB300_275
            obtain ⟨hns77_4, hms77_4⟩ := Zo NB323_275
            have hs78 : w74.cell? ⟨gb275, 3, none⟩ = some (.int .i64 x276003_1) := (Zc BK275.out 3).trans rfl
            have hfs78 := Zf BK275.out 3
            obtain ⟨hns78_0, hms78_0⟩ := Zo NB274_275
            obtain ⟨hns78_2, hms78_2⟩ := Zo NB284_275
            obtain ⟨hns78_3, hms78_3⟩ := Zo NB300_275
            obtain ⟨hns78_4, hms78_4⟩ := Zo NB323_275
            have hs79 : w74.cell? ⟨gb275, 4, none⟩ = some (.int .i64 x276004_1) := (Zc BK275.out 4).trans rfl
            have hfs79 := Zf BK275.out 4
            obtain ⟨hns79_0, hms79_0⟩ := Zo NB274_275
            obtain ⟨hns79_2, hms79_2⟩ := Zo NB284_275
            obtain ⟨hns79_3, hms79_3⟩ := Zo NB300_275
            obtain ⟨hns79_4, hms79_4⟩ := Zo NB323_275
            have hs80 : w74.cell? ⟨gb275, 5, none⟩ = some (.int .i64 x276005_1) := (Zc BK275.out 5).trans rfl
            have hfs80 := Zf BK275.out 5
            obtain ⟨hns80_0, hms80_0⟩ := Zo NB274_275
            obtain ⟨hns80_2, hms80_2⟩ := Zo NB284_275
            obtain ⟨hns80_3, hms80_3⟩ := Zo NB300_275
            obtain ⟨hns80_4, hms80_4⟩ := Zo NB323_275
            have hs81 : w74.cell? ⟨gb275, 6, none⟩ = some (.bool x276006_1) := (Zc BK275.out 6).trans rfl
            have hfs81 := Zf BK275.out 6
            obtain ⟨hns81_0, hms81_0⟩ := Zo NB274_275
            obtain ⟨hns81_2, hms81_2⟩ := Zo NB284_275
            obtain ⟨hns81_3, hms81_3⟩ := Zo NB300_275
            obtain ⟨hns81_4, hms81_4⟩ := Zo NB323_275
            refine skip_ (w1 := ?_) (by rfl) rfl ?_ ?_
            rotate_left
            ·
             go_simp
             rfl
            refine hK.out _ _ ⟨((Zh NB284_275).trans (((Zh NB284_275).trans (((Zh NB284_275).trans (((Zh NB284_275).trans (((Zh NB284_275).trans (((Zh NB284_275).trans (((Zh NB284_275).trans (hHeld.1)))))))))))))), ((Zh NB284_275).trans (((Zh NB284_275).trans (((Zh NB284_275).trans (((Zh NB284_275).trans (((Zh NB284_275).trans (((Zh NB284_275).trans (((Zh NB284_275).trans (hHeld.2.1)))))))))))))), ((Zh NB284_275).trans (((Zh NB284_275).trans (((Zh NB284_275).trans (((Zh NB284_275).trans (((Zh NB284_275).trans (((Zh NB284_275).trans (((Zh NB284_275).trans (hHeld.2.2.1)))))))))))))), ((Zh NB284_275).trans (((Zh NB284_275).trans (((Zh NB284_275).trans (((Zh NB284_275).trans (((Zh NB284_275).trans (((Zh NB284_275).trans (((Zh NB284_275).trans (hHeld.2.2.2.1)))))))))))))), ((Zh NB284_275).trans (((Zh NB284_275).trans (((Zh NB284_275).trans (((Zh NB284_275).trans (((Zh NB284_275).trans (((Zh NB284_275).trans (((Zh NB284_275).trans (hHeld.2.2.2.2.1)))))))))))))), ((Zh NB284_275).trans (((Zh NB284_275).trans (((Zh NB284_275).trans (((Zh NB284_275).trans (((Zh NB284_275).trans (((Zh NB284_275).trans (((Zh NB284_275).trans (hHeld.2.2.2.2.2.1)))))))))))))), ((Zh NB284_275).trans (((Zh NB284_275).trans (((Zh NB284_275).trans (((Zh NB284_275).trans (((Zh NB284_275).trans (((Zh NB284_275).trans (((Zh NB284_275).trans (hHeld.2.2.2.2.2.2))))))))))))))⟩ (fun hHeld => ?_)
            clear hK K
            refine pure_ (i := 3) (N := some 8) (v := ?_) (a' := ?_) #[true, true, true, true] rfl rfl (by kernel_rfl) (fun _ _ _ h => h) (Or.inl ⟨by rfl, ?_⟩) ?_ ?_
            rotate_left
            ·
             intro w'
             go_simp
             with_reducible rfl
            rotate_left
            ·
             simp only [Act.put, List.setIfInBounds_toArray, List.set_cons_zero, List.set_cons_succ, i64_w, i32_w]
             rfl
            refine done_ (by kernel_rfl) ?_
            try go_wp2
            refine bodyPost_ret (results_list (rs := [.tmp 6, .cell 7 26, .tmp 8]) rfl (by simp) (.tmp (.cell gb275 26 #[.string x285000_1, .string x285001_1, .int .i64 x285002_1, .int .i64 x285003_1, .int .i64 x285004_1, .int .i64 x285005_1, .bool x285006_1] (0, 0) _ rfl (by (with_reducible repeat first | apply Zn | apply Zd | apply Za); refine Zp (cs := #[.string x285000_1, .string x285001_1, .int .i64 x285002_1, .int .i64 x285003_1, .int .i64 x285004_1, .int .i64 x285005_1, .bool x276006_1]) ?_ 6 _ rfl; (with_reducible repeat first | apply Zn | apply Zd | apply Za); refine Zp (cs := #[.string x285000_1, .string x285001_1, .int .i64 x285002_1, .int .i64 x285003_1, .int .i64 x285004_1, .int .i64 x276005_1, .bool x276006_1]) ?_ 5 _ rfl; (with_reducible repeat first | apply Zn | apply Zd | apply Za); refine Zp (cs := #[.string x285000_1, .string x285001_1, .int .i64 x285002_1, .int .i64 x285003_1, .int .i64 x276004_1, .int .i64 x276005_1, .bool x276006_1]) ?_ 4 _ rfl; (with_reducible repeat first | apply Zn | apply Zd | apply Za); refine Zp (cs := #[.string x285000_1, .string x285001_1, .int .i64 x285002_1, .int .i64 x276003_1, .int .i64 x276004_1, .int .i64 x276005_1, .bool x276006_1]) ?_ 3 _ rfl; (with_reducible repeat first | apply Zn | apply Zd | apply Za); refine Zp (cs := #[.string x285000_1, .string x285001_1, .int .i64 x276002_1, .int .i64 x276003_1, .int .i64 x276004_1, .int .i64 x276005_1, .bool x276006_1]) ?_ 2 _ rfl; (with_reducible repeat first | apply Zn | apply Zd | apply Za); refine Zp (cs := #[.string x285000_1, .string x276001_1, .int .i64 x276002_1, .int .i64 x276003_1, .int .i64 x276004_1, .int .i64 x276005_1, .bool x276006_1]) ?_ 1 _ rfl; (with_reducible repeat first | apply Zn | apply Zd | apply Za); refine Zp (cs := #[.string x276000_1, .string x276001_1, .int .i64 x276002_1, .int .i64 x276003_1, .int .i64 x276004_1, .int .i64 x276005_1, .bool x276006_1]) ?_ 0 _ rfl; (with_reducible repeat first | apply Zn | apply Zd | apply Za); exact BK275.out) Try.underlying26 rfl (by kernel_rfl) (.tmp .nil)))) rfl ?_
            exact ⟨_, by first | rfl | (simp [errW_none, errW_some] <;> rfl) | (simp [*, errW_none, errW_some] <;> rfl), by first | exact Kd.R_nil _ _ _ _ _ | exact Kd.N_nil _ _ _ _ _ | exact Kd.V_nil _ _ _ _ _ | exact Kd.Q_nil _ _ _ _ _ | exact Kd.S_nil _ _ _ _ _, Yr HB⟩
          ·
           rw [if_neg c21] at H
           exact absurd H (by simp)
         ·
          rw [if_neg c20] at H
          exact absurd H (by simp)
        ·
         rw [if_neg c19] at H
         exact absurd H (by simp)
       ·
        replace c18 := Bool.eq_false_iff.mpr c18
        subst c18
        have H1 : ((saga_Command.f x285000_1 x285001_1 x285002_1 x285003_1 x285004_1 x285005_1 x285006_1).bind fun bt301 => (if bt301.2.2.2.2 = true then (if x9_1.length < 3518437208883 then (some ((x9_1 ++ [(⟨bt301.1, bt301.2.1, bt301.2.2.1, bt301.2.2.2.1⟩ : S35)]), x285000_1, x285001_1, x285002_1, x285003_1, x285004_1, x285005_1, x285006_1, true)) else (none)) else (some (x9_1, x285000_1, x285001_1, x285002_1, x285003_1, x285004_1, x285005_1, x285006_1, true)))) = some (r1, r2, r3, r4, r5, r6, r7, r8, r9) := by rw [if_neg (show ¬ (false = true) by decide)] at H; exact H
        clear H
        have H := H1
        clear H1
        replace H := Option.bind_eq_some_iff.mp H
        obtain ⟨⟨t301, t302, t303, t304, t305⟩, A820, H⟩ := H
        replace H : (if t305 = true then (if x9_1.length < 3518437208883 then (some ((x9_1 ++ [(⟨t301, t302, t303, t304⟩ : S35)]), x285000_1, x285001_1, x285002_1, x285003_1, x285004_1, x285005_1, x285006_1, true)) else (none)) else (some (x9_1, x285000_1, x285001_1, x285002_1, x285003_1, x285004_1, x285005_1, x285006_1, true))) = some (r1, r2, r3, r4, r5, r6, r7, r8, r9) := H
        have A82 := Aside0.mk A820
        clear A820
        by_cases c83 : t305 = true
        ·
         subst c83
         have H1 : (if x9_1.length < 3518437208883 then (some ((x9_1 ++ [(⟨t301, t302, t303, t304⟩ : S35)]), x285000_1, x285001_1, x285002_1, x285003_1, x285004_1, x285005_1, x285006_1, true)) else (none)) = some (r1, r2, r3, r4, r5, r6, r7, r8, r9) := by rw [if_pos rfl] at H; exact H
         clear H
         have H := H1
         clear H1
         by_cases c84 : x9_1.length < 3518437208883
         ·
          rw [if_pos c84] at H
          have LMc84 := Aside0.mk c84
          clear c84
          obtain ⟨y307, hy307⟩ : ∃ y_ : List (S35), y_ = (x9_1 ++ [(⟨t301, t302, t303, t304⟩ : S35)]) := ⟨_, rfl⟩
          replace H : (some (y307, x285000_1, x285001_1, x285002_1, x285003_1, x285004_1, x285005_1, x285006_1, true)) = some (r1, r2, r3, r4, r5, r6, r7, r8, r9) := by first | (rw [hy307]; with_reducible exact H) | (have H2_ := (Option.bind_some _ _).symm.trans H; rw [hy307]; with_reducible exact H2_) | (have H2_ := (Option.bind_some _ _).symm.trans H; with_reducible exact H2_) | with_reducible exact H | (rw [hy307]; exact H) | exact H
          have Ny307 := Aside0.mk hy307
          clear hy307
          simp only [Option.some.injEq, Prod.mk.injEq] at H
          obtain ⟨rfl, rfl, rfl, rfl, rfl, rfl, rfl, rfl, rfl⟩ := H
          obtain ⟨hnb85, hnc85⟩ := Zo NB284_274
          obtain ⟨hnb86, hnc86⟩ := Zo NB284_275
          obtain ⟨⟨hcz87_0, hcz87_1, hcz87_2, hcz87_3, hcz87_4, hcz87_5, hcz87_6⟩, hfz87_0, hfz87_1, hfz87_2, hfz87_3, hfz87_4, hfz87_5, hfz87_6⟩ := Zk7 BK284
          try go_wp2_with (first | ((with_reducible refine gate_callee (f := 16) rfl ?_); refine goesL_ (some 40) rfl rfl Try.func16 (by kernel_rfl) rfl #[.agg #[.string x285000_1, .string x285001_1, .int .i64 x285002_1, .int .i64 x285003_1, .int .i64 x285004_1, .int .i64 x285005_1, .bool x285006_1]] rfl (by (try simp only [List.map_toArray, List.map_cons, List.map_nil]); first | done | rfl | (simp only [List.length_drop, List.length_take]; rfl)) ?_; (with_reducible refine (saga_Command.calls x285000_1 x285001_1 x285002_1 x285003_1 x285004_1 x285005_1 x285006_1 t295 t296 t297 t298 false _ A17.out).mono ?_); rintro e w88 ⟨rfl, hb⟩; refine ⟨_, rfl, ?_⟩; have n0_ := Aside0.mk (Kd.R_below (by (with_reducible repeat (first | apply Kd.R_alloc | apply Kd.R_drewN | apply Kd.R_drew)); exact HO_9.out) hb); have n1_ := Aside0.mk (Zv BK274 hb); have n2_ := Aside0.mk (Zv BK275 hb); have n3_ := Aside0.mk (Zv BK284 hb); have n4_ := Aside0.mk (Yv HB hb); clear HO_9; clear BK274; clear BK275; clear BK284; clear HB; have HO_9 := n0_; have BK274 := n1_; have BK275 := n2_; have BK284 := n3_; have HB := n4_; clear n0_ n1_ n2_ n3_ n4_; (try clear hb); (try clear hb2); (try clear hk); (try clear hi)) | ((with_reducible refine gate_dst (N := 13) rfl ?_); refine box_event ?hg (N := 13) ?hd (cs := #[.string (⟨#[]⟩ : ByteArray), .int .i64 0, .int .i64 0, .int .i64 0]) (t := 35) ?hr ?_; (case hd => rfl); (case hg => rfl); (case hr => first | (go_simp; done) | (go_simp; rfl)); intro gb300 hg w89 hbox hb; have n0_ := Aside0.mk (Kd.R_below (Kd.R_elderB (by (with_reducible repeat (first | apply Kd.R_alloc | apply Kd.R_drewN | apply Kd.R_drew)); exact HO_9.out) gb300 (Nat.le_of_eq hg.symm)) hb); have n1_ := Aside0.mk (Zv BK274 hb); have n2_ := Aside0.mk (Zv BK275 hb); have n3_ := Aside0.mk (Zv BK284 hb); have n4_ := Aside0.mk (Yv HB hb); have n5_ := Aside0.mk (hbox); have n6_ := Aside0.mk (Yg HB hg); have n7_ := Aside0.mk (Yg HB hg); have n8_ := Aside0.mk (Zl BK274 hg); have n9_ := Aside0.mk (Zg BK274 hg); have n10_ := Aside0.mk (Zl BK275 hg); have n11_ := Aside0.mk (Zg BK275 hg); have n12_ := Aside0.mk (Zl BK284 hg); have n13_ := Aside0.mk (Zg BK284 hg); clear HO_9; clear BK274; clear BK275; clear BK284; clear HB; have HO_9 := n0_; have BK274 := n1_; have BK275 := n2_; have BK284 := n3_; have HB := n4_; have BK300 := n5_; have GW300 := n6_; have GE300 := n7_; have NB274_300 := n8_; have NB300_274 := n9_; have NB275_300 := n10_; have NB300_275 := n11_; have NB284_300 := n12_; have NB300_284 := n13_; clear n0_ n1_ n2_ n3_ n4_ n5_ n6_ n7_ n8_ n9_ n10_ n11_ n12_ n13_; clear hb hbox hg; obtain ⟨hnb90, hnc90⟩ := Zo NB300_274; obtain ⟨hnb91, hnc91⟩ := Zo NB300_275; obtain ⟨hnb92, hnc92⟩ := Zo NB300_284; obtain ⟨⟨hcz93_0, hcz93_1, hcz93_2, hcz93_3⟩, hfz93_0, hfz93_1, hfz93_2, hfz93_3⟩ := Zk4 BK300; obtain ⟨⟨hcz94_0, hcz94_1, hcz94_2, hcz94_3, hcz94_4, hcz94_5, hcz94_6⟩, hfz94_0, hfz94_1, hfz94_2, hfz94_3, hfz94_4, hfz94_5, hfz94_6⟩ := Zk7 BK284) | ((with_reducible refine gate_callee (f := 16) rfl ?_); refine goesL_ (some 72) rfl rfl Try.func16 (by kernel_rfl) rfl #[.agg #[.string x285000_1, .string x285001_1, .int .i64 x285002_1, .int .i64 x285003_1, .int .i64 x285004_1, .int .i64 x285005_1, .bool x285006_1]] rfl (by (try simp only [List.map_toArray, List.map_cons, List.map_nil]); first | done | rfl | (simp only [List.length_drop, List.length_take]; rfl)) ?_; (with_reducible refine (saga_Command.calls x285000_1 x285001_1 x285002_1 x285003_1 x285004_1 x285005_1 x285006_1 t301 t302 t303 t304 true _ A82.out).mono ?_); rintro e w95 ⟨rfl, hb⟩; refine ⟨_, rfl, ?_⟩; have n0_ := Aside0.mk (Kd.R_below (by (with_reducible repeat (first | apply Kd.R_alloc | apply Kd.R_drewN | apply Kd.R_drew)); exact (Kd.R_mono (Kd.R_far (p := ⟨gb300, 3, none⟩) (Kd.R_far (p := ⟨gb300, 2, none⟩) (Kd.R_far (p := ⟨gb300, 1, none⟩) (Kd.R_far (p := ⟨gb300, 0, none⟩) (Kd.R_mono HO_9.out (fun k_ hk => (⟨hk, hk.2⟩ : _ ∧ k_ ≠ gb300))) (fun _ hk => hk.2) (.string t295)) (fun _ hk => hk.2) (.int .i64 t296)) (fun _ hk => hk.2) (.int .i64 t297)) (fun _ hk => hk.2) (.int .i64 t298)) (fun _ h_ => h_.1))) hb); have n1_ := Aside0.mk (Zv BK274 hb); have n2_ := Aside0.mk (Zv BK275 hb); have n3_ := Aside0.mk (Zv BK284 hb); have n4_ := Aside0.mk (Zb (g := gb300) (o := .cells #[.string t295, .int .i64 t296, .int .i64 t297, .int .i64 t298] 35 (0, 0)) (by (with_reducible repeat first | apply Zn | apply Zd | apply Za); refine Zp (cs := #[.string t295, .int .i64 t296, .int .i64 t297, .int .i64 0]) ?_ 3 _ rfl; (with_reducible repeat first | apply Zn | apply Zd | apply Za); refine Zp (cs := #[.string t295, .int .i64 t296, .int .i64 0, .int .i64 0]) ?_ 2 _ rfl; (with_reducible repeat first | apply Zn | apply Zd | apply Za); refine Zp (cs := #[.string t295, .int .i64 0, .int .i64 0, .int .i64 0]) ?_ 1 _ rfl; (with_reducible repeat first | apply Zn | apply Zd | apply Za); refine Zp (cs := #[.string (⟨#[]⟩ : ByteArray), .int .i64 0, .int .i64 0, .int .i64 0]) ?_ 0 _ rfl; (with_reducible repeat first | apply Zn | apply Zd | apply Za); exact BK300.out) hb); have n5_ := Aside0.mk (Yv HB hb); clear HO_9; clear BK274; clear BK275; clear BK284; clear BK300; clear HB; have HO_9 := n0_; have BK274 := n1_; have BK275 := n2_; have BK284 := n3_; have BK300 := n4_; have HB := n5_; clear n0_ n1_ n2_ n3_ n4_ n5_; (try clear hb); (try clear hb2); (try clear hk); (try clear hi)) | ((with_reducible refine gate_dst (N := 17) rfl ?_); refine box_event ?hg (N := 17) ?hd (cs := #[.string (⟨#[]⟩ : ByteArray), .int .i64 0, .int .i64 0, .int .i64 0]) (t := 35) ?hr ?_; (case hd => rfl); (case hg => rfl); (case hr => first | (go_simp; done) | (go_simp; rfl)); intro gb306 hg w96 hbox hb; have n0_ := Aside0.mk (Kd.R_below (Kd.R_elderB (by (with_reducible repeat (first | apply Kd.R_alloc | apply Kd.R_drewN | apply Kd.R_drew)); exact HO_9.out) gb306 (Nat.le_of_eq hg.symm)) hb); have n1_ := Aside0.mk (Zv BK274 hb); have n2_ := Aside0.mk (Zv BK275 hb); have n3_ := Aside0.mk (Zv BK284 hb); have n4_ := Aside0.mk (Zv BK300 hb); have n5_ := Aside0.mk (Yv HB hb); have n6_ := Aside0.mk (hbox); have n7_ := Aside0.mk (Yg HB hg); have n8_ := Aside0.mk (Yg HB hg); have n9_ := Aside0.mk (Zl BK274 hg); have n10_ := Aside0.mk (Zg BK274 hg); have n11_ := Aside0.mk (Zl BK275 hg); have n12_ := Aside0.mk (Zg BK275 hg); have n13_ := Aside0.mk (Zl BK284 hg); have n14_ := Aside0.mk (Zg BK284 hg); have n15_ := Aside0.mk (Zl BK300 hg); have n16_ := Aside0.mk (Zg BK300 hg); clear HO_9; clear BK274; clear BK275; clear BK284; clear BK300; clear HB; have HO_9 := n0_; have BK274 := n1_; have BK275 := n2_; have BK284 := n3_; have BK300 := n4_; have HB := n5_; have BK306 := n6_; have GW306 := n7_; have GE306 := n8_; have NB274_306 := n9_; have NB306_274 := n10_; have NB275_306 := n11_; have NB306_275 := n12_; have NB284_306 := n13_; have NB306_284 := n14_; have NB300_306 := n15_; have NB306_300 := n16_; clear n0_ n1_ n2_ n3_ n4_ n5_ n6_ n7_ n8_ n9_ n10_ n11_ n12_ n13_ n14_ n15_ n16_; clear hb hbox hg; obtain ⟨hnb97, hnc97⟩ := Zo NB306_274; obtain ⟨hnb98, hnc98⟩ := Zo NB306_275; obtain ⟨hnb99, hnc99⟩ := Zo NB306_284; obtain ⟨hnb100, hnc100⟩ := Zo NB306_300; obtain ⟨⟨hcz101_0, hcz101_1, hcz101_2, hcz101_3⟩, hfz101_0, hfz101_1, hfz101_2, hfz101_3⟩ := Zk4 BK306) | ((with_reducible refine gate_builtin (b := .append) (xs := #[.tmp 76, .tmp 78]) rfl ?_); at_builtin; refine Kd.R_append k35 (w0 := w) w.heap.size rfl (.tmp 76) (.tmp 78) 45 35 (.agg #[(.string ⟨#[]⟩), (.int .i64 0), (.int .i64 0), (.int .i64 0)]) 40 rfl Try.underlying45 info35 rfl (by decide) (by omega) u9 x9_1 (⟨t301, t302, t303, t304⟩ : S35) [.string t301, .int .i64 t302, .int .i64 t303, .int .i64 t304] (fun k_ => k_ ≠ gb300 ∧ k_ ≠ gb306) (fun _ => False) rfl (by first | (go_simp; done) | (go_simp; rfl)) ?aP (fun _ hk => hk.elim) ?aF ?aO ?aB ?aS ?aL ?_; (case aP => exact k35_mkM _ _ _ (⟨t301, t302, t303, t304⟩ : S35)); (case aB => exact (Yr HB)); (case aF => exact (fun k_ hk => ⟨Kd.freshB (g := gb300) (o := .cells #[.string t295, .int .i64 t296, .int .i64 t297, .int .i64 t298] 35 (0, 0)) (Zr BK300) k_ hk, Kd.freshB (g := gb306) (o := .cells #[.string t301, .int .i64 t302, .int .i64 t303, .int .i64 t304] 35 (0, 0)) (by (with_reducible repeat first | apply Zn | apply Zd | apply Za); refine Zp (cs := #[.string t301, .int .i64 t302, .int .i64 t303, .int .i64 0]) ?_ 3 _ rfl; (with_reducible repeat first | apply Zn | apply Zd | apply Za); refine Zp (cs := #[.string t301, .int .i64 t302, .int .i64 0, .int .i64 0]) ?_ 2 _ rfl; (with_reducible repeat first | apply Zn | apply Zd | apply Za); refine Zp (cs := #[.string t301, .int .i64 0, .int .i64 0, .int .i64 0]) ?_ 1 _ rfl; (with_reducible repeat first | apply Zn | apply Zd | apply Za); refine Zp (cs := #[.string (⟨#[]⟩ : ByteArray), .int .i64 0, .int .i64 0, .int .i64 0]) ?_ 0 _ rfl; (with_reducible repeat first | apply Zn | apply Zd | apply Za); exact BK306.out) k_ hk⟩)); (case aO => exact (by (with_reducible repeat (first | apply Kd.R_alloc | apply Kd.R_drewN | apply Kd.R_drew)); exact Kd.R_mono (Kd.R_far (p := ⟨gb306, 3, none⟩) (Kd.R_far (p := ⟨gb306, 2, none⟩) (Kd.R_far (p := ⟨gb306, 1, none⟩) (Kd.R_far (p := ⟨gb306, 0, none⟩) (Kd.R_mono HO_9.out (fun k_ hk => (⟨hk, hk.2⟩ : _ ∧ k_ ≠ gb306))) (fun _ hk => hk.2) (.string t301)) (fun _ hk => hk.2) (.int .i64 t302)) (fun _ hk => hk.2) (.int .i64 t303)) (fun _ hk => hk.2) (.int .i64 t304)) (fun _ hk => ⟨hk.1.1.2, hk.1.2⟩))); (case aS => exact (below_size (Yr HB))); (case aL => have := LMc84.out; omega); intro v308 w102 ho hb hg hat; rw [← Ny307.out] at ho; have n0_ := Aside0.mk (blk_grown (g := gb274) (o := .cells #[.string a0_0, .slice A0_1 l0_1.length c0_1] 24 (0, 0)) (Zr BK274) hg (Kd.R_ne HO_9.out BK274.out (by decide))); have n1_ := Aside0.mk (blk_grown (g := gb275) (o := .cells #[.string x276000_1, .string x276001_1, .int .i64 x276002_1, .int .i64 x276003_1, .int .i64 x276004_1, .int .i64 x276005_1, .bool x276006_1] 26 (0, 0)) (Zr BK275) hg (Kd.R_ne HO_9.out BK275.out (by decide))); have n2_ := Aside0.mk (blk_grown (g := gb284) (o := .cells #[.string x285000_1, .string x285001_1, .int .i64 x285002_1, .int .i64 x285003_1, .int .i64 x285004_1, .int .i64 x285005_1, .bool x285006_1] 26 (0, 0)) (Zr BK284) hg (Kd.R_ne HO_9.out BK284.out (by decide))); have n3_ := Aside0.mk (blk_grown (g := gb300) (o := .cells #[.string t295, .int .i64 t296, .int .i64 t297, .int .i64 t298] 35 (0, 0)) (Zr BK300) hg (Kd.R_away HO_9.out (fun _ hk => hk.1.2))); have n4_ := Aside0.mk (blk_grown (g := gb306) (o := .cells #[.string t301, .int .i64 t302, .int .i64 t303, .int .i64 t304] 35 (0, 0)) (by (with_reducible repeat first | apply Zn | apply Zd | apply Za); refine Zp (cs := #[.string t301, .int .i64 t302, .int .i64 t303, .int .i64 0]) ?_ 3 _ rfl; (with_reducible repeat first | apply Zn | apply Zd | apply Za); refine Zp (cs := #[.string t301, .int .i64 t302, .int .i64 0, .int .i64 0]) ?_ 2 _ rfl; (with_reducible repeat first | apply Zn | apply Zd | apply Za); refine Zp (cs := #[.string t301, .int .i64 0, .int .i64 0, .int .i64 0]) ?_ 1 _ rfl; (with_reducible repeat first | apply Zn | apply Zd | apply Za); refine Zp (cs := #[.string (⟨#[]⟩ : ByteArray), .int .i64 0, .int .i64 0, .int .i64 0]) ?_ 0 _ rfl; (with_reducible repeat first | apply Zn | apply Zd | apply Za); exact BK306.out) hg (Kd.R_away HO_9.out (fun _ hk => hk.2))); have n5_ := Aside0.mk (hb); have n6_ := Aside0.mk (ho); clear BK274; clear BK275; clear BK284; clear BK300; clear BK306; clear HB; clear HO_9; have BK274 := n0_; have BK275 := n1_; have BK284 := n2_; have BK300 := n3_; have BK306 := n4_; have HB := n5_; have HO309 := n6_; clear n0_ n1_ n2_ n3_ n4_ n5_ n6_; clear ho hb hg hat))
          have n0_ := Aside0.mk (Kd.R_drew HO309.out)
          have n1_ := Aside0.mk (Zd BK274.out)
          have n2_ := Aside0.mk (Zd BK275.out)
          have n3_ := Aside0.mk (Zd BK284.out)
          have n4_ := Aside0.mk (Zd BK300.out)
          have n5_ := Aside0.mk (Zd BK306.out)
          have n6_ := Aside0.mk (Yd HB.out)
          clear HO309
          clear BK274
          clear BK275
          clear BK284
          clear BK300
          clear BK306
          clear HB
          have HO309 := n0_
          have BK274 := n1_
          have BK275 := n2_
          have BK284 := n3_
          have BK300 := n4_
          have BK306 := n5_
          have HB := n6_
          clear n0_ n1_ n2_ n3_ n4_ n5_ n6_
          refine start_ (n := 5) (S := fun w' => w'.cell? ⟨gb284, 0, none⟩ = some (.string x285000_1) ∧ w'.cell? ⟨gb284, 1, none⟩ = some (.string x285001_1) ∧ w'.cell? ⟨gb284, 2, none⟩ = some (.int .i64 x285002_1) ∧ w'.cell? ⟨gb284, 3, none⟩ = some (.int .i64 x285003_1) ∧ w'.cell? ⟨gb284, 4, none⟩ = some (.int .i64 x285004_1) ∧ w'.cell? ⟨gb284, 5, none⟩ = some (.int .i64 x285005_1) ∧ w'.cell? ⟨gb284, 6, none⟩ = some (.bool x285006_1)) (ds := []) #[false, false, false, false, false] (by kernel_rfl) rfl rfl ⟨(Zc BK284.out 0).trans rfl, (Zc BK284.out 1).trans rfl, (Zc BK284.out 2).trans rfl, (Zc BK284.out 3).trans rfl, (Zc BK284.out 4).trans rfl, (Zc BK284.out 5).trans rfl, (Zc BK284.out 6).trans rfl⟩ (fun hHeld => ?_)
          generalize w102.drew = w103 at HO309 BK274 BK275 BK284 BK300 BK306 HB hHeld ⊢
          refine pure_ (i := 0) (N := some 80) (v := ?_) (a' := ?_) #[true, false, false, false, false] rfl rfl (by kernel_rfl) (fun _ _ _ h => h) (Or.inl ⟨by rfl, ?_⟩) ?_ ?_
          rotate_left
          ·
           intro w'
           go_simp
           with_reducible rfl
          rotate_left
          ·
           simp only [Act.put, List.setIfInBounds_toArray, List.set_cons_zero, List.set_cons_succ, i64_w, i32_w]
           rfl
          refine pure_ (i := 2) (N := some 6) (v := ?_) (a' := ?_) #[true, false, true, false, false] rfl rfl (by kernel_rfl) (fun _ _ _ h => h) (Or.inl ⟨by rfl, ?_⟩) ?_ ?_
          rotate_left
          ·
           intro w'
           go_simp
           with_reducible rfl
          rotate_left
          ·
           simp only [Act.put, List.setIfInBounds_toArray, List.set_cons_zero, List.set_cons_succ, i64_w, i32_w]
           rfl
          refine take_ (i := 1) (N := some 81) (v := ?_) (a' := ?_) #[true, true, true, false, false] rfl rfl (by kernel_rfl) (fun _ _ _ h => h) (Or.inl ⟨by rfl, ?_⟩) hHeld ?_ ?_
          rotate_left
          ·
           rintro w' ⟨s0, s1, s2, s3, s4, s5, s6⟩
           go_simp
           with_reducible rfl
          rotate_left
          ·
           simp only [Act.put, List.setIfInBounds_toArray, List.set_cons_zero, List.set_cons_succ, i64_w, i32_w]
           rfl
          refine one_ (i := 3) (N := none) #[true, true, true, true, false] rfl rfl (by kernel_rfl) (by decide) (fun K hK => ?_)
          have hs104 : w103.cell? ⟨gb275, 0, none⟩ = some (.string x276000_1) := (Zc BK275.out 0).trans rfl
          have hfs104 := Zf BK275.out 0
          obtain ⟨hns104_0, hms104_0⟩ := Zo NB274_275
          obtain ⟨hns104_2, hms104_2⟩ := Zo NB284_275
          obtain ⟨hns104_3, hms104_3⟩ := Zo NB300_275
          obtain ⟨hns104_4, hms104_4⟩ := Zo NB306_275
          have hs105 : w103.cell? ⟨gb275, 1, none⟩ = some (.string x276001_1) := (Zc BK275.out 1).trans rfl
          have hfs105 := Zf BK275.out 1
          obtain ⟨hns105_0, hms105_0⟩ := Zo NB274_275
          obtain ⟨hns105_2, hms105_2⟩ := Zo NB284_275
          obtain ⟨hns105_3, hms105_3⟩ := Zo NB300_275
          obtain ⟨hns105_4, hms105_4⟩ := Zo NB306_275
          have hs106 : w103.cell? ⟨gb275, 2, none⟩ = some (.int .i64 x276002_1) := (Zc BK275.out 2).trans rfl
          have hfs106 := Zf BK275.out 2
          obtain ⟨hns106_0, hms106_0⟩ := Zo NB274_275
          obtain ⟨hns106_2, hms106_2⟩ := Zo NB284_275
          obtain ⟨hns106_3, hms106_3⟩ := Zo NB300_275
          obtain ⟨hns106_4, hms106_4⟩ := Zo NB306_275
          have hs107 : w103.cell? ⟨gb275, 3, none⟩ = some (.int .i64 x276003_1) := (Zc BK275.out 3).trans rfl
          have hfs107 := Zf BK275.out 3
          obtain ⟨hns107_0, hms107_0⟩ := Zo NB274_275
          obtain ⟨hns107_2, hms107_2⟩ := Zo NB284_275
          obtain ⟨hns107_3, hms107_3⟩ := Zo NB300_275
          obtain ⟨hns107_4, hms107_4⟩ := Zo NB306_275
          have hs108 : w103.cell? ⟨gb275, 4, none⟩ = some (.int .i64 x276004_1) := (Zc BK275.out 4).trans rfl
          have hfs108 := Zf BK275.out 4
          obtain ⟨hns108_0, hms108_0⟩ := Zo NB274_275
          obtain ⟨hns108_2, hms108_2⟩ := Zo NB284_275
          obtain ⟨hns108_3, hms108_3⟩ := Zo NB300_275
          obtain ⟨hns108_4, hms108_4⟩ := Zo NB306_275
          have hs109 : w103.cell? ⟨gb275, 5, none⟩ = some (.int .i64 x276005_1) := (Zc BK275.out 5).trans rfl
          have hfs109 := Zf BK275.out 5
          obtain ⟨hns109_0, hms109_0⟩ := Zo NB274_275
          obtain ⟨hns109_2, hms109_2⟩ := Zo NB284_275
          obtain ⟨hns109_3, hms109_3⟩ := Zo NB300_275
          obtain ⟨hns109_4, hms109_4⟩ := Zo NB306_275
          have hs110 : w103.cell? ⟨gb275, 6, none⟩ = some (.bool x276006_1) := (Zc BK275.out 6).trans rfl
          have hfs110 := Zf BK275.out 6
          obtain ⟨hns110_0, hms110_0⟩ := Zo NB274_275
          obtain ⟨hns110_2, hms110_2⟩ := Zo NB284_275
          obtain ⟨hns110_3, hms110_3⟩ := Zo NB300_275
          obtain ⟨hns110_4, hms110_4⟩ := Zo NB306_275
          refine skip_ (w1 := ?_) (by rfl) rfl ?_ ?_
          rotate_left
          ·
           go_simp
           rfl
          refine hK.out _ _ ⟨((Zh NB284_275).trans (((Zh NB284_275).trans (((Zh NB284_275).trans (((Zh NB284_275).trans (((Zh NB284_275).trans (((Zh NB284_275).trans (((Zh NB284_275).trans (hHeld.1)))))))))))))), ((Zh NB284_275).trans (((Zh NB284_275).trans (((Zh NB284_275).trans (((Zh NB284_275).trans (((Zh NB284_275).trans (((Zh NB284_275).trans (((Zh NB284_275).trans (hHeld.2.1)))))))))))))), ((Zh NB284_275).trans (((Zh NB284_275).trans (((Zh NB284_275).trans (((Zh NB284_275).trans (((Zh NB284_275).trans (((Zh NB284_275).trans (((Zh NB284_275).trans (hHeld.2.2.1)))))))))))))), ((Zh NB284_275).trans (((Zh NB284_275).trans (((Zh NB284_275).trans (((Zh NB284_275).trans (((Zh NB284_275).trans (((Zh NB284_275).trans (((Zh NB284_275).trans (hHeld.2.2.2.1)))))))))))))), ((Zh NB284_275).trans (((Zh NB284_275).trans (((Zh NB284_275).trans (((Zh NB284_275).trans (((Zh NB284_275).trans (((Zh NB284_275).trans (((Zh NB284_275).trans (hHeld.2.2.2.2.1)))))))))))))), ((Zh NB284_275).trans (((Zh NB284_275).trans (((Zh NB284_275).trans (((Zh NB284_275).trans (((Zh NB284_275).trans (((Zh NB284_275).trans (((Zh NB284_275).trans (hHeld.2.2.2.2.2.1)))))))))))))), ((Zh NB284_275).trans (((Zh NB284_275).trans (((Zh NB284_275).trans (((Zh NB284_275).trans (((Zh NB284_275).trans (((Zh NB284_275).trans (((Zh NB284_275).trans (hHeld.2.2.2.2.2.2))))))))))))))⟩ (fun hHeld => ?_)
          clear hK K
          refine pure_ (i := 4) (N := some 8) (v := ?_) (a' := ?_) #[true, true, true, true, true] rfl rfl (by kernel_rfl) (fun _ _ _ h => h) (Or.inl ⟨by rfl, ?_⟩) ?_ ?_
          rotate_left
          ·
           intro w'
           go_simp
           with_reducible rfl
          rotate_left
          ·
           simp only [Act.put, List.setIfInBounds_toArray, List.set_cons_zero, List.set_cons_succ, i64_w, i32_w]
           rfl
          refine done_ (by kernel_rfl) ?_
          try go_wp2
          refine bodyPost_ret (results_list (rs := [.tmp 6, .cell 7 26, .tmp 8]) rfl (by simp) (.tmp (.cell gb275 26 #[.string x285000_1, .string x285001_1, .int .i64 x285002_1, .int .i64 x285003_1, .int .i64 x285004_1, .int .i64 x285005_1, .bool x285006_1] (0, 0) _ rfl (by (with_reducible repeat first | apply Zn | apply Zd | apply Za); refine Zp (cs := #[.string x285000_1, .string x285001_1, .int .i64 x285002_1, .int .i64 x285003_1, .int .i64 x285004_1, .int .i64 x285005_1, .bool x276006_1]) ?_ 6 _ rfl; (with_reducible repeat first | apply Zn | apply Zd | apply Za); refine Zp (cs := #[.string x285000_1, .string x285001_1, .int .i64 x285002_1, .int .i64 x285003_1, .int .i64 x285004_1, .int .i64 x276005_1, .bool x276006_1]) ?_ 5 _ rfl; (with_reducible repeat first | apply Zn | apply Zd | apply Za); refine Zp (cs := #[.string x285000_1, .string x285001_1, .int .i64 x285002_1, .int .i64 x285003_1, .int .i64 x276004_1, .int .i64 x276005_1, .bool x276006_1]) ?_ 4 _ rfl; (with_reducible repeat first | apply Zn | apply Zd | apply Za); refine Zp (cs := #[.string x285000_1, .string x285001_1, .int .i64 x285002_1, .int .i64 x276003_1, .int .i64 x276004_1, .int .i64 x276005_1, .bool x276006_1]) ?_ 3 _ rfl; (with_reducible repeat first | apply Zn | apply Zd | apply Za); refine Zp (cs := #[.string x285000_1, .string x285001_1, .int .i64 x276002_1, .int .i64 x276003_1, .int .i64 x276004_1, .int .i64 x276005_1, .bool x276006_1]) ?_ 2 _ rfl; (with_reducible repeat first | apply Zn | apply Zd | apply Za); refine Zp (cs := #[.string x285000_1, .string x276001_1, .int .i64 x276002_1, .int .i64 x276003_1, .int .i64 x276004_1, .int .i64 x276005_1, .bool x276006_1]) ?_ 1 _ rfl; (with_reducible repeat first | apply Zn | apply Zd | apply Za); refine Zp (cs := #[.string x276000_1, .string x276001_1, .int .i64 x276002_1, .int .i64 x276003_1, .int .i64 x276004_1, .int .i64 x276005_1, .bool x276006_1]) ?_ 0 _ rfl; (with_reducible repeat first | apply Zn | apply Zd | apply Za); exact BK275.out) Try.underlying26 rfl (by kernel_rfl) (.tmp .nil)))) rfl ?_
          exact ⟨_, by first | rfl | (simp [errW_none, errW_some] <;> rfl) | (simp [*, errW_none, errW_some] <;> rfl), by (with_reducible repeat (first | apply Kd.R_alloc | apply Kd.R_drewN | apply Kd.R_drew)); exact Kd.R_mono (Kd.R_far (p := ⟨gb275, 6, none⟩) (Kd.R_far (p := ⟨gb275, 5, none⟩) (Kd.R_far (p := ⟨gb275, 4, none⟩) (Kd.R_far (p := ⟨gb275, 3, none⟩) (Kd.R_far (p := ⟨gb275, 2, none⟩) (Kd.R_far (p := ⟨gb275, 1, none⟩) (Kd.R_far (p := ⟨gb275, 0, none⟩) (Kd.R_types HO309.out BK275.out (by decide)) (fun _ hk => hk.2) (.string x285000_1)) (fun _ hk => hk.2) (.string x285001_1)) (fun _ hk => hk.2) (.int .i64 x285002_1)) (fun _ hk => hk.2) (.int .i64 x285003_1)) (fun _ hk => hk.2) (.int .i64 x285004_1)) (fun _ hk => hk.2) (.int .i64 x285005_1)) (fun _ hk => hk.2) (.bool x285006_1)) (fun _ hk => trivial), Yr HB⟩
         ·
          rw [if_neg c84] at H
          exact absurd H (by simp)
        ·
         replace c83 := Bool.eq_false_iff.mpr c83
         subst c83
         have H1 : (some (x9_1, x285000_1, x285001_1, x285002_1, x285003_1, x285004_1, x285005_1, x285006_1, true)) = some (r1, r2, r3, r4, r5, r6, r7, r8, r9) := by rw [if_neg (show ¬ (false = true) by decide)] at H; exact H
         clear H
         have H := H1
         clear H1
         simp only [Option.some.injEq, Prod.mk.injEq] at H
         obtain ⟨rfl, rfl, rfl, rfl, rfl, rfl, rfl, rfl, rfl⟩ := H
         obtain ⟨hnb111, hnc111⟩ := Zo NB284_274
         obtain ⟨hnb112, hnc112⟩ := Zo NB284_275
         obtain ⟨⟨hcz113_0, hcz113_1, hcz113_2, hcz113_3, hcz113_4, hcz113_5, hcz113_6⟩, hfz113_0, hfz113_1, hfz113_2, hfz113_3, hfz113_4, hfz113_5, hfz113_6⟩ := Zk7 BK284
         try go_wp2_with (first | ((with_reducible refine gate_callee (f := 16) rfl ?_); refine goesL_ (some 40) rfl rfl Try.func16 (by kernel_rfl) rfl #[.agg #[.string x285000_1, .string x285001_1, .int .i64 x285002_1, .int .i64 x285003_1, .int .i64 x285004_1, .int .i64 x285005_1, .bool x285006_1]] rfl (by (try simp only [List.map_toArray, List.map_cons, List.map_nil]); first | done | rfl | (simp only [List.length_drop, List.length_take]; rfl)) ?_; (with_reducible refine (saga_Command.calls x285000_1 x285001_1 x285002_1 x285003_1 x285004_1 x285005_1 x285006_1 t295 t296 t297 t298 false _ A17.out).mono ?_); rintro e w114 ⟨rfl, hb⟩; refine ⟨_, rfl, ?_⟩; have n0_ := Aside0.mk (Kd.R_below (by (with_reducible repeat (first | apply Kd.R_alloc | apply Kd.R_drewN | apply Kd.R_drew)); exact HO_9.out) hb); have n1_ := Aside0.mk (Zv BK274 hb); have n2_ := Aside0.mk (Zv BK275 hb); have n3_ := Aside0.mk (Zv BK284 hb); have n4_ := Aside0.mk (Yv HB hb); clear HO_9; clear BK274; clear BK275; clear BK284; clear HB; have HO_9 := n0_; have BK274 := n1_; have BK275 := n2_; have BK284 := n3_; have HB := n4_; clear n0_ n1_ n2_ n3_ n4_; (try clear hb); (try clear hb2); (try clear hk); (try clear hi)) | ((with_reducible refine gate_dst (N := 13) rfl ?_); refine box_event ?hg (N := 13) ?hd (cs := #[.string (⟨#[]⟩ : ByteArray), .int .i64 0, .int .i64 0, .int .i64 0]) (t := 35) ?hr ?_; (case hd => rfl); (case hg => rfl); (case hr => first | (go_simp; done) | (go_simp; rfl)); intro gb300 hg w115 hbox hb; have n0_ := Aside0.mk (Kd.R_below (Kd.R_elderB (by (with_reducible repeat (first | apply Kd.R_alloc | apply Kd.R_drewN | apply Kd.R_drew)); exact HO_9.out) gb300 (Nat.le_of_eq hg.symm)) hb); have n1_ := Aside0.mk (Zv BK274 hb); have n2_ := Aside0.mk (Zv BK275 hb); have n3_ := Aside0.mk (Zv BK284 hb); have n4_ := Aside0.mk (Yv HB hb); have n5_ := Aside0.mk (hbox); have n6_ := Aside0.mk (Yg HB hg); have n7_ := Aside0.mk (Yg HB hg); have n8_ := Aside0.mk (Zl BK274 hg); have n9_ := Aside0.mk (Zg BK274 hg); have n10_ := Aside0.mk (Zl BK275 hg); have n11_ := Aside0.mk (Zg BK275 hg); have n12_ := Aside0.mk (Zl BK284 hg); have n13_ := Aside0.mk (Zg BK284 hg); clear HO_9; clear BK274; clear BK275; clear BK284; clear HB; have HO_9 := n0_; have BK274 := n1_; have BK275 := n2_; have BK284 := n3_; have HB := n4_; have BK300 := n5_; have GW300 := n6_; have GE300 := n7_; have NB274_300 := n8_; have NB300_274 := n9_; have NB275_300 := n10_; have NB300_275 := n11_; have NB284_300 := n12_; have NB300_284 := n13_; clear n0_ n1_ n2_ n3_ n4_ n5_ n6_ n7_ n8_ n9_ n10_ n11_ n12_ n13_; clear hb hbox hg; obtain ⟨hnb116, hnc116⟩ := Zo NB300_274; obtain ⟨hnb117, hnc117⟩ := Zo NB300_275; obtain ⟨hnb118, hnc118⟩ := Zo NB300_284; obtain ⟨⟨hcz119_0, hcz119_1, hcz119_2, hcz119_3⟩, hfz119_0, hfz119_1, hfz119_2, hfz119_3⟩ := Zk4 BK300; obtain ⟨⟨hcz120_0, hcz120_1, hcz120_2, hcz120_3, hcz120_4, hcz120_5, hcz120_6⟩, hfz120_0, hfz120_1, hfz120_2, hfz120_3, hfz120_4, hfz120_5, hfz120_6⟩ := Zk7 BK284) | ((with_reducible refine gate_callee (f := 16) rfl ?_); refine goesL_ (some 72) rfl rfl Try.func16 (by kernel_rfl) rfl #[.agg #[.string x285000_1, .string x285001_1, .int .i64 x285002_1, .int .i64 x285003_1, .int .i64 x285004_1, .int .i64 x285005_1, .bool x285006_1]] rfl (by (try simp only [List.map_toArray, List.map_cons, List.map_nil]); first | done | rfl | (simp only [List.length_drop, List.length_take]; rfl)) ?_; (with_reducible refine (saga_Command.calls x285000_1 x285001_1 x285002_1 x285003_1 x285004_1 x285005_1 x285006_1 t301 t302 t303 t304 false _ A82.out).mono ?_); rintro e w121 ⟨rfl, hb⟩; refine ⟨_, rfl, ?_⟩; have n0_ := Aside0.mk (Kd.R_below (by (with_reducible repeat (first | apply Kd.R_alloc | apply Kd.R_drewN | apply Kd.R_drew)); exact (Kd.R_mono (Kd.R_far (p := ⟨gb300, 3, none⟩) (Kd.R_far (p := ⟨gb300, 2, none⟩) (Kd.R_far (p := ⟨gb300, 1, none⟩) (Kd.R_far (p := ⟨gb300, 0, none⟩) (Kd.R_mono HO_9.out (fun k_ hk => (⟨hk, hk.2⟩ : _ ∧ k_ ≠ gb300))) (fun _ hk => hk.2) (.string t295)) (fun _ hk => hk.2) (.int .i64 t296)) (fun _ hk => hk.2) (.int .i64 t297)) (fun _ hk => hk.2) (.int .i64 t298)) (fun _ h_ => h_.1))) hb); have n1_ := Aside0.mk (Zv BK274 hb); have n2_ := Aside0.mk (Zv BK275 hb); have n3_ := Aside0.mk (Zv BK284 hb); have n4_ := Aside0.mk (Zb (g := gb300) (o := .cells #[.string t295, .int .i64 t296, .int .i64 t297, .int .i64 t298] 35 (0, 0)) (by (with_reducible repeat first | apply Zn | apply Zd | apply Za); refine Zp (cs := #[.string t295, .int .i64 t296, .int .i64 t297, .int .i64 0]) ?_ 3 _ rfl; (with_reducible repeat first | apply Zn | apply Zd | apply Za); refine Zp (cs := #[.string t295, .int .i64 t296, .int .i64 0, .int .i64 0]) ?_ 2 _ rfl; (with_reducible repeat first | apply Zn | apply Zd | apply Za); refine Zp (cs := #[.string t295, .int .i64 0, .int .i64 0, .int .i64 0]) ?_ 1 _ rfl; (with_reducible repeat first | apply Zn | apply Zd | apply Za); refine Zp (cs := #[.string (⟨#[]⟩ : ByteArray), .int .i64 0, .int .i64 0, .int .i64 0]) ?_ 0 _ rfl; (with_reducible repeat first | apply Zn | apply Zd | apply Za); exact BK300.out) hb); have n5_ := Aside0.mk (Yv HB hb); clear HO_9; clear BK274; clear BK275; clear BK284; clear BK300; clear HB; have HO_9 := n0_; have BK274 := n1_; have BK275 := n2_; have BK284 := n3_; have BK300 := n4_; have HB := n5_; clear n0_ n1_ n2_ n3_ n4_ n5_; (try clear hb); (try clear hb2); (try clear hk); (try clear hi)) | ((with_reducible refine gate_dst (N := 17) rfl ?_); refine box_event ?hg (N := 17) ?hd (cs := #[.string (⟨#[]⟩ : ByteArray), .int .i64 0, .int .i64 0, .int .i64 0]) (t := 35) ?hr ?_; (case hd => rfl); (case hg => rfl); (case hr => first | (go_simp; done) | (go_simp; rfl)); intro gb306 hg w122 hbox hb; have n0_ := Aside0.mk (Kd.R_below (Kd.R_elderB (by (with_reducible repeat (first | apply Kd.R_alloc | apply Kd.R_drewN | apply Kd.R_drew)); exact HO_9.out) gb306 (Nat.le_of_eq hg.symm)) hb); have n1_ := Aside0.mk (Zv BK274 hb); have n2_ := Aside0.mk (Zv BK275 hb); have n3_ := Aside0.mk (Zv BK284 hb); have n4_ := Aside0.mk (Zv BK300 hb); have n5_ := Aside0.mk (Yv HB hb); have n6_ := Aside0.mk (hbox); have n7_ := Aside0.mk (Yg HB hg); have n8_ := Aside0.mk (Yg HB hg); have n9_ := Aside0.mk (Zl BK274 hg); have n10_ := Aside0.mk (Zg BK274 hg); have n11_ := Aside0.mk (Zl BK275 hg); have n12_ := Aside0.mk (Zg BK275 hg); have n13_ := Aside0.mk (Zl BK284 hg); have n14_ := Aside0.mk (Zg BK284 hg); have n15_ := Aside0.mk (Zl BK300 hg); have n16_ := Aside0.mk (Zg BK300 hg); clear HO_9; clear BK274; clear BK275; clear BK284; clear BK300; clear HB; have HO_9 := n0_; have BK274 := n1_; have BK275 := n2_; have BK284 := n3_; have BK300 := n4_; have HB := n5_; have BK306 := n6_; have GW306 := n7_; have GE306 := n8_; have NB274_306 := n9_; have NB306_274 := n10_; have NB275_306 := n11_; have NB306_275 := n12_; have NB284_306 := n13_; have NB306_284 := n14_; have NB300_306 := n15_; have NB306_300 := n16_; clear n0_ n1_ n2_ n3_ n4_ n5_ n6_ n7_ n8_ n9_ n10_ n11_ n12_ n13_ n14_ n15_ n16_; clear hb hbox hg; obtain ⟨hnb123, hnc123⟩ := Zo NB306_274; obtain ⟨hnb124, hnc124⟩ := Zo NB306_275; obtain ⟨hnb125, hnc125⟩ := Zo NB306_284; obtain ⟨hnb126, hnc126⟩ := Zo NB306_300; obtain ⟨⟨hcz127_0, hcz127_1, hcz127_2, hcz127_3⟩, hfz127_0, hfz127_1, hfz127_2, hfz127_3⟩ := Zk4 BK306))
         have n0_ : Aside0 (Kd.R k35 35 ((((w122.setCell ⟨gb306, 0, none⟩ (.string t301)).setCell ⟨gb306, 1, none⟩ (.int .i64 t302)).setCell ⟨gb306, 2, none⟩ (.int .i64 t303)).setCell ⟨gb306, 3, none⟩ (.int .i64 t304)) w.heap.size (fun k_ => k_ ≠ gb300 ∧ k_ ≠ gb306) u9 x9_1) := ⟨by (with_reducible repeat (first | apply Kd.R_alloc | apply Kd.R_drewN | apply Kd.R_drew)); exact Kd.R_mono (Kd.R_far (p := ⟨gb306, 3, none⟩) (Kd.R_far (p := ⟨gb306, 2, none⟩) (Kd.R_far (p := ⟨gb306, 1, none⟩) (Kd.R_far (p := ⟨gb306, 0, none⟩) (Kd.R_mono HO_9.out (fun k_ hk => (⟨hk, hk.2⟩ : _ ∧ k_ ≠ gb306))) (fun _ hk => hk.2) (.string t301)) (fun _ hk => hk.2) (.int .i64 t302)) (fun _ hk => hk.2) (.int .i64 t303)) (fun _ hk => hk.2) (.int .i64 t304)) (fun _ hk => ⟨hk.1.1.2, hk.1.2⟩)⟩
         have n1_ : Aside0 (((((w122.setCell ⟨gb306, 0, none⟩ (.string t301)).setCell ⟨gb306, 1, none⟩ (.int .i64 t302)).setCell ⟨gb306, 2, none⟩ (.int .i64 t303)).setCell ⟨gb306, 3, none⟩ (.int .i64 t304)).heap[gb274]? = some (.cells #[.string a0_0, .slice A0_1 l0_1.length c0_1] 24 (0, 0))) := ⟨by (with_reducible repeat first | apply Zn | apply Zd | apply Za); refine Zq ?_ NB274_306.out _; (with_reducible repeat first | apply Zn | apply Zd | apply Za); refine Zq ?_ NB274_306.out _; (with_reducible repeat first | apply Zn | apply Zd | apply Za); refine Zq ?_ NB274_306.out _; (with_reducible repeat first | apply Zn | apply Zd | apply Za); refine Zq ?_ NB274_306.out _; (with_reducible repeat first | apply Zn | apply Zd | apply Za); exact BK274.out⟩
         have n2_ : Aside0 (((((w122.setCell ⟨gb306, 0, none⟩ (.string t301)).setCell ⟨gb306, 1, none⟩ (.int .i64 t302)).setCell ⟨gb306, 2, none⟩ (.int .i64 t303)).setCell ⟨gb306, 3, none⟩ (.int .i64 t304)).heap[gb275]? = some (.cells #[.string x276000_1, .string x276001_1, .int .i64 x276002_1, .int .i64 x276003_1, .int .i64 x276004_1, .int .i64 x276005_1, .bool x276006_1] 26 (0, 0))) := ⟨by (with_reducible repeat first | apply Zn | apply Zd | apply Za); refine Zq ?_ NB275_306.out _; (with_reducible repeat first | apply Zn | apply Zd | apply Za); refine Zq ?_ NB275_306.out _; (with_reducible repeat first | apply Zn | apply Zd | apply Za); refine Zq ?_ NB275_306.out _; (with_reducible repeat first | apply Zn | apply Zd | apply Za); refine Zq ?_ NB275_306.out _; (with_reducible repeat first | apply Zn | apply Zd | apply Za); exact BK275.out⟩
         have n3_ : Aside0 (((((w122.setCell ⟨gb306, 0, none⟩ (.string t301)).setCell ⟨gb306, 1, none⟩ (.int .i64 t302)).setCell ⟨gb306, 2, none⟩ (.int .i64 t303)).setCell ⟨gb306, 3, none⟩ (.int .i64 t304)).heap[gb284]? = some (.cells #[.string x285000_1, .string x285001_1, .int .i64 x285002_1, .int .i64 x285003_1, .int .i64 x285004_1, .int .i64 x285005_1, .bool x285006_1] 26 (0, 0))) := ⟨by (with_reducible repeat first | apply Zn | apply Zd | apply Za); refine Zq ?_ NB284_306.out _; (with_reducible repeat first | apply Zn | apply Zd | apply Za); refine Zq ?_ NB284_306.out _; (with_reducible repeat first | apply Zn | apply Zd | apply Za); refine Zq ?_ NB284_306.out _; (with_reducible repeat first | apply Zn | apply Zd | apply Za); refine Zq ?_ NB284_306.out _; (with_reducible repeat first | apply Zn | apply Zd | apply Za); exact BK284.out⟩
         have n4_ : Aside0 (((((w122.setCell ⟨gb306, 0, none⟩ (.string t301)).setCell ⟨gb306, 1, none⟩ (.int .i64 t302)).setCell ⟨gb306, 2, none⟩ (.int .i64 t303)).setCell ⟨gb306, 3, none⟩ (.int .i64 t304)).heap[gb300]? = some (.cells #[.string t295, .int .i64 t296, .int .i64 t297, .int .i64 t298] 35 (0, 0))) := ⟨by (with_reducible repeat first | apply Zn | apply Zd | apply Za); refine Zq ?_ NB300_306.out _; (with_reducible repeat first | apply Zn | apply Zd | apply Za); refine Zq ?_ NB300_306.out _; (with_reducible repeat first | apply Zn | apply Zd | apply Za); refine Zq ?_ NB300_306.out _; (with_reducible repeat first | apply Zn | apply Zd | apply Za); refine Zq ?_ NB300_306.out _; (with_reducible repeat first | apply Zn | apply Zd | apply Za); exact BK300.out⟩
         have n5_ : Aside0 (((((w122.setCell ⟨gb306, 0, none⟩ (.string t301)).setCell ⟨gb306, 1, none⟩ (.int .i64 t302)).setCell ⟨gb306, 2, none⟩ (.int .i64 t303)).setCell ⟨gb306, 3, none⟩ (.int .i64 t304)).heap[gb306]? = some (.cells #[.string t301, .int .i64 t302, .int .i64 t303, .int .i64 t304] 35 (0, 0))) := ⟨by (with_reducible repeat first | apply Zn | apply Zd | apply Za); refine Zp (cs := #[.string t301, .int .i64 t302, .int .i64 t303, .int .i64 0]) ?_ 3 _ rfl; (with_reducible repeat first | apply Zn | apply Zd | apply Za); refine Zp (cs := #[.string t301, .int .i64 t302, .int .i64 0, .int .i64 0]) ?_ 2 _ rfl; (with_reducible repeat first | apply Zn | apply Zd | apply Za); refine Zp (cs := #[.string t301, .int .i64 0, .int .i64 0, .int .i64 0]) ?_ 1 _ rfl; (with_reducible repeat first | apply Zn | apply Zd | apply Za); refine Zp (cs := #[.string (⟨#[]⟩ : ByteArray), .int .i64 0, .int .i64 0, .int .i64 0]) ?_ 0 _ rfl; (with_reducible repeat first | apply Zn | apply Zd | apply Za); exact BK306.out⟩
         have n6_ : Aside0 (Below w.heap.size w ((((w122.setCell ⟨gb306, 0, none⟩ (.string t301)).setCell ⟨gb306, 1, none⟩ (.int .i64 t302)).setCell ⟨gb306, 2, none⟩ (.int .i64 t303)).setCell ⟨gb306, 3, none⟩ (.int .i64 t304))) := ⟨Yr HB⟩
         (try clear HO_9)
         (try clear BK274)
         (try clear BK275)
         (try clear BK284)
         (try clear BK300)
         (try clear BK306)
         (try clear HB)
         generalize ((((w122.setCell ⟨gb306, 0, none⟩ (.string t301)).setCell ⟨gb306, 1, none⟩ (.int .i64 t302)).setCell ⟨gb306, 2, none⟩ (.int .i64 t303)).setCell ⟨gb306, 3, none⟩ (.int .i64 t304)) = w128 at n0_ n1_ n2_ n3_ n4_ n5_ n6_ ⊢
         have HO_9 := n0_
         have BK274 := n1_
         have BK275 := n2_
         have BK284 := n3_
         have BK300 := n4_
         have BK306 := n5_
         have HB := n6_
         clear n0_ n1_ n2_ n3_ n4_ n5_ n6_
         have n0_ := Aside0.mk (Kd.R_drew HO_9.out)
         have n1_ := Aside0.mk (Zd BK274.out)
         have n2_ := Aside0.mk (Zd BK275.out)
         have n3_ := Aside0.mk (Zd BK284.out)
         have n4_ := Aside0.mk (Zd BK300.out)
         have n5_ := Aside0.mk (Zd BK306.out)
         have n6_ := Aside0.mk (Yd HB.out)
         clear HO_9
         clear BK274
         clear BK275
         clear BK284
         clear BK300
         clear BK306
         clear HB
         have HO_9 := n0_
         have BK274 := n1_
         have BK275 := n2_
         have BK284 := n3_
         have BK300 := n4_
         have BK306 := n5_
         have HB := n6_
         clear n0_ n1_ n2_ n3_ n4_ n5_ n6_
         refine start_ (n := 5) (S := fun w' => w'.cell? ⟨gb284, 0, none⟩ = some (.string x285000_1) ∧ w'.cell? ⟨gb284, 1, none⟩ = some (.string x285001_1) ∧ w'.cell? ⟨gb284, 2, none⟩ = some (.int .i64 x285002_1) ∧ w'.cell? ⟨gb284, 3, none⟩ = some (.int .i64 x285003_1) ∧ w'.cell? ⟨gb284, 4, none⟩ = some (.int .i64 x285004_1) ∧ w'.cell? ⟨gb284, 5, none⟩ = some (.int .i64 x285005_1) ∧ w'.cell? ⟨gb284, 6, none⟩ = some (.bool x285006_1)) (ds := []) #[false, false, false, false, false] (by kernel_rfl) rfl rfl ⟨(Zc BK284.out 0).trans rfl, (Zc BK284.out 1).trans rfl, (Zc BK284.out 2).trans rfl, (Zc BK284.out 3).trans rfl, (Zc BK284.out 4).trans rfl, (Zc BK284.out 5).trans rfl, (Zc BK284.out 6).trans rfl⟩ (fun hHeld => ?_)
         generalize w128.drew = w129 at HO_9 BK274 BK275 BK284 BK300 BK306 HB hHeld ⊢
         refine pure_ (i := 0) (N := some 80) (v := ?_) (a' := ?_) #[true, false, false, false, false] rfl rfl (by kernel_rfl) (fun _ _ _ h => h) (Or.inl ⟨by rfl, ?_⟩) ?_ ?_
         rotate_left
         ·
          intro w'
          go_simp
          with_reducible rfl
         rotate_left
         ·
          simp only [Act.put, List.setIfInBounds_toArray, List.set_cons_zero, List.set_cons_succ, i64_w, i32_w]
          rfl
         refine pure_ (i := 2) (N := some 6) (v := ?_) (a' := ?_) #[true, false, true, false, false] rfl rfl (by kernel_rfl) (fun _ _ _ h => h) (Or.inl ⟨by rfl, ?_⟩) ?_ ?_
         rotate_left
         ·
          intro w'
          go_simp
          with_reducible rfl
         rotate_left
         ·
          simp only [Act.put, List.setIfInBounds_toArray, List.set_cons_zero, List.set_cons_succ, i64_w, i32_w]
          rfl
         refine take_ (i := 1) (N := some 81) (v := ?_) (a' := ?_) #[true, true, true, false, false] rfl rfl (by kernel_rfl) (fun _ _ _ h => h) (Or.inl ⟨by rfl, ?_⟩) hHeld ?_ ?_
         rotate_left
         ·
          rintro w' ⟨s0, s1, s2, s3, s4, s5, s6⟩
          go_simp
          with_reducible rfl
         rotate_left
         ·
          simp only [Act.put, List.setIfInBounds_toArray, List.set_cons_zero, List.set_cons_succ, i64_w, i32_w]
          rfl
         refine one_ (i := 3) (N := none) #[true, true, true, true, false] rfl rfl (by kernel_rfl) (by decide) (fun K hK => ?_)
         have hs130 : w129.cell? ⟨gb275, 0, none⟩ = some (.string x276000_1) := (Zc BK275.out 0).trans rfl
         have hfs130 := Zf BK275.out 0
         obtain ⟨hns130_0, hms130_0⟩ := Zo NB274_275
         obtain ⟨hns130_2, hms130_2⟩ := Zo NB284_275
         obtain ⟨hns130_3, hms130_3⟩ := Zo NB300_275
         obtain ⟨hns130_4, hms130_4⟩ := Zo NB306_275
         have hs131 : w129.cell? ⟨gb275, 1, none⟩ = some (.string x276001_1) := (Zc BK275.out 1).trans rfl
         have hfs131 := Zf BK275.out 1
         obtain ⟨hns131_0, hms131_0⟩ := Zo NB274_275
         obtain ⟨hns131_2, hms131_2⟩ := Zo NB284_275
         obtain ⟨hns131_3, hms131_3⟩ := Zo NB300_275
         obtain ⟨hns131_4, hms131_4⟩ := Zo NB306_275
         have hs132 : w129.cell? ⟨gb275, 2, none⟩ = some (.int .i64 x276002_1) := (Zc BK275.out 2).trans rfl
         have hfs132 := Zf BK275.out 2
         obtain ⟨hns132_0, hms132_0⟩ := Zo NB274_275
         obtain ⟨hns132_2, hms132_2⟩ := Zo NB284_275
         obtain ⟨hns132_3, hms132_3⟩ := Zo NB300_275
         obtain ⟨hns132_4, hms132_4⟩ := Zo NB306_275
         have hs133 : w129.cell? ⟨gb275, 3, none⟩ = some (.int .i64 x276003_1) := (Zc BK275.out 3).trans rfl
         have hfs133 := Zf BK275.out 3
         obtain ⟨hns133_0, hms133_0⟩ := Zo NB274_275
         obtain ⟨hns133_2, hms133_2⟩ := Zo NB284_275
         obtain ⟨hns133_3, hms133_3⟩ := Zo NB300_275
         obtain ⟨hns133_4, hms133_4⟩ := Zo NB306_275
         have hs134 : w129.cell? ⟨gb275, 4, none⟩ = some (.int .i64 x276004_1) := (Zc BK275.out 4).trans rfl
         have hfs134 := Zf BK275.out 4
         obtain ⟨hns134_0, hms134_0⟩ := Zo NB274_275
         obtain ⟨hns134_2, hms134_2⟩ := Zo NB284_275
         obtain ⟨hns134_3, hms134_3⟩ := Zo NB300_275
         obtain ⟨hns134_4, hms134_4⟩ := Zo NB306_275
         have hs135 : w129.cell? ⟨gb275, 5, none⟩ = some (.int .i64 x276005_1) := (Zc BK275.out 5).trans rfl
         have hfs135 := Zf BK275.out 5
         obtain ⟨hns135_0, hms135_0⟩ := Zo NB274_275
         obtain ⟨hns135_2, hms135_2⟩ := Zo NB284_275
         obtain ⟨hns135_3, hms135_3⟩ := Zo NB300_275
         obtain ⟨hns135_4, hms135_4⟩ := Zo NB306_275
         have hs136 : w129.cell? ⟨gb275, 6, none⟩ = some (.bool x276006_1) := (Zc BK275.out 6).trans rfl
         have hfs136 := Zf BK275.out 6
         obtain ⟨hns136_0, hms136_0⟩ := Zo NB274_275
         obtain ⟨hns136_2, hms136_2⟩ := Zo NB284_275
         obtain ⟨hns136_3, hms136_3⟩ := Zo NB300_275
         obtain ⟨hns136_4, hms136_4⟩ := Zo NB306_275
         refine skip_ (w1 := ?_) (by rfl) rfl ?_ ?_
         rotate_left
         ·
          go_simp
          rfl
         refine hK.out _ _ ⟨((Zh NB284_275).trans (((Zh NB284_275).trans (((Zh NB284_275).trans (((Zh NB284_275).trans (((Zh NB284_275).trans (((Zh NB284_275).trans (((Zh NB284_275).trans (hHeld.1)))))))))))))), ((Zh NB284_275).trans (((Zh NB284_275).trans (((Zh NB284_275).trans (((Zh NB284_275).trans (((Zh NB284_275).trans (((Zh NB284_275).trans (((Zh NB284_275).trans (hHeld.2.1)))))))))))))), ((Zh NB284_275).trans (((Zh NB284_275).trans (((Zh NB284_275).trans (((Zh NB284_275).trans (((Zh NB284_275).trans (((Zh NB284_275).trans (((Zh NB284_275).trans (hHeld.2.2.1)))))))))))))), ((Zh NB284_275).trans (((Zh NB284_275).trans (((Zh NB284_275).trans (((Zh NB284_275).trans (((Zh NB284_275).trans (((Zh NB284_275).trans (((Zh NB284_275).trans (hHeld.2.2.2.1)))))))))))))), ((Zh NB284_275).trans (((Zh NB284_275).trans (((Zh NB284_275).trans (((Zh NB284_275).trans (((Zh NB284_275).trans (((Zh NB284_275).trans (((Zh NB284_275).trans (hHeld.2.2.2.2.1)))))))))))))), ((Zh NB284_275).trans (((Zh NB284_275).trans (((Zh NB284_275).trans (((Zh NB284_275).trans (((Zh NB284_275).trans (((Zh NB284_275).trans (((Zh NB284_275).trans (hHeld.2.2.2.2.2.1)))))))))))))), ((Zh NB284_275).trans (((Zh NB284_275).trans (((Zh NB284_275).trans (((Zh NB284_275).trans (((Zh NB284_275).trans (((Zh NB284_275).trans (((Zh NB284_275).trans (hHeld.2.2.2.2.2.2))))))))))))))⟩ (fun hHeld => ?_)
         clear hK K
         refine pure_ (i := 4) (N := some 8) (v := ?_) (a' := ?_) #[true, true, true, true, true] rfl rfl (by kernel_rfl) (fun _ _ _ h => h) (Or.inl ⟨by rfl, ?_⟩) ?_ ?_
         rotate_left
         ·
          intro w'
          go_simp
          with_reducible rfl
         rotate_left
         ·
          simp only [Act.put, List.setIfInBounds_toArray, List.set_cons_zero, List.set_cons_succ, i64_w, i32_w]
          rfl
         refine done_ (by kernel_rfl) ?_
         try go_wp2
         refine bodyPost_ret (results_list (rs := [.tmp 6, .cell 7 26, .tmp 8]) rfl (by simp) (.tmp (.cell gb275 26 #[.string x285000_1, .string x285001_1, .int .i64 x285002_1, .int .i64 x285003_1, .int .i64 x285004_1, .int .i64 x285005_1, .bool x285006_1] (0, 0) _ rfl (by (with_reducible repeat first | apply Zn | apply Zd | apply Za); refine Zp (cs := #[.string x285000_1, .string x285001_1, .int .i64 x285002_1, .int .i64 x285003_1, .int .i64 x285004_1, .int .i64 x285005_1, .bool x276006_1]) ?_ 6 _ rfl; (with_reducible repeat first | apply Zn | apply Zd | apply Za); refine Zp (cs := #[.string x285000_1, .string x285001_1, .int .i64 x285002_1, .int .i64 x285003_1, .int .i64 x285004_1, .int .i64 x276005_1, .bool x276006_1]) ?_ 5 _ rfl; (with_reducible repeat first | apply Zn | apply Zd | apply Za); refine Zp (cs := #[.string x285000_1, .string x285001_1, .int .i64 x285002_1, .int .i64 x285003_1, .int .i64 x276004_1, .int .i64 x276005_1, .bool x276006_1]) ?_ 4 _ rfl; (with_reducible repeat first | apply Zn | apply Zd | apply Za); refine Zp (cs := #[.string x285000_1, .string x285001_1, .int .i64 x285002_1, .int .i64 x276003_1, .int .i64 x276004_1, .int .i64 x276005_1, .bool x276006_1]) ?_ 3 _ rfl; (with_reducible repeat first | apply Zn | apply Zd | apply Za); refine Zp (cs := #[.string x285000_1, .string x285001_1, .int .i64 x276002_1, .int .i64 x276003_1, .int .i64 x276004_1, .int .i64 x276005_1, .bool x276006_1]) ?_ 2 _ rfl; (with_reducible repeat first | apply Zn | apply Zd | apply Za); refine Zp (cs := #[.string x285000_1, .string x276001_1, .int .i64 x276002_1, .int .i64 x276003_1, .int .i64 x276004_1, .int .i64 x276005_1, .bool x276006_1]) ?_ 1 _ rfl; (with_reducible repeat first | apply Zn | apply Zd | apply Za); refine Zp (cs := #[.string x276000_1, .string x276001_1, .int .i64 x276002_1, .int .i64 x276003_1, .int .i64 x276004_1, .int .i64 x276005_1, .bool x276006_1]) ?_ 0 _ rfl; (with_reducible repeat first | apply Zn | apply Zd | apply Za); exact BK275.out) Try.underlying26 rfl (by kernel_rfl) (.tmp .nil)))) rfl ?_
         exact ⟨_, by first | rfl | (simp [errW_none, errW_some] <;> rfl) | (simp [*, errW_none, errW_some] <;> rfl), by (with_reducible repeat (first | apply Kd.R_alloc | apply Kd.R_drewN | apply Kd.R_drew)); exact Kd.R_mono (Kd.R_far (p := ⟨gb275, 6, none⟩) (Kd.R_far (p := ⟨gb275, 5, none⟩) (Kd.R_far (p := ⟨gb275, 4, none⟩) (Kd.R_far (p := ⟨gb275, 3, none⟩) (Kd.R_far (p := ⟨gb275, 2, none⟩) (Kd.R_far (p := ⟨gb275, 1, none⟩) (Kd.R_far (p := ⟨gb275, 0, none⟩) (Kd.R_types HO_9.out BK275.out (by decide)) (fun _ hk => hk.2) (.string x285000_1)) (fun _ hk => hk.2) (.string x285001_1)) (fun _ hk => hk.2) (.int .i64 x285002_1)) (fun _ hk => hk.2) (.int .i64 x285003_1)) (fun _ hk => hk.2) (.int .i64 x285004_1)) (fun _ hk => hk.2) (.int .i64 x285005_1)) (fun _ hk => hk.2) (.bool x285006_1)) (fun _ hk => trivial), Yr HB⟩
      ·
       replace c16 := Bool.eq_false_iff.mpr c16
       subst c16
       have H1 : ((saga_Command.f x285000_1 x285001_1 x285002_1 x285003_1 x285004_1 x285005_1 x285006_1).bind fun bt286 => (if bt286.2.2.2.2 = true then (if x9_1.length < 3518437208883 then (some ((x9_1 ++ [(⟨bt286.1, bt286.2.1, bt286.2.2.1, bt286.2.2.2.1⟩ : S35)]), x285000_1, x285001_1, x285002_1, x285003_1, x285004_1, x285005_1, x285006_1, true)) else (none)) else (some (x9_1, x285000_1, x285001_1, x285002_1, x285003_1, x285004_1, x285005_1, x285006_1, true)))) = some (r1, r2, r3, r4, r5, r6, r7, r8, r9) := by rw [if_neg (show ¬ (false = true) by decide)] at H; exact H
       clear H
       have H := H1
       clear H1
       replace H := Option.bind_eq_some_iff.mp H
       obtain ⟨⟨t286, t287, t288, t289, t290⟩, A1370, H⟩ := H
       replace H : (if t290 = true then (if x9_1.length < 3518437208883 then (some ((x9_1 ++ [(⟨t286, t287, t288, t289⟩ : S35)]), x285000_1, x285001_1, x285002_1, x285003_1, x285004_1, x285005_1, x285006_1, true)) else (none)) else (some (x9_1, x285000_1, x285001_1, x285002_1, x285003_1, x285004_1, x285005_1, x285006_1, true))) = some (r1, r2, r3, r4, r5, r6, r7, r8, r9) := H
       have A137 := Aside0.mk A1370
       clear A1370
       by_cases c138 : t290 = true
       ·
        subst c138
        have H1 : (if x9_1.length < 3518437208883 then (some ((x9_1 ++ [(⟨t286, t287, t288, t289⟩ : S35)]), x285000_1, x285001_1, x285002_1, x285003_1, x285004_1, x285005_1, x285006_1, true)) else (none)) = some (r1, r2, r3, r4, r5, r6, r7, r8, r9) := by rw [if_pos rfl] at H; exact H
        clear H
        have H := H1
        clear H1
        by_cases c139 : x9_1.length < 3518437208883
        ·
         rw [if_pos c139] at H
         have LMc139 := Aside0.mk c139
         clear c139
         obtain ⟨y292, hy292⟩ : ∃ y_ : List (S35), y_ = (x9_1 ++ [(⟨t286, t287, t288, t289⟩ : S35)]) := ⟨_, rfl⟩
         replace H : (some (y292, x285000_1, x285001_1, x285002_1, x285003_1, x285004_1, x285005_1, x285006_1, true)) = some (r1, r2, r3, r4, r5, r6, r7, r8, r9) := by first | (rw [hy292]; with_reducible exact H) | (have H2_ := (Option.bind_some _ _).symm.trans H; rw [hy292]; with_reducible exact H2_) | (have H2_ := (Option.bind_some _ _).symm.trans H; with_reducible exact H2_) | with_reducible exact H | (rw [hy292]; exact H) | exact H
         have Ny292 := Aside0.mk hy292
         clear hy292
         simp only [Option.some.injEq, Prod.mk.injEq] at H
         obtain ⟨rfl, rfl, rfl, rfl, rfl, rfl, rfl, rfl, rfl⟩ := H
         obtain ⟨hnb140, hnc140⟩ := Zo NB284_274
         obtain ⟨hnb141, hnc141⟩ := Zo NB284_275
         obtain ⟨⟨hcz142_0, hcz142_1, hcz142_2, hcz142_3, hcz142_4, hcz142_5, hcz142_6⟩, hfz142_0, hfz142_1, hfz142_2, hfz142_3, hfz142_4, hfz142_5, hfz142_6⟩ := Zk7 BK284
         try go_wp2_with (first | ((with_reducible refine gate_callee (f := 16) rfl ?_); refine goesL_ (some 72) rfl rfl Try.func16 (by kernel_rfl) rfl #[.agg #[.string x285000_1, .string x285001_1, .int .i64 x285002_1, .int .i64 x285003_1, .int .i64 x285004_1, .int .i64 x285005_1, .bool x285006_1]] rfl (by (try simp only [List.map_toArray, List.map_cons, List.map_nil]); first | done | rfl | (simp only [List.length_drop, List.length_take]; rfl)) ?_; (with_reducible refine (saga_Command.calls x285000_1 x285001_1 x285002_1 x285003_1 x285004_1 x285005_1 x285006_1 t286 t287 t288 t289 true _ A137.out).mono ?_); rintro e w143 ⟨rfl, hb⟩; refine ⟨_, rfl, ?_⟩; have n0_ := Aside0.mk (Kd.R_below (by (with_reducible repeat (first | apply Kd.R_alloc | apply Kd.R_drewN | apply Kd.R_drew)); exact HO_9.out) hb); have n1_ := Aside0.mk (Zv BK274 hb); have n2_ := Aside0.mk (Zv BK275 hb); have n3_ := Aside0.mk (Zv BK284 hb); have n4_ := Aside0.mk (Yv HB hb); clear HO_9; clear BK274; clear BK275; clear BK284; clear HB; have HO_9 := n0_; have BK274 := n1_; have BK275 := n2_; have BK284 := n3_; have HB := n4_; clear n0_ n1_ n2_ n3_ n4_; (try clear hb); (try clear hb2); (try clear hk); (try clear hi)) | ((with_reducible refine gate_dst (N := 17) rfl ?_); refine box_event ?hg (N := 17) ?hd (cs := #[.string (⟨#[]⟩ : ByteArray), .int .i64 0, .int .i64 0, .int .i64 0]) (t := 35) ?hr ?_; (case hd => rfl); (case hg => rfl); (case hr => first | (go_simp; done) | (go_simp; rfl)); intro gb291 hg w144 hbox hb; have n0_ := Aside0.mk (Kd.R_below (Kd.R_elderB (by (with_reducible repeat (first | apply Kd.R_alloc | apply Kd.R_drewN | apply Kd.R_drew)); exact HO_9.out) gb291 (Nat.le_of_eq hg.symm)) hb); have n1_ := Aside0.mk (Zv BK274 hb); have n2_ := Aside0.mk (Zv BK275 hb); have n3_ := Aside0.mk (Zv BK284 hb); have n4_ := Aside0.mk (Yv HB hb); have n5_ := Aside0.mk (hbox); have n6_ := Aside0.mk (Yg HB hg); have n7_ := Aside0.mk (Yg HB hg); have n8_ := Aside0.mk (Zl BK274 hg); have n9_ := Aside0.mk (Zg BK274 hg); have n10_ := Aside0.mk (Zl BK275 hg); have n11_ := Aside0.mk (Zg BK275 hg); have n12_ := Aside0.mk (Zl BK284 hg); have n13_ := Aside0.mk (Zg BK284 hg); clear HO_9; clear BK274; clear BK275; clear BK284; clear HB; have HO_9 := n0_; have BK274 := n1_; have BK275 := n2_; have BK284 := n3_; have HB := n4_; have BK291 := n5_; have GW291 := n6_; have GE291 := n7_; have NB274_291 := n8_; have NB291_274 := n9_; have NB275_291 := n10_; have NB291_275 := n11_; have NB284_291 := n12_; have NB291_284 := n13_; clear n0_ n1_ n2_ n3_ n4_ n5_ n6_ n7_ n8_ n9_ n10_ n11_ n12_ n13_; clear hb hbox hg; obtain ⟨hnb145, hnc145⟩ := Zo NB291_274; obtain ⟨hnb146, hnc146⟩ := Zo NB291_275; obtain ⟨hnb147, hnc147⟩ := Zo NB291_284; obtain ⟨⟨hcz148_0, hcz148_1, hcz148_2, hcz148_3⟩, hfz148_0, hfz148_1, hfz148_2, hfz148_3⟩ := Zk4 BK291) | ((with_reducible refine gate_builtin (b := .append) (xs := #[.tmp 76, .tmp 78]) rfl ?_); at_builtin; refine Kd.R_append k35 (w0 := w) w.heap.size rfl (.tmp 76) (.tmp 78) 45 35 (.agg #[(.string ⟨#[]⟩), (.int .i64 0), (.int .i64 0), (.int .i64 0)]) 40 rfl Try.underlying45 info35 rfl (by decide) (by omega) u9 x9_1 (⟨t286, t287, t288, t289⟩ : S35) [.string t286, .int .i64 t287, .int .i64 t288, .int .i64 t289] (fun k_ => k_ ≠ gb291) (fun _ => False) rfl (by first | (go_simp; done) | (go_simp; rfl)) ?aP (fun _ hk => hk.elim) ?aF ?aO ?aB ?aS ?aL ?_; (case aP => exact k35_mkM _ _ _ (⟨t286, t287, t288, t289⟩ : S35)); (case aB => exact (Yr HB)); (case aF => exact (fun k_ hk => Kd.freshB (g := gb291) (o := .cells #[.string t286, .int .i64 t287, .int .i64 t288, .int .i64 t289] 35 (0, 0)) (by (with_reducible repeat first | apply Zn | apply Zd | apply Za); refine Zp (cs := #[.string t286, .int .i64 t287, .int .i64 t288, .int .i64 0]) ?_ 3 _ rfl; (with_reducible repeat first | apply Zn | apply Zd | apply Za); refine Zp (cs := #[.string t286, .int .i64 t287, .int .i64 0, .int .i64 0]) ?_ 2 _ rfl; (with_reducible repeat first | apply Zn | apply Zd | apply Za); refine Zp (cs := #[.string t286, .int .i64 0, .int .i64 0, .int .i64 0]) ?_ 1 _ rfl; (with_reducible repeat first | apply Zn | apply Zd | apply Za); refine Zp (cs := #[.string (⟨#[]⟩ : ByteArray), .int .i64 0, .int .i64 0, .int .i64 0]) ?_ 0 _ rfl; (with_reducible repeat first | apply Zn | apply Zd | apply Za); exact BK291.out) k_ hk)); (case aO => exact (by (with_reducible repeat (first | apply Kd.R_alloc | apply Kd.R_drewN | apply Kd.R_drew)); exact Kd.R_mono (Kd.R_far (p := ⟨gb291, 3, none⟩) (Kd.R_far (p := ⟨gb291, 2, none⟩) (Kd.R_far (p := ⟨gb291, 1, none⟩) (Kd.R_far (p := ⟨gb291, 0, none⟩) (Kd.R_mono HO_9.out (fun k_ hk => (⟨hk, hk.2⟩ : _ ∧ k_ ≠ gb291))) (fun _ hk => hk.2) (.string t286)) (fun _ hk => hk.2) (.int .i64 t287)) (fun _ hk => hk.2) (.int .i64 t288)) (fun _ hk => hk.2) (.int .i64 t289)) (fun _ hk => hk.1.2))); (case aS => exact (below_size (Yr HB))); (case aL => have := LMc139.out; omega); intro v293 w149 ho hb hg hat; rw [← Ny292.out] at ho; have n0_ := Aside0.mk (blk_grown (g := gb274) (o := .cells #[.string a0_0, .slice A0_1 l0_1.length c0_1] 24 (0, 0)) (Zr BK274) hg (Kd.R_ne HO_9.out BK274.out (by decide))); have n1_ := Aside0.mk (blk_grown (g := gb275) (o := .cells #[.string x276000_1, .string x276001_1, .int .i64 x276002_1, .int .i64 x276003_1, .int .i64 x276004_1, .int .i64 x276005_1, .bool x276006_1] 26 (0, 0)) (Zr BK275) hg (Kd.R_ne HO_9.out BK275.out (by decide))); have n2_ := Aside0.mk (blk_grown (g := gb284) (o := .cells #[.string x285000_1, .string x285001_1, .int .i64 x285002_1, .int .i64 x285003_1, .int .i64 x285004_1, .int .i64 x285005_1, .bool x285006_1] 26 (0, 0)) (Zr BK284) hg (Kd.R_ne HO_9.out BK284.out (by decide))); have n3_ := Aside0.mk (blk_grown (g := gb291) (o := .cells #[.string t286, .int .i64 t287, .int .i64 t288, .int .i64 t289] 35 (0, 0)) (by (with_reducible repeat first | apply Zn | apply Zd | apply Za); refine Zp (cs := #[.string t286, .int .i64 t287, .int .i64 t288, .int .i64 0]) ?_ 3 _ rfl; (with_reducible repeat first | apply Zn | apply Zd | apply Za); refine Zp (cs := #[.string t286, .int .i64 t287, .int .i64 0, .int .i64 0]) ?_ 2 _ rfl; (with_reducible repeat first | apply Zn | apply Zd | apply Za); refine Zp (cs := #[.string t286, .int .i64 0, .int .i64 0, .int .i64 0]) ?_ 1 _ rfl; (with_reducible repeat first | apply Zn | apply Zd | apply Za); refine Zp (cs := #[.string (⟨#[]⟩ : ByteArray), .int .i64 0, .int .i64 0, .int .i64 0]) ?_ 0 _ rfl; (with_reducible repeat first | apply Zn | apply Zd | apply Za); exact BK291.out) hg (Kd.R_away HO_9.out (fun _ hk => hk.2))); have n4_ := Aside0.mk (hb); have n5_ := Aside0.mk (ho); clear BK274; clear BK275; clear BK284; clear BK291; clear HB; clear HO_9; have BK274 := n0_; have BK275 := n1_; have BK284 := n2_; have BK291 := n3_; have HB := n4_; have HO294 := n5_; clear n0_ n1_ n2_ n3_ n4_ n5_; clear ho hb hg hat))
         have n0_ := Aside0.mk (Kd.R_drew HO294.out)
         have n1_ := Aside0.mk (Zd BK274.out)
         have n2_ := Aside0.mk (Zd BK275.out)
         have n3_ := Aside0.mk (Zd BK284.out)
         have n4_ := Aside0.mk (Zd BK291.out)
         have n5_ := Aside0.mk (Yd HB.out)
         clear HO294
         clear BK274
         clear BK275
         clear BK284
         clear BK291
         clear HB
         have HO294 := n0_
         have BK274 := n1_
         have BK275 := n2_
         have BK284 := n3_
         have BK291 := n4_
         have HB := n5_
         clear n0_ n1_ n2_ n3_ n4_ n5_
         refine start_ (n := 5) (S := fun w' => w'.cell? ⟨gb284, 0, none⟩ = some (.string x285000_1) ∧ w'.cell? ⟨gb284, 1, none⟩ = some (.string x285001_1) ∧ w'.cell? ⟨gb284, 2, none⟩ = some (.int .i64 x285002_1) ∧ w'.cell? ⟨gb284, 3, none⟩ = some (.int .i64 x285003_1) ∧ w'.cell? ⟨gb284, 4, none⟩ = some (.int .i64 x285004_1) ∧ w'.cell? ⟨gb284, 5, none⟩ = some (.int .i64 x285005_1) ∧ w'.cell? ⟨gb284, 6, none⟩ = some (.bool x285006_1)) (ds := []) #[false, false, false, false, false] (by kernel_rfl) rfl rfl ⟨(Zc BK284.out 0).trans rfl, (Zc BK284.out 1).trans rfl, (Zc BK284.out 2).trans rfl, (Zc BK284.out 3).trans rfl, (Zc BK284.out 4).trans rfl, (Zc BK284.out 5).trans rfl, (Zc BK284.out 6).trans rfl⟩ (fun hHeld => ?_)
         generalize w149.drew = w150 at HO294 BK274 BK275 BK284 BK291 HB hHeld ⊢
         refine pure_ (i := 0) (N := some 80) (v := ?_) (a' := ?_) #[true, false, false, false, false] rfl rfl (by kernel_rfl) (fun _ _ _ h => h) (Or.inl ⟨by rfl, ?_⟩) ?_ ?_
         rotate_left
         ·
          intro w'
          go_simp
          with_reducible rfl
         rotate_left
         ·
          simp only [Act.put, List.setIfInBounds_toArray, List.set_cons_zero, List.set_cons_succ, i64_w, i32_w]
          rfl
         refine pure_ (i := 2) (N := some 6) (v := ?_) (a' := ?_) #[true, false, true, false, false] rfl rfl (by kernel_rfl) (fun _ _ _ h => h) (Or.inl ⟨by rfl, ?_⟩) ?_ ?_
         rotate_left
         ·
          intro w'
          go_simp
          with_reducible rfl
         rotate_left
         ·
          simp only [Act.put, List.setIfInBounds_toArray, List.set_cons_zero, List.set_cons_succ, i64_w, i32_w]
          rfl
         refine take_ (i := 1) (N := some 81) (v := ?_) (a' := ?_) #[true, true, true, false, false] rfl rfl (by kernel_rfl) (fun _ _ _ h => h) (Or.inl ⟨by rfl, ?_⟩) hHeld ?_ ?_
         rotate_left
         ·
          rintro w' ⟨s0, s1, s2, s3, s4, s5, s6⟩
          go_simp
          with_reducible rfl
         rotate_left
         ·
          simp only [Act.put, List.setIfInBounds_toArray, List.set_cons_zero, List.set_cons_succ, i64_w, i32_w]
          rfl
         refine one_ (i := 3) (N := none) #[true, true, true, true, false] rfl rfl (by kernel_rfl) (by decide) (fun K hK => ?_)
         have hs151 : w150.cell? ⟨gb275, 0, none⟩ = some (.string x276000_1) := (Zc BK275.out 0).trans rfl
         have hfs151 := Zf BK275.out 0
         obtain ⟨hns151_0, hms151_0⟩ := Zo NB274_275
         obtain ⟨hns151_2, hms151_2⟩ := Zo NB284_275
         obtain ⟨hns151_3, hms151_3⟩ := Zo NB291_275
         have hs152 : w150.cell? ⟨gb275, 1, none⟩ = some (.string x276001_1) := (Zc BK275.out 1).trans rfl
         have hfs152 := Zf BK275.out 1
         obtain ⟨hns152_0, hms152_0⟩ := Zo NB274_275
         obtain ⟨hns152_2, hms152_2⟩ := Zo NB284_275
         obtain ⟨hns152_3, hms152_3⟩ := Zo NB291_275
         have hs153 : w150.cell? ⟨gb275, 2, none⟩ = some (.int .i64 x276002_1) := (Zc BK275.out 2).trans rfl
         have hfs153 := Zf BK275.out 2
         obtain ⟨hns153_0, hms153_0⟩ := Zo NB274_275
         obtain ⟨hns153_2, hms153_2⟩ := Zo NB284_275
         obtain ⟨hns153_3, hms153_3⟩ := Zo NB291_275
         have hs154 : w150.cell? ⟨gb275, 3, none⟩ = some (.int .i64 x276003_1) := (Zc BK275.out 3).trans rfl
         have hfs154 := Zf BK275.out 3
         obtain ⟨hns154_0, hms154_0⟩ := Zo NB274_275
         obtain ⟨hns154_2, hms154_2⟩ := Zo NB284_275
         obtain ⟨hns154_3, hms154_3⟩ := Zo NB291_275
         have hs155 : w150.cell? ⟨gb275, 4, none⟩ = some (.int .i64 x276004_1) := (Zc BK275.out 4).trans rfl
         have hfs155 := Zf BK275.out 4
         obtain ⟨hns155_0, hms155_0⟩ := Zo NB274_275
         obtain ⟨hns155_2, hms155_2⟩ := Zo NB284_275
         obtain ⟨hns155_3, hms155_3⟩ := Zo NB291_275
         have hs156 : w150.cell? ⟨gb275, 5, none⟩ = some (.int .i64 x276005_1) := (Zc BK275.out 5).trans rfl
         have hfs156 := Zf BK275.out 5
         obtain ⟨hns156_0, hms156_0⟩ := Zo NB274_275
         obtain ⟨hns156_2, hms156_2⟩ := Zo NB284_275
         obtain ⟨hns156_3, hms156_3⟩ := Zo NB291_275
         have hs157 : w150.cell? ⟨gb275, 6, none⟩ = some (.bool x276006_1) := (Zc BK275.out 6).trans rfl
         have hfs157 := Zf BK275.out 6
         obtain ⟨hns157_0, hms157_0⟩ := Zo NB274_275
         obtain ⟨hns157_2, hms157_2⟩ := Zo NB284_275
         obtain ⟨hns157_3, hms157_3⟩ := Zo NB291_275
         refine skip_ (w1 := ?_) (by rfl) rfl ?_ ?_
         rotate_left
         ·
          go_simp
          rfl
         refine hK.out _ _ ⟨((Zh NB284_275).trans (((Zh NB284_275).trans (((Zh NB284_275).trans (((Zh NB284_275).trans (((Zh NB284_275).trans (((Zh NB284_275).trans (((Zh NB284_275).trans (hHeld.1)))))))))))))), ((Zh NB284_275).trans (((Zh NB284_275).trans (((Zh NB284_275).trans (((Zh NB284_275).trans (((Zh NB284_275).trans (((Zh NB284_275).trans (((Zh NB284_275).trans (hHeld.2.1)))))))))))))), ((Zh NB284_275).trans (((Zh NB284_275).trans (((Zh NB284_275).trans (((Zh NB284_275).trans (((Zh NB284_275).trans (((Zh NB284_275).trans (((Zh NB284_275).trans (hHeld.2.2.1)))))))))))))), ((Zh NB284_275).trans (((Zh NB284_275).trans (((Zh NB284_275).trans (((Zh NB284_275).trans (((Zh NB284_275).trans (((Zh NB284_275).trans (((Zh NB284_275).trans (hHeld.2.2.2.1)))))))))))))), ((Zh NB284_275).trans (((Zh NB284_275).trans (((Zh NB284_275).trans (((Zh NB284_275).trans (((Zh NB284_275).trans (((Zh NB284_275).trans (((Zh NB284_275).trans (hHeld.2.2.2.2.1)))))))))))))), ((Zh NB284_275).trans (((Zh NB284_275).trans (((Zh NB284_275).trans (((Zh NB284_275).trans (((Zh NB284_275).trans (((Zh NB284_275).trans (((Zh NB284_275).trans (hHeld.2.2.2.2.2.1)))))))))))))), ((Zh NB284_275).trans (((Zh NB284_275).trans (((Zh NB284_275).trans (((Zh NB284_275).trans (((Zh NB284_275).trans (((Zh NB284_275).trans (((Zh NB284_275).trans (hHeld.2.2.2.2.2.2))))))))))))))⟩ (fun hHeld => ?_)
         clear hK K
         refine pure_ (i := 4) (N := some 8) (v := ?_) (a' := ?_) #[true, true, true, true, true] rfl rfl (by kernel_rfl) (fun _ _ _ h => h) (Or.inl ⟨by rfl, ?_⟩) ?_ ?_
         rotate_left
         ·
          intro w'
          go_simp
          with_reducible rfl
         rotate_left
         ·
          simp only [Act.put, List.setIfInBounds_toArray, List.set_cons_zero, List.set_cons_succ, i64_w, i32_w]
          rfl
         refine done_ (by kernel_rfl) ?_
         try go_wp2
         refine bodyPost_ret (results_list (rs := [.tmp 6, .cell 7 26, .tmp 8]) rfl (by simp) (.tmp (.cell gb275 26 #[.string x285000_1, .string x285001_1, .int .i64 x285002_1, .int .i64 x285003_1, .int .i64 x285004_1, .int .i64 x285005_1, .bool x285006_1] (0, 0) _ rfl (by (with_reducible repeat first | apply Zn | apply Zd | apply Za); refine Zp (cs := #[.string x285000_1, .string x285001_1, .int .i64 x285002_1, .int .i64 x285003_1, .int .i64 x285004_1, .int .i64 x285005_1, .bool x276006_1]) ?_ 6 _ rfl; (with_reducible repeat first | apply Zn | apply Zd | apply Za); refine Zp (cs := #[.string x285000_1, .string x285001_1, .int .i64 x285002_1, .int .i64 x285003_1, .int .i64 x285004_1, .int .i64 x276005_1, .bool x276006_1]) ?_ 5 _ rfl; (with_reducible repeat first | apply Zn | apply Zd | apply Za); refine Zp (cs := #[.string x285000_1, .string x285001_1, .int .i64 x285002_1, .int .i64 x285003_1, .int .i64 x276004_1, .int .i64 x276005_1, .bool x276006_1]) ?_ 4 _ rfl; (with_reducible repeat first | apply Zn | apply Zd | apply Za); refine Zp (cs := #[.string x285000_1, .string x285001_1, .int .i64 x285002_1, .int .i64 x276003_1, .int .i64 x276004_1, .int .i64 x276005_1, .bool x276006_1]) ?_ 3 _ rfl; (with_reducible repeat first | apply Zn | apply Zd | apply Za); refine Zp (cs := #[.string x285000_1, .string x285001_1, .int .i64 x276002_1, .int .i64 x276003_1, .int .i64 x276004_1, .int .i64 x276005_1, .bool x276006_1]) ?_ 2 _ rfl; (with_reducible repeat first | apply Zn | apply Zd | apply Za); refine Zp (cs := #[.string x285000_1, .string x276001_1, .int .i64 x276002_1, .int .i64 x276003_1, .int .i64 x276004_1, .int .i64 x276005_1, .bool x276006_1]) ?_ 1 _ rfl; (with_reducible repeat first | apply Zn | apply Zd | apply Za); refine Zp (cs := #[.string x276000_1, .string x276001_1, .int .i64 x276002_1, .int .i64 x276003_1, .int .i64 x276004_1, .int .i64 x276005_1, .bool x276006_1]) ?_ 0 _ rfl; (with_reducible repeat first | apply Zn | apply Zd | apply Za); exact BK275.out) Try.underlying26 rfl (by kernel_rfl) (.tmp .nil)))) rfl ?_
         exact ⟨_, by first | rfl | (simp [errW_none, errW_some] <;> rfl) | (simp [*, errW_none, errW_some] <;> rfl), by (with_reducible repeat (first | apply Kd.R_alloc | apply Kd.R_drewN | apply Kd.R_drew)); exact Kd.R_mono (Kd.R_far (p := ⟨gb275, 6, none⟩) (Kd.R_far (p := ⟨gb275, 5, none⟩) (Kd.R_far (p := ⟨gb275, 4, none⟩) (Kd.R_far (p := ⟨gb275, 3, none⟩) (Kd.R_far (p := ⟨gb275, 2, none⟩) (Kd.R_far (p := ⟨gb275, 1, none⟩) (Kd.R_far (p := ⟨gb275, 0, none⟩) (Kd.R_types HO294.out BK275.out (by decide)) (fun _ hk => hk.2) (.string x285000_1)) (fun _ hk => hk.2) (.string x285001_1)) (fun _ hk => hk.2) (.int .i64 x285002_1)) (fun _ hk => hk.2) (.int .i64 x285003_1)) (fun _ hk => hk.2) (.int .i64 x285004_1)) (fun _ hk => hk.2) (.int .i64 x285005_1)) (fun _ hk => hk.2) (.bool x285006_1)) (fun _ hk => trivial), Yr HB⟩
        ·
         rw [if_neg c139] at H
         exact absurd H (by simp)
       ·
        replace c138 := Bool.eq_false_iff.mpr c138
        subst c138
        have H1 : (some (x9_1, x285000_1, x285001_1, x285002_1, x285003_1, x285004_1, x285005_1, x285006_1, true)) = some (r1, r2, r3, r4, r5, r6, r7, r8, r9) := by rw [if_neg (show ¬ (false = true) by decide)] at H; exact H
        clear H
        have H := H1
        clear H1
        simp only [Option.some.injEq, Prod.mk.injEq] at H
        obtain ⟨rfl, rfl, rfl, rfl, rfl, rfl, rfl, rfl, rfl⟩ := H
        obtain ⟨hnb158, hnc158⟩ := Zo NB284_274
        obtain ⟨hnb159, hnc159⟩ := Zo NB284_275
        obtain ⟨⟨hcz160_0, hcz160_1, hcz160_2, hcz160_3, hcz160_4, hcz160_5, hcz160_6⟩, hfz160_0, hfz160_1, hfz160_2, hfz160_3, hfz160_4, hfz160_5, hfz160_6⟩ := Zk7 BK284
        try go_wp2_with (first | ((with_reducible refine gate_callee (f := 16) rfl ?_); refine goesL_ (some 72) rfl rfl Try.func16 (by kernel_rfl) rfl #[.agg #[.string x285000_1, .string x285001_1, .int .i64 x285002_1, .int .i64 x285003_1, .int .i64 x285004_1, .int .i64 x285005_1, .bool x285006_1]] rfl (by (try simp only [List.map_toArray, List.map_cons, List.map_nil]); first | done | rfl | (simp only [List.length_drop, List.length_take]; rfl)) ?_; (with_reducible refine (saga_Command.calls x285000_1 x285001_1 x285002_1 x285003_1 x285004_1 x285005_1 x285006_1 t286 t287 t288 t289 false _ A137.out).mono ?_); rintro e w161 ⟨rfl, hb⟩; refine ⟨_, rfl, ?_⟩; have n0_ := Aside0.mk (Kd.R_below (by (with_reducible repeat (first | apply Kd.R_alloc | apply Kd.R_drewN | apply Kd.R_drew)); exact HO_9.out) hb); have n1_ := Aside0.mk (Zv BK274 hb); have n2_ := Aside0.mk (Zv BK275 hb); have n3_ := Aside0.mk (Zv BK284 hb); have n4_ := Aside0.mk (Yv HB hb); clear HO_9; clear BK274; clear BK275; clear BK284; clear HB; have HO_9 := n0_; have BK274 := n1_; have BK275 := n2_; have BK284 := n3_; have HB := n4_; clear n0_ n1_ n2_ n3_ n4_; (try clear hb); (try clear hb2); (try clear hk); (try clear hi)) | ((with_reducible refine gate_dst (N := 17) rfl ?_); refine box_event ?hg (N := 17) ?hd (cs := #[.string (⟨#[]⟩ : ByteArray), .int .i64 0, .int .i64 0, .int .i64 0]) (t := 35) ?hr ?_; (case hd => rfl); (case hg => rfl); (case hr => first | (go_simp; done) | (go_simp; rfl)); intro gb291 hg w162 hbox hb; have n0_ := Aside0.mk (Kd.R_below (Kd.R_elderB (by (with_reducible repeat (first | apply Kd.R_alloc | apply Kd.R_drewN | apply Kd.R_drew)); exact HO_9.out) gb291 (Nat.le_of_eq hg.symm)) hb); have n1_ := Aside0.mk (Zv BK274 hb); have n2_ := Aside0.mk (Zv BK275 hb); have n3_ := Aside0.mk (Zv BK284 hb); have n4_ := Aside0.mk (Yv HB hb); have n5_ := Aside0.mk (hbox); have n6_ := Aside0.mk (Yg HB hg); have n7_ := Aside0.mk (Yg HB hg); have n8_ := Aside0.mk (Zl BK274 hg); have n9_ := Aside0.mk (Zg BK274 hg); have n10_ := Aside0.mk (Zl BK275 hg); have n11_ := Aside0.mk (Zg BK275 hg); have n12_ := Aside0.mk (Zl BK284 hg); have n13_ := Aside0.mk (Zg BK284 hg); clear HO_9; clear BK274; clear BK275; clear BK284; clear HB; have HO_9 := n0_; have BK274 := n1_; have BK275 := n2_; have BK284 := n3_; have HB := n4_; have BK291 := n5_; have GW291 := n6_; have GE291 := n7_; have NB274_291 := n8_; have NB291_274 := n9_; have NB275_291 := n10_; have NB291_275 := n11_; have NB284_291 := n12_; have NB291_284 := n13_; clear n0_ n1_ n2_ n3_ n4_ n5_ n6_ n7_ n8_ n9_ n10_ n11_ n12_ n13_; clear hb hbox hg; obtain ⟨hnb163, hnc163⟩ := Zo NB291_274; obtain ⟨hnb164, hnc164⟩ := Zo NB291_275; obtain ⟨hnb165, hnc165⟩ := Zo NB291_284; obtain ⟨⟨hcz166_0, hcz166_1, hcz166_2, hcz166_3⟩, hfz166_0, hfz166_1, hfz166_2, hfz166_3⟩ := Zk4 BK291))
        have n0_ : Aside0 (Kd.R k35 35 ((((w162.setCell ⟨gb291, 0, none⟩ (.string t286)).setCell ⟨gb291, 1, none⟩ (.int .i64 t287)).setCell ⟨gb291, 2, none⟩ (.int .i64 t288)).setCell ⟨gb291, 3, none⟩ (.int .i64 t289)) w.heap.size (fun k_ => k_ ≠ gb291) u9 x9_1) := ⟨by (with_reducible repeat (first | apply Kd.R_alloc | apply Kd.R_drewN | apply Kd.R_drew)); exact Kd.R_mono (Kd.R_far (p := ⟨gb291, 3, none⟩) (Kd.R_far (p := ⟨gb291, 2, none⟩) (Kd.R_far (p := ⟨gb291, 1, none⟩) (Kd.R_far (p := ⟨gb291, 0, none⟩) (Kd.R_mono HO_9.out (fun k_ hk => (⟨hk, hk.2⟩ : _ ∧ k_ ≠ gb291))) (fun _ hk => hk.2) (.string t286)) (fun _ hk => hk.2) (.int .i64 t287)) (fun _ hk => hk.2) (.int .i64 t288)) (fun _ hk => hk.2) (.int .i64 t289)) (fun _ hk => hk.1.2)⟩
        have n1_ : Aside0 (((((w162.setCell ⟨gb291, 0, none⟩ (.string t286)).setCell ⟨gb291, 1, none⟩ (.int .i64 t287)).setCell ⟨gb291, 2, none⟩ (.int .i64 t288)).setCell ⟨gb291, 3, none⟩ (.int .i64 t289)).heap[gb274]? = some (.cells #[.string a0_0, .slice A0_1 l0_1.length c0_1] 24 (0, 0))) := ⟨by (with_reducible repeat first | apply Zn | apply Zd | apply Za); refine Zq ?_ NB274_291.out _; (with_reducible repeat first | apply Zn | apply Zd | apply Za); refine Zq ?_ NB274_291.out _; (with_reducible repeat first | apply Zn | apply Zd | apply Za); refine Zq ?_ NB274_291.out _; (with_reducible repeat first | apply Zn | apply Zd | apply Za); refine Zq ?_ NB274_291.out _; (with_reducible repeat first | apply Zn | apply Zd | apply Za); exact BK274.out⟩
        have n2_ : Aside0 (((((w162.setCell ⟨gb291, 0, none⟩ (.string t286)).setCell ⟨gb291, 1, none⟩ (.int .i64 t287)).setCell ⟨gb291, 2, none⟩ (.int .i64 t288)).setCell ⟨gb291, 3, none⟩ (.int .i64 t289)).heap[gb275]? = some (.cells #[.string x276000_1, .string x276001_1, .int .i64 x276002_1, .int .i64 x276003_1, .int .i64 x276004_1, .int .i64 x276005_1, .bool x276006_1] 26 (0, 0))) := ⟨by (with_reducible repeat first | apply Zn | apply Zd | apply Za); refine Zq ?_ NB275_291.out _; (with_reducible repeat first | apply Zn | apply Zd | apply Za); refine Zq ?_ NB275_291.out _; (with_reducible repeat first | apply Zn | apply Zd | apply Za); refine Zq ?_ NB275_291.out _; (with_reducible repeat first | apply Zn | apply Zd | apply Za); refine Zq ?_ NB275_291.out _; (with_reducible repeat first | apply Zn | apply Zd | apply Za); exact BK275.out⟩
        have n3_ : Aside0 (((((w162.setCell ⟨gb291, 0, none⟩ (.string t286)).setCell ⟨gb291, 1, none⟩ (.int .i64 t287)).setCell ⟨gb291, 2, none⟩ (.int .i64 t288)).setCell ⟨gb291, 3, none⟩ (.int .i64 t289)).heap[gb284]? = some (.cells #[.string x285000_1, .string x285001_1, .int .i64 x285002_1, .int .i64 x285003_1, .int .i64 x285004_1, .int .i64 x285005_1, .bool x285006_1] 26 (0, 0))) := ⟨by (with_reducible repeat first | apply Zn | apply Zd | apply Za); refine Zq ?_ NB284_291.out _; (with_reducible repeat first | apply Zn | apply Zd | apply Za); refine Zq ?_ NB284_291.out _; (with_reducible repeat first | apply Zn | apply Zd | apply Za); refine Zq ?_ NB284_291.out _; (with_reducible repeat first | apply Zn | apply Zd | apply Za); refine Zq ?_ NB284_291.out _; (with_reducible repeat first | apply Zn | apply Zd | apply Za); exact BK284.out⟩
        have n4_ : Aside0 (((((w162.setCell ⟨gb291, 0, none⟩ (.string t286)).setCell ⟨gb291, 1, none⟩ (.int .i64 t287)).setCell ⟨gb291, 2, none⟩ (.int .i64 t288)).setCell ⟨gb291, 3, none⟩ (.int .i64 t289)).heap[gb291]? = some (.cells #[.string t286, .int .i64 t287, .int .i64 t288, .int .i64 t289] 35 (0, 0))) := ⟨by (with_reducible repeat first | apply Zn | apply Zd | apply Za); refine Zp (cs := #[.string t286, .int .i64 t287, .int .i64 t288, .int .i64 0]) ?_ 3 _ rfl; (with_reducible repeat first | apply Zn | apply Zd | apply Za); refine Zp (cs := #[.string t286, .int .i64 t287, .int .i64 0, .int .i64 0]) ?_ 2 _ rfl; (with_reducible repeat first | apply Zn | apply Zd | apply Za); refine Zp (cs := #[.string t286, .int .i64 0, .int .i64 0, .int .i64 0]) ?_ 1 _ rfl; (with_reducible repeat first | apply Zn | apply Zd | apply Za); refine Zp (cs := #[.string (⟨#[]⟩ : ByteArray), .int .i64 0, .int .i64 0, .int .i64 0]) ?_ 0 _ rfl; (with_reducible repeat first | apply Zn | apply Zd | apply Za); exact BK291.out⟩
        have n5_ : Aside0 (Below w.heap.size w ((((w162.setCell ⟨gb291, 0, none⟩ (.string t286)).setCell ⟨gb291, 1, none⟩ (.int .i64 t287)).setCell ⟨gb291, 2, none⟩ (.int .i64 t288)).setCell ⟨gb291, 3, none⟩ (.int .i64 t289))) := ⟨Yr HB⟩
        (try clear HO_9)
        (try clear BK274)
        (try clear BK275)
        (try clear BK284)
        (try clear BK291)
        (try clear HB)
        generalize ((((w162.setCell ⟨gb291, 0, none⟩ (.string t286)).setCell ⟨gb291, 1, none⟩ (.int .i64 t287)).setCell ⟨gb291, 2, none⟩ (.int .i64 t288)).setCell ⟨gb291, 3, none⟩ (.int .i64 t289)) = w167 at n0_ n1_ n2_ n3_ n4_ n5_ ⊢
        have HO_9 := n0_
        have BK274 := n1_
        have BK275 := n2_
        have BK284 := n3_
        have BK291 := n4_
        have HB := n5_
        clear n0_ n1_ n2_ n3_ n4_ n5_
        have n0_ := Aside0.mk (Kd.R_drew HO_9.out)
        have n1_ := Aside0.mk (Zd BK274.out)
        have n2_ := Aside0.mk (Zd BK275.out)
        have n3_ := Aside0.mk (Zd BK284.out)
        have n4_ := Aside0.mk (Zd BK291.out)
        have n5_ := Aside0.mk (Yd HB.out)
        clear HO_9
        clear BK274
        clear BK275
        clear BK284
        clear BK291
        clear HB
        have HO_9 := n0_
        have BK274 := n1_
        have BK275 := n2_
        have BK284 := n3_
        have BK291 := n4_
        have HB := n5_
        clear n0_ n1_ n2_ n3_ n4_ n5_
        refine start_ (n := 5) (S := fun w' => w'.cell? ⟨gb284, 0, none⟩ = some (.string x285000_1) ∧ w'.cell? ⟨gb284, 1, none⟩ = some (.string x285001_1) ∧ w'.cell? ⟨gb284, 2, none⟩ = some (.int .i64 x285002_1) ∧ w'.cell? ⟨gb284, 3, none⟩ = some (.int .i64 x285003_1) ∧ w'.cell? ⟨gb284, 4, none⟩ = some (.int .i64 x285004_1) ∧ w'.cell? ⟨gb284, 5, none⟩ = some (.int .i64 x285005_1) ∧ w'.cell? ⟨gb284, 6, none⟩ = some (.bool x285006_1)) (ds := []) #[false, false, false, false, false] (by kernel_rfl) rfl rfl ⟨(Zc BK284.out 0).trans rfl, (Zc BK284.out 1).trans rfl, (Zc BK284.out 2).trans rfl, (Zc BK284.out 3).trans rfl, (Zc BK284.out 4).trans rfl, (Zc BK284.out 5).trans rfl, (Zc BK284.out 6).trans rfl⟩ (fun hHeld => ?_)
        generalize w167.drew = w168 at HO_9 BK274 BK275 BK284 BK291 HB hHeld ⊢
        refine pure_ (i := 0) (N := some 80) (v := ?_) (a' := ?_) #[true, false, false, false, false] rfl rfl (by kernel_rfl) (fun _ _ _ h => h) (Or.inl ⟨by rfl, ?_⟩) ?_ ?_
        rotate_left
        ·
         intro w'
         go_simp
         with_reducible rfl
        rotate_left
        ·
         simp only [Act.put, List.setIfInBounds_toArray, List.set_cons_zero, List.set_cons_succ, i64_w, i32_w]
         rfl
        refine pure_ (i := 2) (N := some 6) (v := ?_) (a' := ?_) #[true, false, true, false, false] rfl rfl (by kernel_rfl) (fun _ _ _ h => h) (Or.inl ⟨by rfl, ?_⟩) ?_ ?_
        rotate_left
        ·
         intro w'
         go_simp
         with_reducible rfl
        rotate_left
        ·
         simp only [Act.put, List.setIfInBounds_toArray, List.set_cons_zero, List.set_cons_succ, i64_w, i32_w]
         rfl
        refine take_ (i := 1) (N := some 81) (v := ?_) (a' := ?_) #[true, true, true, false, false] rfl rfl (by kernel_rfl) (fun _ _ _ h => h) (Or.inl ⟨by rfl, ?_⟩) hHeld ?_ ?_
        rotate_left
        ·
         rintro w' ⟨s0, s1, s2, s3, s4, s5, s6⟩
         go_simp
         with_reducible rfl
        rotate_left
        ·
         simp only [Act.put, List.setIfInBounds_toArray, List.set_cons_zero, List.set_cons_succ, i64_w, i32_w]
         rfl
        refine one_ (i := 3) (N := none) #[true, true, true, true, false] rfl rfl (by kernel_rfl) (by decide) (fun K hK => ?_)
        have hs169 : w168.cell? ⟨gb275, 0, none⟩ = some (.string x276000_1) := (Zc BK275.out 0).trans rfl
        have hfs169 := Zf BK275.out 0
        obtain ⟨hns169_0, hms169_0⟩ := Zo NB274_275
        obtain ⟨hns169_2, hms169_2⟩ := Zo NB284_275
        obtain ⟨hns169_3, hms169_3⟩ := Zo NB291_275
        have hs170 : w168.cell? ⟨gb275, 1, none⟩ = some (.string x276001_1) := (Zc BK275.out 1).trans rfl
        have hfs170 := Zf BK275.out 1
        obtain ⟨hns170_0, hms170_0⟩ := Zo NB274_275
        obtain ⟨hns170_2, hms170_2⟩ := Zo NB284_275
        obtain ⟨hns170_3, hms170_3⟩ := Zo NB291_275
        have hs171 : w168.cell? ⟨gb275, 2, none⟩ = some (.int .i64 x276002_1) := (Zc BK275.out 2).trans rfl
        have hfs171 := Zf BK275.out 2
        obtain ⟨hns171_0, hms171_0⟩ := Zo NB274_275
        obtain ⟨hns171_2, hms171_2⟩ := Zo NB284_275
        obtain ⟨hns171_3, hms171_3⟩ := Zo NB291_275
        have hs172 : w168.cell? ⟨gb275, 3, none⟩ = some (.int .i64 x276003_1) := (Zc BK275.out 3).trans rfl
        have hfs172 := Zf BK275.out 3
        obtain ⟨hns172_0, hms172_0⟩ := Zo NB274_275
        obtain ⟨hns172_2, hms172_2⟩ := Zo NB284_275
        obtain ⟨hns172_3, hms172_3⟩ := Zo NB291_275
        have hs173 : w168.cell? ⟨gb275, 4, none⟩ = some (.int .i64 x276004_1) := (Zc BK275.out 4).trans rfl
        have hfs173 := Zf BK275.out 4
        obtain ⟨hns173_0, hms173_0⟩ := Zo NB274_275
        obtain ⟨hns173_2, hms173_2⟩ := Zo NB284_275
        obtain ⟨hns173_3, hms173_3⟩ := Zo NB291_275
        have hs174 : w168.cell? ⟨gb275, 5, none⟩ = some (.int .i64 x276005_1) := (Zc BK275.out 5).trans rfl
        have hfs174 := Zf BK275.out 5
        obtain ⟨hns174_0, hms174_0⟩ := Zo NB274_275
        obtain ⟨hns174_2, hms174_2⟩ := Zo NB284_275
        obtain ⟨hns174_3, hms174_3⟩ := Zo NB291_275
        have hs175 : w168.cell? ⟨gb275, 6, none⟩ = some (.bool x276006_1) := (Zc BK275.out 6).trans rfl
        have hfs175 := Zf BK275.out 6
        obtain ⟨hns175_0, hms175_0⟩ := Zo NB274_275
        obtain ⟨hns175_2, hms175_2⟩ := Zo NB284_275
        obtain ⟨hns175_3, hms175_3⟩ := Zo NB291_275
        refine skip_ (w1 := ?_) (by rfl) rfl ?_ ?_
        rotate_left
        ·
         go_simp
         rfl
        refine hK.out _ _ ⟨((Zh NB284_275).trans (((Zh NB284_275).trans (((Zh NB284_275).trans (((Zh NB284_275).trans (((Zh NB284_275).trans (((Zh NB284_275).trans (((Zh NB284_275).trans (hHeld.1)))))))))))))), ((Zh NB284_275).trans (((Zh NB284_275).trans (((Zh NB284_275).trans (((Zh NB284_275).trans (((Zh NB284_275).trans (((Zh NB284_275).trans (((Zh NB284_275).trans (hHeld.2.1)))))))))))))), ((Zh NB284_275).trans (((Zh NB284_275).trans (((Zh NB284_275).trans (((Zh NB284_275).trans (((Zh NB284_275).trans (((Zh NB284_275).trans (((Zh NB284_275).trans (hHeld.2.2.1)))))))))))))), ((Zh NB284_275).trans (((Zh NB284_275).trans (((Zh NB284_275).trans (((Zh NB284_275).trans (((Zh NB284_275).trans (((Zh NB284_275).trans (((Zh NB284_275).trans (hHeld.2.2.2.1)))))))))))))), ((Zh NB284_275).trans (((Zh NB284_275).trans (((Zh NB284_275).trans (((Zh NB284_275).trans (((Zh NB284_275).trans (((Zh NB284_275).trans (((Zh NB284_275).trans (hHeld.2.2.2.2.1)))))))))))))), ((Zh NB284_275).trans (((Zh NB284_275).trans (((Zh NB284_275).trans (((Zh NB284_275).trans (((Zh NB284_275).trans (((Zh NB284_275).trans (((Zh NB284_275).trans (hHeld.2.2.2.2.2.1)))))))))))))), ((Zh NB284_275).trans (((Zh NB284_275).trans (((Zh NB284_275).trans (((Zh NB284_275).trans (((Zh NB284_275).trans (((Zh NB284_275).trans (((Zh NB284_275).trans (hHeld.2.2.2.2.2.2))))))))))))))⟩ (fun hHeld => ?_)
        clear hK K
        refine pure_ (i := 4) (N := some 8) (v := ?_) (a' := ?_) #[true, true, true, true, true] rfl rfl (by kernel_rfl) (fun _ _ _ h => h) (Or.inl ⟨by rfl, ?_⟩) ?_ ?_
        rotate_left
        ·
         intro w'
         go_simp
         with_reducible rfl
        rotate_left
        ·
         simp only [Act.put, List.setIfInBounds_toArray, List.set_cons_zero, List.set_cons_succ, i64_w, i32_w]
         rfl
        refine done_ (by kernel_rfl) ?_
        try go_wp2
        refine bodyPost_ret (results_list (rs := [.tmp 6, .cell 7 26, .tmp 8]) rfl (by simp) (.tmp (.cell gb275 26 #[.string x285000_1, .string x285001_1, .int .i64 x285002_1, .int .i64 x285003_1, .int .i64 x285004_1, .int .i64 x285005_1, .bool x285006_1] (0, 0) _ rfl (by (with_reducible repeat first | apply Zn | apply Zd | apply Za); refine Zp (cs := #[.string x285000_1, .string x285001_1, .int .i64 x285002_1, .int .i64 x285003_1, .int .i64 x285004_1, .int .i64 x285005_1, .bool x276006_1]) ?_ 6 _ rfl; (with_reducible repeat first | apply Zn | apply Zd | apply Za); refine Zp (cs := #[.string x285000_1, .string x285001_1, .int .i64 x285002_1, .int .i64 x285003_1, .int .i64 x285004_1, .int .i64 x276005_1, .bool x276006_1]) ?_ 5 _ rfl; (with_reducible repeat first | apply Zn | apply Zd | apply Za); refine Zp (cs := #[.string x285000_1, .string x285001_1, .int .i64 x285002_1, .int .i64 x285003_1, .int .i64 x276004_1, .int .i64 x276005_1, .bool x276006_1]) ?_ 4 _ rfl; (with_reducible repeat first | apply Zn | apply Zd | apply Za); refine Zp (cs := #[.string x285000_1, .string x285001_1, .int .i64 x285002_1, .int .i64 x276003_1, .int .i64 x276004_1, .int .i64 x276005_1, .bool x276006_1]) ?_ 3 _ rfl; (with_reducible repeat first | apply Zn | apply Zd | apply Za); refine Zp (cs := #[.string x285000_1, .string x285001_1, .int .i64 x276002_1, .int .i64 x276003_1, .int .i64 x276004_1, .int .i64 x276005_1, .bool x276006_1]) ?_ 2 _ rfl; (with_reducible repeat first | apply Zn | apply Zd | apply Za); refine Zp (cs := #[.string x285000_1, .string x276001_1, .int .i64 x276002_1, .int .i64 x276003_1, .int .i64 x276004_1, .int .i64 x276005_1, .bool x276006_1]) ?_ 1 _ rfl; (with_reducible repeat first | apply Zn | apply Zd | apply Za); refine Zp (cs := #[.string x276000_1, .string x276001_1, .int .i64 x276002_1, .int .i64 x276003_1, .int .i64 x276004_1, .int .i64 x276005_1, .bool x276006_1]) ?_ 0 _ rfl; (with_reducible repeat first | apply Zn | apply Zd | apply Za); exact BK275.out) Try.underlying26 rfl (by kernel_rfl) (.tmp .nil)))) rfl ?_
        exact ⟨_, by first | rfl | (simp [errW_none, errW_some] <;> rfl) | (simp [*, errW_none, errW_some] <;> rfl), by (with_reducible repeat (first | apply Kd.R_alloc | apply Kd.R_drewN | apply Kd.R_drew)); exact Kd.R_mono (Kd.R_far (p := ⟨gb275, 6, none⟩) (Kd.R_far (p := ⟨gb275, 5, none⟩) (Kd.R_far (p := ⟨gb275, 4, none⟩) (Kd.R_far (p := ⟨gb275, 3, none⟩) (Kd.R_far (p := ⟨gb275, 2, none⟩) (Kd.R_far (p := ⟨gb275, 1, none⟩) (Kd.R_far (p := ⟨gb275, 0, none⟩) (Kd.R_types HO_9.out BK275.out (by decide)) (fun _ hk => hk.2) (.string x285000_1)) (fun _ hk => hk.2) (.string x285001_1)) (fun _ hk => hk.2) (.int .i64 x285002_1)) (fun _ hk => hk.2) (.int .i64 x285003_1)) (fun _ hk => hk.2) (.int .i64 x285004_1)) (fun _ hk => hk.2) (.int .i64 x285005_1)) (fun _ hk => hk.2) (.bool x285006_1)) (fun _ hk => trivial), Yr HB⟩
 ·
  have H1 : (some (([] : List (S35)), t276, t277, t278, t279, t280, t281, t282, false)) = some (r1, r2, r3, r4, r5, r6, r7, r8, r9) := by rw [if_neg (show ¬ (some q285).isNone = true by simp)] at H; exact H
  clear H
  have H := H1
  clear H1
  try simp only [errW_none, errW_some]
  simp only [Option.some.injEq, Prod.mk.injEq] at H
  obtain ⟨rfl, rfl, rfl, rfl, rfl, rfl, rfl, rfl, rfl⟩ := H
  go_enter Try.func25, Try.ntmps25
  try go_wp2_with (first | ((with_reducible refine gate_dst (N := 3) rfl ?_); refine box_event ?hg (N := 3) ?hd (cs := #[.string a0_0, .slice A0_1 l0_1.length c0_1]) (t := 24) ?hr ?_; (case hd => rfl); (case hg => rfl); (case hr => first | (go_simp; done) | (go_simp; rfl)); intro gb274 hg w176 hbox hb; have n0_ := Aside0.mk (Yv HB hb); have n1_ := Aside0.mk (hbox); have n2_ := Aside0.mk (Yg HB hg); have n3_ := Aside0.mk (Yg HB hg); clear HB; have HB := n0_; have BK274 := n1_; have GW274 := n2_; have GE274 := n3_; clear n0_ n1_ n2_ n3_; clear hb hbox hg) | ((with_reducible refine gate_dst (N := 7) rfl ?_); refine box_event ?hg (N := 7) ?hd (cs := #[.string (⟨#[]⟩ : ByteArray), .string (⟨#[]⟩ : ByteArray), .int .i64 0, .int .i64 0, .int .i64 0, .int .i64 0, .bool false]) (t := 26) ?hr ?_; (case hd => rfl); (case hg => rfl); (case hr => first | (go_simp; done) | (go_simp; rfl)); intro gb275 hg w177 hbox hb; have n0_ := Aside0.mk (Zv BK274 hb); have n1_ := Aside0.mk (Yv HB hb); have n2_ := Aside0.mk (hbox); have n3_ := Aside0.mk (Yg HB hg); have n4_ := Aside0.mk (Yg HB hg); have n5_ := Aside0.mk (Zl BK274 hg); have n6_ := Aside0.mk (Zg BK274 hg); clear BK274; clear HB; have BK274 := n0_; have HB := n1_; have BK275 := n2_; have GW275 := n3_; have GE275 := n4_; have NB274_275 := n5_; have NB275_274 := n6_; clear n0_ n1_ n2_ n3_ n4_ n5_ n6_; clear hb hbox hg; obtain ⟨hnb178, hnc178⟩ := Zo NB274_275; obtain ⟨⟨hcz179_0, hcz179_1⟩, hfz179_0, hfz179_1⟩ := Zk2 BK274) | ((with_reducible refine gate_callee (f := 14) rfl ?_); refine goesL_ (some 22) rfl rfl Try.func14 (by kernel_rfl) rfl #[.agg #[.string a0_0, .slice A0_1 l0_1.length c0_1], .string (⟨#[97]⟩ : ByteArray), .int .i64 a2] rfl (by (try simp only [List.map_toArray, List.map_cons, List.map_nil]); first | done | rfl | (simp only [List.length_drop, List.length_take]; rfl)) ?_; (with_reducible refine (saga_Begin.calls k a0_0 _ _ l0_1 (⟨#[97]⟩ : ByteArray) a2 t276 t277 t278 t279 t280 t281 t282 (some q285) _ ?side1 ?side2 A4.out).mono ?_); (case side1 => repeat (first | exact (Kd.C_below HR0_1.out HB.out) | (with_reducible refine Kd.C_alloc ?_ _) | (with_reducible refine Kd.C_drewN ?_ _) | (with_reducible refine Kd.C_drew ?_))); (case side2 => exact HC0_1.out); rintro e w180 ⟨rfl, hb⟩; refine ⟨_, rfl, ?_⟩; have n0_ := Aside0.mk (Zv BK274 hb); have n1_ := Aside0.mk (Zv BK275 hb); have n2_ := Aside0.mk (Yv HB hb); clear BK274; clear BK275; clear HB; have BK274 := n0_; have BK275 := n1_; have HB := n2_; clear n0_ n1_ n2_; (try clear hb); (try clear hb2); (try clear hk); (try clear hi); (try simp only [errW_none, errW_some])) | ((with_reducible refine gate_dst (N := 10) rfl ?_); refine box_event ?hg (N := 10) ?hd (cs := #[.string (⟨#[]⟩ : ByteArray), .string (⟨#[]⟩ : ByteArray), .int .i64 0, .int .i64 0, .int .i64 0, .int .i64 0, .bool false]) (t := 26) ?hr ?_; (case hd => rfl); (case hg => rfl); (case hr => first | (go_simp; done) | (go_simp; rfl)); intro gb284 hg w181 hbox hb; have n0_ := Aside0.mk (Zv BK274 hb); have n1_ := Aside0.mk (Zv BK275 hb); have n2_ := Aside0.mk (Yv HB hb); have n3_ := Aside0.mk (hbox); have n4_ := Aside0.mk (Yg HB hg); have n5_ := Aside0.mk (Yg HB hg); have n6_ := Aside0.mk (Zl BK274 hg); have n7_ := Aside0.mk (Zg BK274 hg); have n8_ := Aside0.mk (Zl BK275 hg); have n9_ := Aside0.mk (Zg BK275 hg); clear BK274; clear BK275; clear HB; have BK274 := n0_; have BK275 := n1_; have HB := n2_; have BK284 := n3_; have GW284 := n4_; have GE284 := n5_; have NB274_284 := n6_; have NB284_274 := n7_; have NB275_284 := n8_; have NB284_275 := n9_; clear n0_ n1_ n2_ n3_ n4_ n5_ n6_ n7_ n8_ n9_; clear hb hbox hg; obtain ⟨hnb182, hnc182⟩ := Zo NB284_274; obtain ⟨hnb183, hnc183⟩ := Zo NB284_275; obtain ⟨⟨hcz184_0, hcz184_1, hcz184_2, hcz184_3, hcz184_4, hcz184_5, hcz184_6⟩, hfz184_0, hfz184_1, hfz184_2, hfz184_3, hfz184_4, hfz184_5, hfz184_6⟩ := Zk7 BK284))
  have n0_ : Aside0 ((((((((w181.setCell ⟨gb284, 0, none⟩ (.string t276)).setCell ⟨gb284, 1, none⟩ (.string t277)).setCell ⟨gb284, 2, none⟩ (.int .i64 t278)).setCell ⟨gb284, 3, none⟩ (.int .i64 t279)).setCell ⟨gb284, 4, none⟩ (.int .i64 t280)).setCell ⟨gb284, 5, none⟩ (.int .i64 t281)).setCell ⟨gb284, 6, none⟩ (.bool t282)).heap[gb274]? = some (.cells #[.string a0_0, .slice A0_1 l0_1.length c0_1] 24 (0, 0))) := ⟨by (with_reducible repeat first | apply Zn | apply Zd | apply Za); refine Zq ?_ NB274_284.out _; (with_reducible repeat first | apply Zn | apply Zd | apply Za); refine Zq ?_ NB274_284.out _; (with_reducible repeat first | apply Zn | apply Zd | apply Za); refine Zq ?_ NB274_284.out _; (with_reducible repeat first | apply Zn | apply Zd | apply Za); refine Zq ?_ NB274_284.out _; (with_reducible repeat first | apply Zn | apply Zd | apply Za); refine Zq ?_ NB274_284.out _; (with_reducible repeat first | apply Zn | apply Zd | apply Za); refine Zq ?_ NB274_284.out _; (with_reducible repeat first | apply Zn | apply Zd | apply Za); refine Zq ?_ NB274_284.out _; (with_reducible repeat first | apply Zn | apply Zd | apply Za); exact BK274.out⟩
  have n1_ : Aside0 ((((((((w181.setCell ⟨gb284, 0, none⟩ (.string t276)).setCell ⟨gb284, 1, none⟩ (.string t277)).setCell ⟨gb284, 2, none⟩ (.int .i64 t278)).setCell ⟨gb284, 3, none⟩ (.int .i64 t279)).setCell ⟨gb284, 4, none⟩ (.int .i64 t280)).setCell ⟨gb284, 5, none⟩ (.int .i64 t281)).setCell ⟨gb284, 6, none⟩ (.bool t282)).heap[gb275]? = some (.cells #[.string (⟨#[]⟩ : ByteArray), .string (⟨#[]⟩ : ByteArray), .int .i64 0, .int .i64 0, .int .i64 0, .int .i64 0, .bool false] 26 (0, 0))) := ⟨by (with_reducible repeat first | apply Zn | apply Zd | apply Za); refine Zq ?_ NB275_284.out _; (with_reducible repeat first | apply Zn | apply Zd | apply Za); refine Zq ?_ NB275_284.out _; (with_reducible repeat first | apply Zn | apply Zd | apply Za); refine Zq ?_ NB275_284.out _; (with_reducible repeat first | apply Zn | apply Zd | apply Za); refine Zq ?_ NB275_284.out _; (with_reducible repeat first | apply Zn | apply Zd | apply Za); refine Zq ?_ NB275_284.out _; (with_reducible repeat first | apply Zn | apply Zd | apply Za); refine Zq ?_ NB275_284.out _; (with_reducible repeat first | apply Zn | apply Zd | apply Za); refine Zq ?_ NB275_284.out _; (with_reducible repeat first | apply Zn | apply Zd | apply Za); exact BK275.out⟩
  have n2_ : Aside0 ((((((((w181.setCell ⟨gb284, 0, none⟩ (.string t276)).setCell ⟨gb284, 1, none⟩ (.string t277)).setCell ⟨gb284, 2, none⟩ (.int .i64 t278)).setCell ⟨gb284, 3, none⟩ (.int .i64 t279)).setCell ⟨gb284, 4, none⟩ (.int .i64 t280)).setCell ⟨gb284, 5, none⟩ (.int .i64 t281)).setCell ⟨gb284, 6, none⟩ (.bool t282)).heap[gb284]? = some (.cells #[.string t276, .string t277, .int .i64 t278, .int .i64 t279, .int .i64 t280, .int .i64 t281, .bool t282] 26 (0, 0))) := ⟨by (with_reducible repeat first | apply Zn | apply Zd | apply Za); refine Zp (cs := #[.string t276, .string t277, .int .i64 t278, .int .i64 t279, .int .i64 t280, .int .i64 t281, .bool false]) ?_ 6 _ rfl; (with_reducible repeat first | apply Zn | apply Zd | apply Za); refine Zp (cs := #[.string t276, .string t277, .int .i64 t278, .int .i64 t279, .int .i64 t280, .int .i64 0, .bool false]) ?_ 5 _ rfl; (with_reducible repeat first | apply Zn | apply Zd | apply Za); refine Zp (cs := #[.string t276, .string t277, .int .i64 t278, .int .i64 t279, .int .i64 0, .int .i64 0, .bool false]) ?_ 4 _ rfl; (with_reducible repeat first | apply Zn | apply Zd | apply Za); refine Zp (cs := #[.string t276, .string t277, .int .i64 t278, .int .i64 0, .int .i64 0, .int .i64 0, .bool false]) ?_ 3 _ rfl; (with_reducible repeat first | apply Zn | apply Zd | apply Za); refine Zp (cs := #[.string t276, .string t277, .int .i64 0, .int .i64 0, .int .i64 0, .int .i64 0, .bool false]) ?_ 2 _ rfl; (with_reducible repeat first | apply Zn | apply Zd | apply Za); refine Zp (cs := #[.string t276, .string (⟨#[]⟩ : ByteArray), .int .i64 0, .int .i64 0, .int .i64 0, .int .i64 0, .bool false]) ?_ 1 _ rfl; (with_reducible repeat first | apply Zn | apply Zd | apply Za); refine Zp (cs := #[.string (⟨#[]⟩ : ByteArray), .string (⟨#[]⟩ : ByteArray), .int .i64 0, .int .i64 0, .int .i64 0, .int .i64 0, .bool false]) ?_ 0 _ rfl; (with_reducible repeat first | apply Zn | apply Zd | apply Za); exact BK284.out⟩
  have n3_ : Aside0 (Below w.heap.size w (((((((w181.setCell ⟨gb284, 0, none⟩ (.string t276)).setCell ⟨gb284, 1, none⟩ (.string t277)).setCell ⟨gb284, 2, none⟩ (.int .i64 t278)).setCell ⟨gb284, 3, none⟩ (.int .i64 t279)).setCell ⟨gb284, 4, none⟩ (.int .i64 t280)).setCell ⟨gb284, 5, none⟩ (.int .i64 t281)).setCell ⟨gb284, 6, none⟩ (.bool t282))) := ⟨Yr HB⟩
  (try clear BK274)
  (try clear BK275)
  (try clear BK284)
  (try clear HB)
  generalize (((((((w181.setCell ⟨gb284, 0, none⟩ (.string t276)).setCell ⟨gb284, 1, none⟩ (.string t277)).setCell ⟨gb284, 2, none⟩ (.int .i64 t278)).setCell ⟨gb284, 3, none⟩ (.int .i64 t279)).setCell ⟨gb284, 4, none⟩ (.int .i64 t280)).setCell ⟨gb284, 5, none⟩ (.int .i64 t281)).setCell ⟨gb284, 6, none⟩ (.bool t282)) = w185 at n0_ n1_ n2_ n3_ ⊢
  have BK274 := n0_
  have BK275 := n1_
  have BK284 := n2_
  have HB := n3_
  clear n0_ n1_ n2_ n3_
  have n0_ := Aside0.mk (Zd BK274.out)
  have n1_ := Aside0.mk (Zd BK275.out)
  have n2_ := Aside0.mk (Zd BK284.out)
  have n3_ := Aside0.mk (Yd HB.out)
  clear BK274
  clear BK275
  clear BK284
  clear HB
  have BK274 := n0_
  have BK275 := n1_
  have BK284 := n2_
  have HB := n3_
  clear n0_ n1_ n2_ n3_
  refine start_ (n := 4) (S := fun w' => w'.cell? ⟨gb284, 0, none⟩ = some (.string t276) ∧ w'.cell? ⟨gb284, 1, none⟩ = some (.string t277) ∧ w'.cell? ⟨gb284, 2, none⟩ = some (.int .i64 t278) ∧ w'.cell? ⟨gb284, 3, none⟩ = some (.int .i64 t279) ∧ w'.cell? ⟨gb284, 4, none⟩ = some (.int .i64 t280) ∧ w'.cell? ⟨gb284, 5, none⟩ = some (.int .i64 t281) ∧ w'.cell? ⟨gb284, 6, none⟩ = some (.bool t282)) (ds := []) #[false, false, false, false] (by kernel_rfl) rfl rfl ⟨(Zc BK284.out 0).trans rfl, (Zc BK284.out 1).trans rfl, (Zc BK284.out 2).trans rfl, (Zc BK284.out 3).trans rfl, (Zc BK284.out 4).trans rfl, (Zc BK284.out 5).trans rfl, (Zc BK284.out 6).trans rfl⟩ (fun hHeld => ?_)
  generalize w185.drew = w186 at BK274 BK275 BK284 HB hHeld ⊢
  refine pure_ (i := 1) (N := some 6) (v := ?_) (a' := ?_) #[false, true, false, false] rfl rfl (by kernel_rfl) (fun _ _ _ h => h) (Or.inl ⟨by rfl, ?_⟩) ?_ ?_
  rotate_left
  ·
   intro w'
   go_simp
   with_reducible rfl
  rotate_left
  ·
   simp only [Act.put, List.setIfInBounds_toArray, List.set_cons_zero, List.set_cons_succ, i64_w, i32_w]
   rfl
  refine take_ (i := 0) (N := some 27) (v := ?_) (a' := ?_) #[true, true, false, false] rfl rfl (by kernel_rfl) (fun _ _ _ h => h) (Or.inl ⟨by rfl, ?_⟩) hHeld ?_ ?_
  rotate_left
  ·
   rintro w' ⟨s0, s1, s2, s3, s4, s5, s6⟩
   go_simp
   with_reducible rfl
  rotate_left
  ·
   simp only [Act.put, List.setIfInBounds_toArray, List.set_cons_zero, List.set_cons_succ, i64_w, i32_w]
   rfl
  refine one_ (i := 2) (N := none) #[true, true, true, false] rfl rfl (by kernel_rfl) (by decide) (fun K hK => ?_)
  have hs187 : w186.cell? ⟨gb275, 0, none⟩ = some (.string (⟨#[]⟩ : ByteArray)) := (Zc BK275.out 0).trans rfl
  have hfs187 := Zf BK275.out 0
  obtain ⟨hns187_0, hms187_0⟩ := Zo NB274_275
  obtain ⟨hns187_2, hms187_2⟩ := Zo NB284_275
  have hs188 : w186.cell? ⟨gb275, 1, none⟩ = some (.string (⟨#[]⟩ : ByteArray)) := (Zc BK275.out 1).trans rfl
  have hfs188 := Zf BK275.out 1
  obtain ⟨hns188_0, hms188_0⟩ := Zo NB274_275
  obtain ⟨hns188_2, hms188_2⟩ := Zo NB284_275
  have hs189 : w186.cell? ⟨gb275, 2, none⟩ = some (.int .i64 0) := (Zc BK275.out 2).trans rfl
  have hfs189 := Zf BK275.out 2
  obtain ⟨hns189_0, hms189_0⟩ := Zo NB274_275
  obtain ⟨hns189_2, hms189_2⟩ := Zo NB284_275
  have hs190 : w186.cell? ⟨gb275, 3, none⟩ = some (.int .i64 0) := (Zc BK275.out 3).trans rfl
  have hfs190 := Zf BK275.out 3
  obtain ⟨hns190_0, hms190_0⟩ := Zo NB274_275
  obtain ⟨hns190_2, hms190_2⟩ := Zo NB284_275
  have hs191 : w186.cell? ⟨gb275, 4, none⟩ = some (.int .i64 0) := (Zc BK275.out 4).trans rfl
  have hfs191 := Zf BK275.out 4
  obtain ⟨hns191_0, hms191_0⟩ := Zo NB274_275
  obtain ⟨hns191_2, hms191_2⟩ := Zo NB284_275
  have hs192 : w186.cell? ⟨gb275, 5, none⟩ = some (.int .i64 0) := (Zc BK275.out 5).trans rfl
  have hfs192 := Zf BK275.out 5
  obtain ⟨hns192_0, hms192_0⟩ := Zo NB274_275
  obtain ⟨hns192_2, hms192_2⟩ := Zo NB284_275
  have hs193 : w186.cell? ⟨gb275, 6, none⟩ = some (.bool false) := (Zc BK275.out 6).trans rfl
  have hfs193 := Zf BK275.out 6
  obtain ⟨hns193_0, hms193_0⟩ := Zo NB274_275
  obtain ⟨hns193_2, hms193_2⟩ := Zo NB284_275
  refine skip_ (w1 := ?_) (by rfl) rfl ?_ ?_
  rotate_left
  ·
   go_simp
   rfl
  refine hK.out _ _ ⟨((Zh NB284_275).trans (((Zh NB284_275).trans (((Zh NB284_275).trans (((Zh NB284_275).trans (((Zh NB284_275).trans (((Zh NB284_275).trans (((Zh NB284_275).trans (hHeld.1)))))))))))))), ((Zh NB284_275).trans (((Zh NB284_275).trans (((Zh NB284_275).trans (((Zh NB284_275).trans (((Zh NB284_275).trans (((Zh NB284_275).trans (((Zh NB284_275).trans (hHeld.2.1)))))))))))))), ((Zh NB284_275).trans (((Zh NB284_275).trans (((Zh NB284_275).trans (((Zh NB284_275).trans (((Zh NB284_275).trans (((Zh NB284_275).trans (((Zh NB284_275).trans (hHeld.2.2.1)))))))))))))), ((Zh NB284_275).trans (((Zh NB284_275).trans (((Zh NB284_275).trans (((Zh NB284_275).trans (((Zh NB284_275).trans (((Zh NB284_275).trans (((Zh NB284_275).trans (hHeld.2.2.2.1)))))))))))))), ((Zh NB284_275).trans (((Zh NB284_275).trans (((Zh NB284_275).trans (((Zh NB284_275).trans (((Zh NB284_275).trans (((Zh NB284_275).trans (((Zh NB284_275).trans (hHeld.2.2.2.2.1)))))))))))))), ((Zh NB284_275).trans (((Zh NB284_275).trans (((Zh NB284_275).trans (((Zh NB284_275).trans (((Zh NB284_275).trans (((Zh NB284_275).trans (((Zh NB284_275).trans (hHeld.2.2.2.2.2.1)))))))))))))), ((Zh NB284_275).trans (((Zh NB284_275).trans (((Zh NB284_275).trans (((Zh NB284_275).trans (((Zh NB284_275).trans (((Zh NB284_275).trans (((Zh NB284_275).trans (hHeld.2.2.2.2.2.2))))))))))))))⟩ (fun hHeld => ?_)
  clear hK K
  refine pure_ (i := 3) (N := some 8) (v := ?_) (a' := ?_) #[true, true, true, true] rfl rfl (by kernel_rfl) (fun _ _ _ h => h) (Or.inl ⟨by rfl, ?_⟩) ?_ ?_
  rotate_left
  ·
   intro w'
   go_simp
   with_reducible rfl
  rotate_left
  ·
   simp only [Act.put, List.setIfInBounds_toArray, List.set_cons_zero, List.set_cons_succ, i64_w, i32_w]
   rfl
  refine done_ (by kernel_rfl) ?_
  try go_wp2
  refine bodyPost_ret (results_list (rs := [.tmp 6, .cell 7 26, .tmp 8]) rfl (by simp) (.tmp (.cell gb275 26 #[.string t276, .string t277, .int .i64 t278, .int .i64 t279, .int .i64 t280, .int .i64 t281, .bool t282] (0, 0) _ rfl (by (with_reducible repeat first | apply Zn | apply Zd | apply Za); refine Zp (cs := #[.string t276, .string t277, .int .i64 t278, .int .i64 t279, .int .i64 t280, .int .i64 t281, .bool false]) ?_ 6 _ rfl; (with_reducible repeat first | apply Zn | apply Zd | apply Za); refine Zp (cs := #[.string t276, .string t277, .int .i64 t278, .int .i64 t279, .int .i64 t280, .int .i64 0, .bool false]) ?_ 5 _ rfl; (with_reducible repeat first | apply Zn | apply Zd | apply Za); refine Zp (cs := #[.string t276, .string t277, .int .i64 t278, .int .i64 t279, .int .i64 0, .int .i64 0, .bool false]) ?_ 4 _ rfl; (with_reducible repeat first | apply Zn | apply Zd | apply Za); refine Zp (cs := #[.string t276, .string t277, .int .i64 t278, .int .i64 0, .int .i64 0, .int .i64 0, .bool false]) ?_ 3 _ rfl; (with_reducible repeat first | apply Zn | apply Zd | apply Za); refine Zp (cs := #[.string t276, .string t277, .int .i64 0, .int .i64 0, .int .i64 0, .int .i64 0, .bool false]) ?_ 2 _ rfl; (with_reducible repeat first | apply Zn | apply Zd | apply Za); refine Zp (cs := #[.string t276, .string (⟨#[]⟩ : ByteArray), .int .i64 0, .int .i64 0, .int .i64 0, .int .i64 0, .bool false]) ?_ 1 _ rfl; (with_reducible repeat first | apply Zn | apply Zd | apply Za); refine Zp (cs := #[.string (⟨#[]⟩ : ByteArray), .string (⟨#[]⟩ : ByteArray), .int .i64 0, .int .i64 0, .int .i64 0, .int .i64 0, .bool false]) ?_ 0 _ rfl; (with_reducible repeat first | apply Zn | apply Zd | apply Za); exact BK275.out) Try.underlying26 rfl (by kernel_rfl) (.tmp .nil)))) rfl ?_
  exact ⟨_, by first | rfl | (simp [errW_none, errW_some] <;> rfl) | (simp [*, errW_none, errW_some] <;> rfl), by first | exact Kd.R_nil _ _ _ _ _ | exact Kd.N_nil _ _ _ _ _ | exact Kd.V_nil _ _ _ _ _ | exact Kd.Q_nil _ _ _ _ _ | exact Kd.S_nil _ _ _ _ _, Yr HB⟩

end Go.Proofs.Ytfhlpkcapohnoaa.Print
