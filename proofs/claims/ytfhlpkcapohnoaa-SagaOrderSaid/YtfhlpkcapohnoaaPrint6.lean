-- Printed out of the translation by a program of this session's own. Not trusted: Lean checks it.
import Derived.Test.YtfhlpkcapohnoaaPrint0
import Derived.Test.YtfhlpkcapohnoaaPrint2
import Derived.Test.YtfhlpkcapohnoaaPrint3
import Derived.Test.YtfhlpkcapohnoaaPrint5
namespace Go.Proofs.Ytfhlpkcapohnoaa.Print
open Go.RowKit Go.Proofs.YtfhlpkcapohnoaaW.PrintWords Go.Proofs.YtfhlpkcapohnoaaW.PrintLast Go.Proofs.YtfhlpkcapohnoaaX
set_option linter.unusedVariables false
set_option linter.unusedSimpArgs false

/-! ### palinodelaw19_two: function 33 -/
def palinodelaw19_two.f  : Option (ByteArray × (List (S53))) := some ((⟨#[112]⟩ : ByteArray), (([(⟨1, 10⟩ : S53), (⟨0, 20⟩ : S53)] : List (S53))))
set_option maxHeartbeats 8000000 in
set_option maxRecDepth 100000 in
theorem palinodelaw19_two.calls  (r1 : ByteArray) (r2 : List (S53)) (w : World) (h : palinodelaw19_two.f  = some (r1, r2)) :
  Calls Try.prog 33 #[] w fun e w' => ∃ v1_ : Value, e = .returned (.agg #[.string r1, v1_]) ∧ Kd.R k53 53 w' w.heap.size (fun _ => True) v1_ r2 ∧ Below w.heap.size w w' := by
 have hu24 := Try.underlying24
 have hu53 := Try.underlying53
 have HB := Aside0.mk (Below.refl w.heap.size w)
 have H : (some ((⟨#[112]⟩ : ByteArray), (([(⟨1, 10⟩ : S53), (⟨0, 20⟩ : S53)] : List (S53))))) = some (r1, r2) := h
 clear h
 obtain ⟨y222, hy222⟩ : ∃ y_ : List (S53), y_ = (([(⟨1, 10⟩ : S53), (⟨0, 20⟩ : S53)] : List (S53))) := ⟨_, rfl⟩
 replace H : (some ((⟨#[112]⟩ : ByteArray), y222)) = some (r1, r2) := by first | (rw [hy222]; with_reducible exact H) | (have H2_ := (Option.bind_some _ _).symm.trans H; rw [hy222]; with_reducible exact H2_) | (have H2_ := (Option.bind_some _ _).symm.trans H; with_reducible exact H2_) | with_reducible exact H | (rw [hy222]; exact H) | exact H
 have Ny222 := Aside0.mk hy222
 clear hy222
 simp only [Option.some.injEq, Prod.mk.injEq] at H
 obtain ⟨rfl, rfl⟩ := H
 go_enter Try.func33, Try.ntmps33
 go_wp2_with (first | ((with_reducible refine gate_dst (N := 0) rfl ?_); refine box_event ?hg (N := 0) ?hd (cs := #[.string (⟨#[]⟩ : ByteArray), .slice none 0 0]) (t := 24) ?hr ?_; (case hd => rfl); (case hg => rfl); (case hr => first | (go_simp; done) | (go_simp; rfl)); intro gb221 hg w1 hbox hb; have n0_ := Aside0.mk (Yv HB hb); have n1_ := Aside0.mk (hbox); have n2_ := Aside0.mk (Yg HB hg); have n3_ := Aside0.mk (Yg HB hg); clear HB; have HB := n0_; have BK221 := n1_; have GW221 := n2_; have GE221 := n3_; clear n0_ n1_ n2_ n3_; clear hb hbox hg) | ((with_reducible refine gate_dst (N := 3) rfl ?_); refine Kd.R_lit k53 _ 53 ?hg (N := 3) ?hd (xs := ([(⟨1, 10⟩ : S53), (⟨0, 20⟩ : S53)] : List (S53))) (inner := [.int .i64 1, .int .i64 10, .int .i64 0, .int .i64 20]) (ok := fun _ => True) (okp := fun _ => True) ?hr ?hp (fun _ hk => hk) trivial (Below.refl _ _) (Nat.le_refl _) (by simp) ?_; (case hd => rfl); (case hg => rfl); (case hr => first | (go_simp; done) | (go_simp; rfl)); (case hp => exact (Reps.c2 (show Kd.M k53 _ _ _ (⟨1, 10⟩ : S53) [.int .i64 1, .int .i64 10] from (k53_mkM _ _ _ (⟨1, 10⟩ : S53) )) (Reps.c2 (show Kd.M k53 _ _ _ (⟨0, 20⟩ : S53) [.int .i64 0, .int .i64 20] from (k53_mkM _ _ _ (⟨0, 20⟩ : S53) )) (Reps.none _ _)))); intro v223 w2 ho3 hb hg_ hnew_; clear hg_ hnew_; (first | rw [← Ny222.out] at ho3 | (simp only [Int.reduceToNat] at ho3; rw [← Ny222.out] at ho3)); have n0_ := Aside0.mk (Kd.R_lower ho3 (below_size (Yr HB))); have n1_ := Aside0.mk (Zv BK221 hb); have n2_ := Aside0.mk (Yv HB hb); clear BK221; clear HB; have HO224 := n0_; have BK221 := n1_; have HB := n2_; clear n0_ n1_ n2_; clear hb ho3; obtain ⟨Ao4, co4, eo4⟩ := Kd.R_slice HO224.out; subst eo4; obtain ⟨⟨hcz5_0, hcz5_1⟩, hfz5_0, hfz5_1⟩ := Zk2 BK221))
 refine bodyPost_ret (results_cell_row rfl _ _ gb221 24 #[.string (⟨#[112]⟩ : ByteArray), .slice Ao4 y222.length co4] (0, 0) _ rfl (by (with_reducible repeat first | apply Zn | apply Zd | apply Za); refine Zp (cs := #[.string (⟨#[112]⟩ : ByteArray), .slice none 0 0]) ?_ 1 _ rfl; (with_reducible repeat first | apply Zn | apply Zd | apply Za); refine Zp (cs := #[.string (⟨#[]⟩ : ByteArray), .slice none 0 0]) ?_ 0 _ rfl; (with_reducible repeat first | apply Zn | apply Zd | apply Za); exact BK221.out) Try.underlying24 rfl (by kernel_rfl)) rfl ?_
 exact ⟨_, by first | rfl | (simp [errW_none, errW_some] <;> rfl) | (simp [*, errW_none, errW_some] <;> rfl), by (with_reducible repeat (first | apply Kd.R_alloc | apply Kd.R_drewN | apply Kd.R_drew)); exact Kd.R_mono (Kd.R_far (p := ⟨gb221, 1, none⟩) (Kd.R_far (p := ⟨gb221, 0, none⟩) (Kd.R_types HO224.out BK221.out (by decide)) (fun _ hk => hk.2) (.string (⟨#[112]⟩ : ByteArray))) (fun _ hk => hk.2) (.slice Ao4 y222.length co4)) (fun _ hk => trivial), Yr HB⟩

/-! ### palinodelaw19_examples: function 13 -/
def palinodelaw19_examples.f (k : Nat)  : Option (Bool) := (palinodelaw19_two.f).bind fun bt225 => ((saga_Begin.f k bt225.1 bt225.2 (⟨#[97]⟩ : ByteArray) 5).bind fun bt230 => ((saga_Reply.f k bt225.1 bt225.2 bt230.1 bt230.2.1 bt230.2.2.1 bt230.2.2.2.1 bt230.2.2.2.2.1 bt230.2.2.2.2.2.1 bt230.2.2.2.2.2.2.1 0 1 1 7).bind fun bt239 => ((saga_Reply.f k bt225.1 bt225.2 bt239.1 bt239.2.1 bt239.2.2.1 bt239.2.2.2.1 bt239.2.2.2.2.1 bt239.2.2.2.2.2.1 bt239.2.2.2.2.2.2.1 1 1 3 8).bind fun bt248 => ((saga_Reply.f k bt225.1 bt225.2 bt230.1 bt230.2.1 bt230.2.2.1 bt230.2.2.2.1 bt230.2.2.2.2.1 bt230.2.2.2.2.2.1 bt230.2.2.2.2.2.2.1 0 1 2 6).bind fun bt257 => ((saga_Command.f bt248.1 bt248.2.1 bt248.2.2.1 bt248.2.2.2.1 bt248.2.2.2.2.1 bt248.2.2.2.2.2.1 bt248.2.2.2.2.2.2.1).bind fun bt266 => (if bt230.2.2.2.2.2.2.2.isNone = true then (if bt230.2.2.2.2.2.1 = 15 then (if bt239.2.2.2.2.2.2.2 = true then (if bt239.2.2.2.1 = 1 then (if bt239.2.2.2.2.2.1 = 27 then (if bt248.2.2.2.2.2.2.2 = true then (if bt248.2.2.1 = 2 then (if bt248.2.2.2.1 = 1 then (if bt248.2.2.2.2.2.1 = 28 then (if bt257.2.2.2.2.2.2.2 = true then (if bt257.2.2.1 = 4 then (if bt266.2.2.1 = 2 then (if bt266.2.2.2.2 = true then ((saga_Right.f k bt225.1 bt225.2 bt248.1 bt248.2.1 bt248.2.2.1 bt248.2.2.2.1 bt248.2.2.2.2.1 bt248.2.2.2.2.2.1 bt248.2.2.2.2.2.2.1).bind fun t273 => (some t273)) else (some false)) else (some false)) else (some false)) else (some false)) else (some false)) else (some false)) else (some false)) else (some false)) else (some false)) else (some false)) else (some false)) else (some false)) else (some false)))))))
theorem palinodelaw19_examples.mono : ∀ k, LeO (palinodelaw19_examples.f k ) (palinodelaw19_examples.f (k + 1) ) := by
 intro  k
 unfold palinodelaw19_examples.f
 repeat' first
   | (with_reducible exact saga_Begin.mono _ _ _ _ _)
   | (with_reducible exact saga_Reply.mono _ _ _ _ _ _ _ _ _ _ _ _ _ _)
   | (with_reducible exact saga_Right.mono _ _ _ _ _ _ _ _ _ _)
   | (with_reducible exact LeO.refl _)
   | (with_reducible exact LeO.none _)
   | (with_reducible refine LeO.ite ?_ ?_)
   | (with_reducible refine LeO.bind ?_ (fun _ => ?_))
   | exact saga_Begin.mono _ _ _ _ _
   | exact saga_Reply.mono _ _ _ _ _ _ _ _ _ _ _ _ _ _
   | exact saga_Right.mono _ _ _ _ _ _ _ _ _ _
   | exact LeO.none _
   | refine LeO.ite ?_ ?_
   | refine LeO.bind ?_ (fun _ => ?_)
set_option maxHeartbeats 8000000 in
set_option maxRecDepth 100000 in
theorem palinodelaw19_examples.calls (k : Nat)  (r : Bool) (w : World) (h : palinodelaw19_examples.f k  = some r) (HRT_ : Aside0 (r = true) := by first | exact ⟨rfl⟩ | assumption) :
  Calls Try.prog 13 #[] w fun e w' => e = .returned (.bool r) ∧ Below w.heap.size w w' := by
 have hu24 := Try.underlying24
 have hu26 := Try.underlying26
 have hu35 := Try.underlying35
 have hu29 := Try.underlying29
 have hu62 := Try.underlying62
 have HB := Aside0.mk (Below.refl w.heap.size w)
 have H : ((palinodelaw19_two.f).bind fun bt225 => ((saga_Begin.f k bt225.1 bt225.2 (⟨#[97]⟩ : ByteArray) 5).bind fun bt230 => ((saga_Reply.f k bt225.1 bt225.2 bt230.1 bt230.2.1 bt230.2.2.1 bt230.2.2.2.1 bt230.2.2.2.2.1 bt230.2.2.2.2.2.1 bt230.2.2.2.2.2.2.1 0 1 1 7).bind fun bt239 => ((saga_Reply.f k bt225.1 bt225.2 bt239.1 bt239.2.1 bt239.2.2.1 bt239.2.2.2.1 bt239.2.2.2.2.1 bt239.2.2.2.2.2.1 bt239.2.2.2.2.2.2.1 1 1 3 8).bind fun bt248 => ((saga_Reply.f k bt225.1 bt225.2 bt230.1 bt230.2.1 bt230.2.2.1 bt230.2.2.2.1 bt230.2.2.2.2.1 bt230.2.2.2.2.2.1 bt230.2.2.2.2.2.2.1 0 1 2 6).bind fun bt257 => ((saga_Command.f bt248.1 bt248.2.1 bt248.2.2.1 bt248.2.2.2.1 bt248.2.2.2.2.1 bt248.2.2.2.2.2.1 bt248.2.2.2.2.2.2.1).bind fun bt266 => (if bt230.2.2.2.2.2.2.2.isNone = true then (if bt230.2.2.2.2.2.1 = 15 then (if bt239.2.2.2.2.2.2.2 = true then (if bt239.2.2.2.1 = 1 then (if bt239.2.2.2.2.2.1 = 27 then (if bt248.2.2.2.2.2.2.2 = true then (if bt248.2.2.1 = 2 then (if bt248.2.2.2.1 = 1 then (if bt248.2.2.2.2.2.1 = 28 then (if bt257.2.2.2.2.2.2.2 = true then (if bt257.2.2.1 = 4 then (if bt266.2.2.1 = 2 then (if bt266.2.2.2.2 = true then ((saga_Right.f k bt225.1 bt225.2 bt248.1 bt248.2.1 bt248.2.2.1 bt248.2.2.2.1 bt248.2.2.2.2.1 bt248.2.2.2.2.2.1 bt248.2.2.2.2.2.2.1).bind fun t273 => (some t273)) else (some false)) else (some false)) else (some false)) else (some false)) else (some false)) else (some false)) else (some false)) else (some false)) else (some false)) else (some false)) else (some false)) else (some false)) else (some false)))))))) = some r := h
 clear h
 replace H := Option.bind_eq_some_iff.mp H
 obtain ⟨⟨t225, t226⟩, A10, H⟩ := H
 replace H : ((saga_Begin.f k t225 t226 (⟨#[97]⟩ : ByteArray) 5).bind fun bt230 => ((saga_Reply.f k t225 t226 bt230.1 bt230.2.1 bt230.2.2.1 bt230.2.2.2.1 bt230.2.2.2.2.1 bt230.2.2.2.2.2.1 bt230.2.2.2.2.2.2.1 0 1 1 7).bind fun bt239 => ((saga_Reply.f k t225 t226 bt239.1 bt239.2.1 bt239.2.2.1 bt239.2.2.2.1 bt239.2.2.2.2.1 bt239.2.2.2.2.2.1 bt239.2.2.2.2.2.2.1 1 1 3 8).bind fun bt248 => ((saga_Reply.f k t225 t226 bt230.1 bt230.2.1 bt230.2.2.1 bt230.2.2.2.1 bt230.2.2.2.2.1 bt230.2.2.2.2.2.1 bt230.2.2.2.2.2.2.1 0 1 2 6).bind fun bt257 => ((saga_Command.f bt248.1 bt248.2.1 bt248.2.2.1 bt248.2.2.2.1 bt248.2.2.2.2.1 bt248.2.2.2.2.2.1 bt248.2.2.2.2.2.2.1).bind fun bt266 => (if bt230.2.2.2.2.2.2.2.isNone = true then (if bt230.2.2.2.2.2.1 = 15 then (if bt239.2.2.2.2.2.2.2 = true then (if bt239.2.2.2.1 = 1 then (if bt239.2.2.2.2.2.1 = 27 then (if bt248.2.2.2.2.2.2.2 = true then (if bt248.2.2.1 = 2 then (if bt248.2.2.2.1 = 1 then (if bt248.2.2.2.2.2.1 = 28 then (if bt257.2.2.2.2.2.2.2 = true then (if bt257.2.2.1 = 4 then (if bt266.2.2.1 = 2 then (if bt266.2.2.2.2 = true then ((saga_Right.f k t225 t226 bt248.1 bt248.2.1 bt248.2.2.1 bt248.2.2.2.1 bt248.2.2.2.2.1 bt248.2.2.2.2.2.1 bt248.2.2.2.2.2.2.1).bind fun t273 => (some t273)) else (some false)) else (some false)) else (some false)) else (some false)) else (some false)) else (some false)) else (some false)) else (some false)) else (some false)) else (some false)) else (some false)) else (some false)) else (some false))))))) = some r := H
 have A1 := Aside0.mk A10
 clear A10
 replace H := Option.bind_eq_some_iff.mp H
 obtain ⟨⟨t230, t231, t232, t233, t234, t235, t236, t237⟩, A20, H⟩ := H
 replace H : ((saga_Reply.f k t225 t226 t230 t231 t232 t233 t234 t235 t236 0 1 1 7).bind fun bt239 => ((saga_Reply.f k t225 t226 bt239.1 bt239.2.1 bt239.2.2.1 bt239.2.2.2.1 bt239.2.2.2.2.1 bt239.2.2.2.2.2.1 bt239.2.2.2.2.2.2.1 1 1 3 8).bind fun bt248 => ((saga_Reply.f k t225 t226 t230 t231 t232 t233 t234 t235 t236 0 1 2 6).bind fun bt257 => ((saga_Command.f bt248.1 bt248.2.1 bt248.2.2.1 bt248.2.2.2.1 bt248.2.2.2.2.1 bt248.2.2.2.2.2.1 bt248.2.2.2.2.2.2.1).bind fun bt266 => (if t237.isNone = true then (if t235 = 15 then (if bt239.2.2.2.2.2.2.2 = true then (if bt239.2.2.2.1 = 1 then (if bt239.2.2.2.2.2.1 = 27 then (if bt248.2.2.2.2.2.2.2 = true then (if bt248.2.2.1 = 2 then (if bt248.2.2.2.1 = 1 then (if bt248.2.2.2.2.2.1 = 28 then (if bt257.2.2.2.2.2.2.2 = true then (if bt257.2.2.1 = 4 then (if bt266.2.2.1 = 2 then (if bt266.2.2.2.2 = true then ((saga_Right.f k t225 t226 bt248.1 bt248.2.1 bt248.2.2.1 bt248.2.2.2.1 bt248.2.2.2.2.1 bt248.2.2.2.2.2.1 bt248.2.2.2.2.2.2.1).bind fun t273 => (some t273)) else (some false)) else (some false)) else (some false)) else (some false)) else (some false)) else (some false)) else (some false)) else (some false)) else (some false)) else (some false)) else (some false)) else (some false)) else (some false)))))) = some r := H
 have A2 := Aside0.mk A20
 clear A20
 replace H := Option.bind_eq_some_iff.mp H
 obtain ⟨⟨t239, t240, t241, t242, t243, t244, t245, t246⟩, A30, H⟩ := H
 replace H : ((saga_Reply.f k t225 t226 t239 t240 t241 t242 t243 t244 t245 1 1 3 8).bind fun bt248 => ((saga_Reply.f k t225 t226 t230 t231 t232 t233 t234 t235 t236 0 1 2 6).bind fun bt257 => ((saga_Command.f bt248.1 bt248.2.1 bt248.2.2.1 bt248.2.2.2.1 bt248.2.2.2.2.1 bt248.2.2.2.2.2.1 bt248.2.2.2.2.2.2.1).bind fun bt266 => (if t237.isNone = true then (if t235 = 15 then (if t246 = true then (if t242 = 1 then (if t244 = 27 then (if bt248.2.2.2.2.2.2.2 = true then (if bt248.2.2.1 = 2 then (if bt248.2.2.2.1 = 1 then (if bt248.2.2.2.2.2.1 = 28 then (if bt257.2.2.2.2.2.2.2 = true then (if bt257.2.2.1 = 4 then (if bt266.2.2.1 = 2 then (if bt266.2.2.2.2 = true then ((saga_Right.f k t225 t226 bt248.1 bt248.2.1 bt248.2.2.1 bt248.2.2.2.1 bt248.2.2.2.2.1 bt248.2.2.2.2.2.1 bt248.2.2.2.2.2.2.1).bind fun t273 => (some t273)) else (some false)) else (some false)) else (some false)) else (some false)) else (some false)) else (some false)) else (some false)) else (some false)) else (some false)) else (some false)) else (some false)) else (some false)) else (some false))))) = some r := H
 have A3 := Aside0.mk A30
 clear A30
 replace H := Option.bind_eq_some_iff.mp H
 obtain ⟨⟨t248, t249, t250, t251, t252, t253, t254, t255⟩, A40, H⟩ := H
 replace H : ((saga_Reply.f k t225 t226 t230 t231 t232 t233 t234 t235 t236 0 1 2 6).bind fun bt257 => ((saga_Command.f t248 t249 t250 t251 t252 t253 t254).bind fun bt266 => (if t237.isNone = true then (if t235 = 15 then (if t246 = true then (if t242 = 1 then (if t244 = 27 then (if t255 = true then (if t250 = 2 then (if t251 = 1 then (if t253 = 28 then (if bt257.2.2.2.2.2.2.2 = true then (if bt257.2.2.1 = 4 then (if bt266.2.2.1 = 2 then (if bt266.2.2.2.2 = true then ((saga_Right.f k t225 t226 t248 t249 t250 t251 t252 t253 t254).bind fun t273 => (some t273)) else (some false)) else (some false)) else (some false)) else (some false)) else (some false)) else (some false)) else (some false)) else (some false)) else (some false)) else (some false)) else (some false)) else (some false)) else (some false)))) = some r := H
 have A4 := Aside0.mk A40
 clear A40
 replace H := Option.bind_eq_some_iff.mp H
 obtain ⟨⟨t257, t258, t259, t260, t261, t262, t263, t264⟩, A50, H⟩ := H
 replace H : ((saga_Command.f t248 t249 t250 t251 t252 t253 t254).bind fun bt266 => (if t237.isNone = true then (if t235 = 15 then (if t246 = true then (if t242 = 1 then (if t244 = 27 then (if t255 = true then (if t250 = 2 then (if t251 = 1 then (if t253 = 28 then (if t264 = true then (if t259 = 4 then (if bt266.2.2.1 = 2 then (if bt266.2.2.2.2 = true then ((saga_Right.f k t225 t226 t248 t249 t250 t251 t252 t253 t254).bind fun t273 => (some t273)) else (some false)) else (some false)) else (some false)) else (some false)) else (some false)) else (some false)) else (some false)) else (some false)) else (some false)) else (some false)) else (some false)) else (some false)) else (some false))) = some r := H
 have A5 := Aside0.mk A50
 clear A50
 replace H := Option.bind_eq_some_iff.mp H
 obtain ⟨⟨t266, t267, t268, t269, t270⟩, A60, H⟩ := H
 replace H : (if t237.isNone = true then (if t235 = 15 then (if t246 = true then (if t242 = 1 then (if t244 = 27 then (if t255 = true then (if t250 = 2 then (if t251 = 1 then (if t253 = 28 then (if t264 = true then (if t259 = 4 then (if t268 = 2 then (if t270 = true then ((saga_Right.f k t225 t226 t248 t249 t250 t251 t252 t253 t254).bind fun t273 => (some t273)) else (some false)) else (some false)) else (some false)) else (some false)) else (some false)) else (some false)) else (some false)) else (some false)) else (some false)) else (some false)) else (some false)) else (some false)) else (some false)) = some r := H
 have A6 := Aside0.mk A60
 clear A60
 rcases t237 with _ | q272
 ·
  have H1 : (if t235 = 15 then (if t246 = true then (if t242 = 1 then (if t244 = 27 then (if t255 = true then (if t250 = 2 then (if t251 = 1 then (if t253 = 28 then (if t264 = true then (if t259 = 4 then (if t268 = 2 then (if t270 = true then ((saga_Right.f k t225 t226 t248 t249 t250 t251 t252 t253 t254).bind fun t273 => (some t273)) else (some false)) else (some false)) else (some false)) else (some false)) else (some false)) else (some false)) else (some false)) else (some false)) else (some false)) else (some false)) else (some false)) else (some false)) = some r := by rw [if_pos (show (none : Option Int).isNone = true by rfl)] at H; exact H
  clear H
  have H := H1
  clear H1
  try simp only [errW_none, errW_some]
  by_cases c7 : t235 = 15
  ·
   rw [if_pos c7] at H
   have c7b0 : (t235 == 15) = true := beq_iff_eq.mpr c7
   have c7b1 : (t235 != 15) = false := bne_eq_false_iff_eq.mpr c7
   clear c7
   by_cases c8 : t246 = true
   ·
    subst c8
    have H1 : (if t242 = 1 then (if t244 = 27 then (if t255 = true then (if t250 = 2 then (if t251 = 1 then (if t253 = 28 then (if t264 = true then (if t259 = 4 then (if t268 = 2 then (if t270 = true then ((saga_Right.f k t225 t226 t248 t249 t250 t251 t252 t253 t254).bind fun t273 => (some t273)) else (some false)) else (some false)) else (some false)) else (some false)) else (some false)) else (some false)) else (some false)) else (some false)) else (some false)) else (some false)) = some r := by rw [if_pos rfl] at H; exact H
    clear H
    have H := H1
    clear H1
    by_cases c9 : t242 = 1
    ·
     rw [if_pos c9] at H
     have c9b0 : (t242 == 1) = true := beq_iff_eq.mpr c9
     have c9b1 : (t242 != 1) = false := bne_eq_false_iff_eq.mpr c9
     clear c9
     by_cases c10 : t244 = 27
     ·
      rw [if_pos c10] at H
      have c10b0 : (t244 == 27) = true := beq_iff_eq.mpr c10
      have c10b1 : (t244 != 27) = false := bne_eq_false_iff_eq.mpr c10
      clear c10
      by_cases c11 : t255 = true
      ·
       subst c11
       have H1 : (if t250 = 2 then (if t251 = 1 then (if t253 = 28 then (if t264 = true then (if t259 = 4 then (if t268 = 2 then (if t270 = true then ((saga_Right.f k t225 t226 t248 t249 t250 t251 t252 t253 t254).bind fun t273 => (some t273)) else (some false)) else (some false)) else (some false)) else (some false)) else (some false)) else (some false)) else (some false)) = some r := by rw [if_pos rfl] at H; exact H
       clear H
       have H := H1
       clear H1
       by_cases c12 : t250 = 2
       ·
        rw [if_pos c12] at H
        have c12b0 : (t250 == 2) = true := beq_iff_eq.mpr c12
        have c12b1 : (t250 != 2) = false := bne_eq_false_iff_eq.mpr c12
        clear c12
        by_cases c13 : t251 = 1
        ·
         rw [if_pos c13] at H
         have c13b0 : (t251 == 1) = true := beq_iff_eq.mpr c13
         have c13b1 : (t251 != 1) = false := bne_eq_false_iff_eq.mpr c13
         clear c13
         by_cases c14 : t253 = 28
         ·
          rw [if_pos c14] at H
          have c14b0 : (t253 == 28) = true := beq_iff_eq.mpr c14
          have c14b1 : (t253 != 28) = false := bne_eq_false_iff_eq.mpr c14
          clear c14
          by_cases c15 : t264 = true
          ·
           subst c15
           have H1 : (if t259 = 4 then (if t268 = 2 then (if t270 = true then ((saga_Right.f k t225 t226 t248 t249 t250 t251 t252 t253 t254).bind fun t273 => (some t273)) else (some false)) else (some false)) else (some false)) = some r := by rw [if_pos rfl] at H; exact H
           clear H
           have H := H1
           clear H1
           by_cases c16 : t259 = 4
           ·
            rw [if_pos c16] at H
            have c16b0 : (t259 == 4) = true := beq_iff_eq.mpr c16
            have c16b1 : (t259 != 4) = false := bne_eq_false_iff_eq.mpr c16
            clear c16
            by_cases c17 : t268 = 2
            ·
             rw [if_pos c17] at H
             have c17b0 : (t268 == 2) = true := beq_iff_eq.mpr c17
             have c17b1 : (t268 != 2) = false := bne_eq_false_iff_eq.mpr c17
             clear c17
             by_cases c18 : t270 = true
             ·
              subst c18
              have H1 : ((saga_Right.f k t225 t226 t248 t249 t250 t251 t252 t253 t254).bind fun t273 => (some t273)) = some r := by rw [if_pos rfl] at H; exact H
              clear H
              have H := H1
              clear H1
              replace H := Option.bind_eq_some_iff.mp H
              obtain ⟨t273, A190, H⟩ := H
              replace H : (some t273) = some r := H
              have A19 := Aside0.mk A190
              clear A190
              obtain rfl := Option.some.inj H
              go_enter Try.func13, Try.ntmps13
              go_wp2_with (first | ((with_reducible refine gate_callee (f := 33) rfl ?_); refine goesL_ (some 12) rfl rfl Try.func33 (by kernel_rfl) rfl #[] rfl (by (try simp only [List.map_toArray, List.map_cons, List.map_nil]); first | done | rfl | (simp only [List.length_drop, List.length_take]; rfl)) ?_; (with_reducible refine (palinodelaw19_two.calls  t225 t226 _ A1.out).mono ?_); rintro e w20 ⟨v227, rfl, ho0, hb⟩; refine ⟨_, rfl, ?_⟩; have n0_ := Aside0.mk (Kd.R_lower ho0 (below_size (Yr HB))); have n1_ := Aside0.mk (Yv HB hb); clear HB; have HO228 := n0_; have HB := n1_; clear n0_ n1_; (try clear hb); (try clear hb2); (try clear hk); (try clear hi); (try clear ho0)) | ((with_reducible refine gate_dst (N := 1) rfl ?_); refine box_event ?hg (N := 1) ?hd (cs := #[.string (⟨#[]⟩ : ByteArray), .slice none 0 0]) (t := 24) ?hr ?_; (case hd => rfl); (case hg => rfl); (case hr => first | (go_simp; done) | (go_simp; rfl)); intro gb229 hg w21 hbox hb; have n0_ := Aside0.mk (Kd.R_below (by (with_reducible repeat (first | apply Kd.R_alloc | apply Kd.R_drewN | apply Kd.R_drew)); exact HO228.out) hb); have n1_ := Aside0.mk (Yv HB hb); have n2_ := Aside0.mk (hbox); have n3_ := Aside0.mk (Yg HB hg); have n4_ := Aside0.mk (Yg HB hg); clear HO228; clear HB; have HO228 := n0_; have HB := n1_; have BK229 := n2_; have GW229 := n3_; have GE229 := n4_; clear n0_ n1_ n2_ n3_ n4_; clear hb hbox hg; obtain ⟨⟨hcz22_0, hcz22_1⟩, hfz22_0, hfz22_1⟩ := Zk2 BK229; obtain ⟨Ao23, co23, eo23⟩ := Kd.R_slice HO228.out; subst eo23) | ((with_reducible refine gate_callee (f := 14) rfl ?_); refine goesL_ (some 15) rfl rfl Try.func14 (by kernel_rfl) rfl #[.agg #[.string t225, .slice Ao23 t226.length co23], .string (⟨#[97]⟩ : ByteArray), .int .i64 5] rfl (by (try simp only [List.map_toArray, List.map_cons, List.map_nil]); first | done | rfl | (simp only [List.length_drop, List.length_take]; rfl)) ?_; (with_reducible refine (saga_Begin.calls k t225 _ _ t226 (⟨#[97]⟩ : ByteArray) 5 t230 t231 t232 t233 t234 t235 t236 none _ ?side1 ?side2 A2.out).mono ?_); (case side1 => refine (Kd.R_reads' (e := 53) (base := w.heap.size) (ok := fun k_ => True) (n := t226.length) (c := co23) ?_).2.2; exact (by (with_reducible repeat (first | apply Kd.R_alloc | apply Kd.R_drewN | apply Kd.R_drew)); exact (Kd.R_mono (Kd.R_far (p := ⟨gb229, 1, none⟩) (Kd.R_far (p := ⟨gb229, 0, none⟩) (Kd.R_types HO228.out BK229.out (by decide)) (fun _ hk => hk.2) (.string t225)) (fun _ hk => hk.2) (.slice Ao23 t226.length co23)) (fun _ h_ => h_.1)))); (case side2 => exact (Kd.R_reads' HO228.out).2.1); rintro e w24 ⟨rfl, hb⟩; refine ⟨_, rfl, ?_⟩; have n0_ := Aside0.mk (Kd.R_below (by (with_reducible repeat (first | apply Kd.R_alloc | apply Kd.R_drewN | apply Kd.R_drew)); exact (Kd.R_mono (Kd.R_far (p := ⟨gb229, 1, none⟩) (Kd.R_far (p := ⟨gb229, 0, none⟩) (Kd.R_types HO228.out BK229.out (by decide)) (fun _ hk => hk.2) (.string t225)) (fun _ hk => hk.2) (.slice Ao23 t226.length co23)) (fun _ h_ => h_.1))) hb); have n1_ := Aside0.mk (Zb (g := gb229) (o := .cells #[.string t225, .slice Ao23 t226.length co23] 24 (0, 0)) (by (with_reducible repeat first | apply Zn | apply Zd | apply Za); refine Zp (cs := #[.string t225, .slice none 0 0]) ?_ 1 _ rfl; (with_reducible repeat first | apply Zn | apply Zd | apply Za); refine Zp (cs := #[.string (⟨#[]⟩ : ByteArray), .slice none 0 0]) ?_ 0 _ rfl; (with_reducible repeat first | apply Zn | apply Zd | apply Za); exact BK229.out) hb); have n2_ := Aside0.mk (Yv HB hb); clear HO228; clear BK229; clear HB; have HO228 := n0_; have BK229 := n1_; have HB := n2_; clear n0_ n1_ n2_; (try clear hb); (try clear hb2); (try clear hk); (try clear hi); (try simp only [errW_none, errW_some])) | ((with_reducible refine gate_dst (N := 2) rfl ?_); refine box_event ?hg (N := 2) ?hd (cs := #[.string (⟨#[]⟩ : ByteArray), .string (⟨#[]⟩ : ByteArray), .int .i64 0, .int .i64 0, .int .i64 0, .int .i64 0, .bool false]) (t := 26) ?hr ?_; (case hd => rfl); (case hg => rfl); (case hr => first | (go_simp; done) | (go_simp; rfl)); intro gb238 hg w25 hbox hb; have n0_ := Aside0.mk (Kd.R_below (by (with_reducible repeat (first | apply Kd.R_alloc | apply Kd.R_drewN | apply Kd.R_drew)); exact HO228.out) hb); have n1_ := Aside0.mk (Zv BK229 hb); have n2_ := Aside0.mk (Yv HB hb); have n3_ := Aside0.mk (hbox); have n4_ := Aside0.mk (Yg HB hg); have n5_ := Aside0.mk (Yg HB hg); have n6_ := Aside0.mk (Zl BK229 hg); have n7_ := Aside0.mk (Zg BK229 hg); clear HO228; clear BK229; clear HB; have HO228 := n0_; have BK229 := n1_; have HB := n2_; have BK238 := n3_; have GW238 := n4_; have GE238 := n5_; have NB229_238 := n6_; have NB238_229 := n7_; clear n0_ n1_ n2_ n3_ n4_ n5_ n6_ n7_; clear hb hbox hg; obtain ⟨hnb26, hnc26⟩ := Zo NB238_229; obtain ⟨⟨hcz27_0, hcz27_1, hcz27_2, hcz27_3, hcz27_4, hcz27_5, hcz27_6⟩, hfz27_0, hfz27_1, hfz27_2, hfz27_3, hfz27_4, hfz27_5, hfz27_6⟩ := Zk7 BK238; obtain ⟨⟨hcz28_0, hcz28_1⟩, hfz28_0, hfz28_1⟩ := Zk2 BK229) | ((with_reducible refine gate_callee (f := 23) rfl ?_); refine goesL_ (some 21) rfl rfl Try.func23 (by kernel_rfl) rfl #[.agg #[.string t225, .slice Ao23 t226.length co23], .agg #[.string t230, .string t231, .int .i64 t232, .int .i64 t233, .int .i64 t234, .int .i64 t235, .bool t236], .int .i64 0, .int .i64 1, .int .i64 1, .int .i64 7] rfl (by (try simp only [List.map_toArray, List.map_cons, List.map_nil]); first | done | rfl | (simp only [List.length_drop, List.length_take]; rfl)) ?_; (with_reducible refine (saga_Reply.calls k t225 _ _ t226 t230 t231 t232 t233 t234 t235 t236 0 1 1 7 t239 t240 t241 t242 t243 t244 t245 true _ ?side1 ?side2 A3.out).mono ?_); (case side1 => refine (Kd.R_reads' (e := 53) (base := w.heap.size) (ok := fun k_ => True) (n := t226.length) (c := co23) ?_).2.2; exact (by (with_reducible repeat (first | apply Kd.R_alloc | apply Kd.R_drewN | apply Kd.R_drew)); exact (Kd.R_mono (Kd.R_far (p := ⟨gb238, 6, none⟩) (Kd.R_far (p := ⟨gb238, 5, none⟩) (Kd.R_far (p := ⟨gb238, 4, none⟩) (Kd.R_far (p := ⟨gb238, 3, none⟩) (Kd.R_far (p := ⟨gb238, 2, none⟩) (Kd.R_far (p := ⟨gb238, 1, none⟩) (Kd.R_far (p := ⟨gb238, 0, none⟩) (Kd.R_types HO228.out BK238.out (by decide)) (fun _ hk => hk.2) (.string t230)) (fun _ hk => hk.2) (.string t231)) (fun _ hk => hk.2) (.int .i64 t232)) (fun _ hk => hk.2) (.int .i64 t233)) (fun _ hk => hk.2) (.int .i64 t234)) (fun _ hk => hk.2) (.int .i64 t235)) (fun _ hk => hk.2) (.bool t236)) (fun _ h_ => h_.1)))); (case side2 => exact (Kd.R_reads' HO228.out).2.1); rintro e w29 ⟨rfl, hb⟩; refine ⟨_, rfl, ?_⟩; have n0_ := Aside0.mk (Kd.R_below (by (with_reducible repeat (first | apply Kd.R_alloc | apply Kd.R_drewN | apply Kd.R_drew)); exact (Kd.R_mono (Kd.R_far (p := ⟨gb238, 6, none⟩) (Kd.R_far (p := ⟨gb238, 5, none⟩) (Kd.R_far (p := ⟨gb238, 4, none⟩) (Kd.R_far (p := ⟨gb238, 3, none⟩) (Kd.R_far (p := ⟨gb238, 2, none⟩) (Kd.R_far (p := ⟨gb238, 1, none⟩) (Kd.R_far (p := ⟨gb238, 0, none⟩) (Kd.R_types HO228.out BK238.out (by decide)) (fun _ hk => hk.2) (.string t230)) (fun _ hk => hk.2) (.string t231)) (fun _ hk => hk.2) (.int .i64 t232)) (fun _ hk => hk.2) (.int .i64 t233)) (fun _ hk => hk.2) (.int .i64 t234)) (fun _ hk => hk.2) (.int .i64 t235)) (fun _ hk => hk.2) (.bool t236)) (fun _ h_ => h_.1))) hb); have n1_ := Aside0.mk (Zv BK229 hb); have n2_ := Aside0.mk (Zb (g := gb238) (o := .cells #[.string t230, .string t231, .int .i64 t232, .int .i64 t233, .int .i64 t234, .int .i64 t235, .bool t236] 26 (0, 0)) (by (with_reducible repeat first | apply Zn | apply Zd | apply Za); refine Zp (cs := #[.string t230, .string t231, .int .i64 t232, .int .i64 t233, .int .i64 t234, .int .i64 t235, .bool false]) ?_ 6 _ rfl; (with_reducible repeat first | apply Zn | apply Zd | apply Za); refine Zp (cs := #[.string t230, .string t231, .int .i64 t232, .int .i64 t233, .int .i64 t234, .int .i64 0, .bool false]) ?_ 5 _ rfl; (with_reducible repeat first | apply Zn | apply Zd | apply Za); refine Zp (cs := #[.string t230, .string t231, .int .i64 t232, .int .i64 t233, .int .i64 0, .int .i64 0, .bool false]) ?_ 4 _ rfl; (with_reducible repeat first | apply Zn | apply Zd | apply Za); refine Zp (cs := #[.string t230, .string t231, .int .i64 t232, .int .i64 0, .int .i64 0, .int .i64 0, .bool false]) ?_ 3 _ rfl; (with_reducible repeat first | apply Zn | apply Zd | apply Za); refine Zp (cs := #[.string t230, .string t231, .int .i64 0, .int .i64 0, .int .i64 0, .int .i64 0, .bool false]) ?_ 2 _ rfl; (with_reducible repeat first | apply Zn | apply Zd | apply Za); refine Zp (cs := #[.string t230, .string (⟨#[]⟩ : ByteArray), .int .i64 0, .int .i64 0, .int .i64 0, .int .i64 0, .bool false]) ?_ 1 _ rfl; (with_reducible repeat first | apply Zn | apply Zd | apply Za); refine Zp (cs := #[.string (⟨#[]⟩ : ByteArray), .string (⟨#[]⟩ : ByteArray), .int .i64 0, .int .i64 0, .int .i64 0, .int .i64 0, .bool false]) ?_ 0 _ rfl; (with_reducible repeat first | apply Zn | apply Zd | apply Za); exact BK238.out) hb); have n3_ := Aside0.mk (Yv HB hb); clear HO228; clear BK229; clear BK238; clear HB; have HO228 := n0_; have BK229 := n1_; have BK238 := n2_; have HB := n3_; clear n0_ n1_ n2_ n3_; (try clear hb); (try clear hb2); (try clear hk); (try clear hi)) | ((with_reducible refine gate_dst (N := 4) rfl ?_); refine box_event ?hg (N := 4) ?hd (cs := #[.string (⟨#[]⟩ : ByteArray), .string (⟨#[]⟩ : ByteArray), .int .i64 0, .int .i64 0, .int .i64 0, .int .i64 0, .bool false]) (t := 26) ?hr ?_; (case hd => rfl); (case hg => rfl); (case hr => first | (go_simp; done) | (go_simp; rfl)); intro gb247 hg w30 hbox hb; have n0_ := Aside0.mk (Kd.R_below (by (with_reducible repeat (first | apply Kd.R_alloc | apply Kd.R_drewN | apply Kd.R_drew)); exact HO228.out) hb); have n1_ := Aside0.mk (Zv BK229 hb); have n2_ := Aside0.mk (Zv BK238 hb); have n3_ := Aside0.mk (Yv HB hb); have n4_ := Aside0.mk (hbox); have n5_ := Aside0.mk (Yg HB hg); have n6_ := Aside0.mk (Yg HB hg); have n7_ := Aside0.mk (Zl BK229 hg); have n8_ := Aside0.mk (Zg BK229 hg); have n9_ := Aside0.mk (Zl BK238 hg); have n10_ := Aside0.mk (Zg BK238 hg); clear HO228; clear BK229; clear BK238; clear HB; have HO228 := n0_; have BK229 := n1_; have BK238 := n2_; have HB := n3_; have BK247 := n4_; have GW247 := n5_; have GE247 := n6_; have NB229_247 := n7_; have NB247_229 := n8_; have NB238_247 := n9_; have NB247_238 := n10_; clear n0_ n1_ n2_ n3_ n4_ n5_ n6_ n7_ n8_ n9_ n10_; clear hb hbox hg; obtain ⟨hnb31, hnc31⟩ := Zo NB247_229; obtain ⟨hnb32, hnc32⟩ := Zo NB247_238; obtain ⟨⟨hcz33_0, hcz33_1, hcz33_2, hcz33_3, hcz33_4, hcz33_5, hcz33_6⟩, hfz33_0, hfz33_1, hfz33_2, hfz33_3, hfz33_4, hfz33_5, hfz33_6⟩ := Zk7 BK247; obtain ⟨⟨hcz34_0, hcz34_1⟩, hfz34_0, hfz34_1⟩ := Zk2 BK229) | ((with_reducible refine gate_callee (f := 23) rfl ?_); refine goesL_ (some 27) rfl rfl Try.func23 (by kernel_rfl) rfl #[.agg #[.string t225, .slice Ao23 t226.length co23], .agg #[.string t239, .string t240, .int .i64 t241, .int .i64 t242, .int .i64 t243, .int .i64 t244, .bool t245], .int .i64 1, .int .i64 1, .int .i64 3, .int .i64 8] rfl (by (try simp only [List.map_toArray, List.map_cons, List.map_nil]); first | done | rfl | (simp only [List.length_drop, List.length_take]; rfl)) ?_; (with_reducible refine (saga_Reply.calls k t225 _ _ t226 t239 t240 t241 t242 t243 t244 t245 1 1 3 8 t248 t249 t250 t251 t252 t253 t254 true _ ?side1 ?side2 A4.out).mono ?_); (case side1 => refine (Kd.R_reads' (e := 53) (base := w.heap.size) (ok := fun k_ => True) (n := t226.length) (c := co23) ?_).2.2; exact (by (with_reducible repeat (first | apply Kd.R_alloc | apply Kd.R_drewN | apply Kd.R_drew)); exact (Kd.R_mono (Kd.R_far (p := ⟨gb247, 6, none⟩) (Kd.R_far (p := ⟨gb247, 5, none⟩) (Kd.R_far (p := ⟨gb247, 4, none⟩) (Kd.R_far (p := ⟨gb247, 3, none⟩) (Kd.R_far (p := ⟨gb247, 2, none⟩) (Kd.R_far (p := ⟨gb247, 1, none⟩) (Kd.R_far (p := ⟨gb247, 0, none⟩) (Kd.R_types HO228.out BK247.out (by decide)) (fun _ hk => hk.2) (.string t239)) (fun _ hk => hk.2) (.string t240)) (fun _ hk => hk.2) (.int .i64 t241)) (fun _ hk => hk.2) (.int .i64 t242)) (fun _ hk => hk.2) (.int .i64 t243)) (fun _ hk => hk.2) (.int .i64 t244)) (fun _ hk => hk.2) (.bool t245)) (fun _ h_ => h_.1)))); (case side2 => exact (Kd.R_reads' HO228.out).2.1); rintro e w35 ⟨rfl, hb⟩; refine ⟨_, rfl, ?_⟩; have n0_ := Aside0.mk (Kd.R_below (by (with_reducible repeat (first | apply Kd.R_alloc | apply Kd.R_drewN | apply Kd.R_drew)); exact (Kd.R_mono (Kd.R_far (p := ⟨gb247, 6, none⟩) (Kd.R_far (p := ⟨gb247, 5, none⟩) (Kd.R_far (p := ⟨gb247, 4, none⟩) (Kd.R_far (p := ⟨gb247, 3, none⟩) (Kd.R_far (p := ⟨gb247, 2, none⟩) (Kd.R_far (p := ⟨gb247, 1, none⟩) (Kd.R_far (p := ⟨gb247, 0, none⟩) (Kd.R_types HO228.out BK247.out (by decide)) (fun _ hk => hk.2) (.string t239)) (fun _ hk => hk.2) (.string t240)) (fun _ hk => hk.2) (.int .i64 t241)) (fun _ hk => hk.2) (.int .i64 t242)) (fun _ hk => hk.2) (.int .i64 t243)) (fun _ hk => hk.2) (.int .i64 t244)) (fun _ hk => hk.2) (.bool t245)) (fun _ h_ => h_.1))) hb); have n1_ := Aside0.mk (Zv BK229 hb); have n2_ := Aside0.mk (Zv BK238 hb); have n3_ := Aside0.mk (Zb (g := gb247) (o := .cells #[.string t239, .string t240, .int .i64 t241, .int .i64 t242, .int .i64 t243, .int .i64 t244, .bool t245] 26 (0, 0)) (by (with_reducible repeat first | apply Zn | apply Zd | apply Za); refine Zp (cs := #[.string t239, .string t240, .int .i64 t241, .int .i64 t242, .int .i64 t243, .int .i64 t244, .bool false]) ?_ 6 _ rfl; (with_reducible repeat first | apply Zn | apply Zd | apply Za); refine Zp (cs := #[.string t239, .string t240, .int .i64 t241, .int .i64 t242, .int .i64 t243, .int .i64 0, .bool false]) ?_ 5 _ rfl; (with_reducible repeat first | apply Zn | apply Zd | apply Za); refine Zp (cs := #[.string t239, .string t240, .int .i64 t241, .int .i64 t242, .int .i64 0, .int .i64 0, .bool false]) ?_ 4 _ rfl; (with_reducible repeat first | apply Zn | apply Zd | apply Za); refine Zp (cs := #[.string t239, .string t240, .int .i64 t241, .int .i64 0, .int .i64 0, .int .i64 0, .bool false]) ?_ 3 _ rfl; (with_reducible repeat first | apply Zn | apply Zd | apply Za); refine Zp (cs := #[.string t239, .string t240, .int .i64 0, .int .i64 0, .int .i64 0, .int .i64 0, .bool false]) ?_ 2 _ rfl; (with_reducible repeat first | apply Zn | apply Zd | apply Za); refine Zp (cs := #[.string t239, .string (⟨#[]⟩ : ByteArray), .int .i64 0, .int .i64 0, .int .i64 0, .int .i64 0, .bool false]) ?_ 1 _ rfl; (with_reducible repeat first | apply Zn | apply Zd | apply Za); refine Zp (cs := #[.string (⟨#[]⟩ : ByteArray), .string (⟨#[]⟩ : ByteArray), .int .i64 0, .int .i64 0, .int .i64 0, .int .i64 0, .bool false]) ?_ 0 _ rfl; (with_reducible repeat first | apply Zn | apply Zd | apply Za); exact BK247.out) hb); have n4_ := Aside0.mk (Yv HB hb); clear HO228; clear BK229; clear BK238; clear BK247; clear HB; have HO228 := n0_; have BK229 := n1_; have BK238 := n2_; have BK247 := n3_; have HB := n4_; clear n0_ n1_ n2_ n3_ n4_; (try clear hb); (try clear hb2); (try clear hk); (try clear hi)) | ((with_reducible refine gate_dst (N := 6) rfl ?_); refine box_event ?hg (N := 6) ?hd (cs := #[.string (⟨#[]⟩ : ByteArray), .string (⟨#[]⟩ : ByteArray), .int .i64 0, .int .i64 0, .int .i64 0, .int .i64 0, .bool false]) (t := 26) ?hr ?_; (case hd => rfl); (case hg => rfl); (case hr => first | (go_simp; done) | (go_simp; rfl)); intro gb256 hg w36 hbox hb; have n0_ := Aside0.mk (Kd.R_below (by (with_reducible repeat (first | apply Kd.R_alloc | apply Kd.R_drewN | apply Kd.R_drew)); exact HO228.out) hb); have n1_ := Aside0.mk (Zv BK229 hb); have n2_ := Aside0.mk (Zv BK238 hb); have n3_ := Aside0.mk (Zv BK247 hb); have n4_ := Aside0.mk (Yv HB hb); have n5_ := Aside0.mk (hbox); have n6_ := Aside0.mk (Yg HB hg); have n7_ := Aside0.mk (Yg HB hg); have n8_ := Aside0.mk (Zl BK229 hg); have n9_ := Aside0.mk (Zg BK229 hg); have n10_ := Aside0.mk (Zl BK238 hg); have n11_ := Aside0.mk (Zg BK238 hg); have n12_ := Aside0.mk (Zl BK247 hg); have n13_ := Aside0.mk (Zg BK247 hg); clear HO228; clear BK229; clear BK238; clear BK247; clear HB; have HO228 := n0_; have BK229 := n1_; have BK238 := n2_; have BK247 := n3_; have HB := n4_; have BK256 := n5_; have GW256 := n6_; have GE256 := n7_; have NB229_256 := n8_; have NB256_229 := n9_; have NB238_256 := n10_; have NB256_238 := n11_; have NB247_256 := n12_; have NB256_247 := n13_; clear n0_ n1_ n2_ n3_ n4_ n5_ n6_ n7_ n8_ n9_ n10_ n11_ n12_ n13_; clear hb hbox hg; obtain ⟨hnb37, hnc37⟩ := Zo NB256_229; obtain ⟨hnb38, hnc38⟩ := Zo NB256_238; obtain ⟨hnb39, hnc39⟩ := Zo NB256_247; obtain ⟨⟨hcz40_0, hcz40_1, hcz40_2, hcz40_3, hcz40_4, hcz40_5, hcz40_6⟩, hfz40_0, hfz40_1, hfz40_2, hfz40_3, hfz40_4, hfz40_5, hfz40_6⟩ := Zk7 BK256; obtain ⟨⟨hcz41_0, hcz41_1⟩, hfz41_0, hfz41_1⟩ := Zk2 BK229; obtain ⟨⟨hcz42_0, hcz42_1, hcz42_2, hcz42_3, hcz42_4, hcz42_5, hcz42_6⟩, hfz42_0, hfz42_1, hfz42_2, hfz42_3, hfz42_4, hfz42_5, hfz42_6⟩ := Zk7 BK238) | ((with_reducible refine gate_callee (f := 23) rfl ?_); refine goesL_ (some 33) rfl rfl Try.func23 (by kernel_rfl) rfl #[.agg #[.string t225, .slice Ao23 t226.length co23], .agg #[.string t230, .string t231, .int .i64 t232, .int .i64 t233, .int .i64 t234, .int .i64 t235, .bool t236], .int .i64 0, .int .i64 1, .int .i64 2, .int .i64 6] rfl (by (try simp only [List.map_toArray, List.map_cons, List.map_nil]); first | done | rfl | (simp only [List.length_drop, List.length_take]; rfl)) ?_; (with_reducible refine (saga_Reply.calls k t225 _ _ t226 t230 t231 t232 t233 t234 t235 t236 0 1 2 6 t257 t258 t259 t260 t261 t262 t263 true _ ?side1 ?side2 A5.out).mono ?_); (case side1 => refine (Kd.R_reads' (e := 53) (base := w.heap.size) (ok := fun k_ => True) (n := t226.length) (c := co23) ?_).2.2; exact (by (with_reducible repeat (first | apply Kd.R_alloc | apply Kd.R_drewN | apply Kd.R_drew)); exact (Kd.R_mono (Kd.R_far (p := ⟨gb256, 6, none⟩) (Kd.R_far (p := ⟨gb256, 5, none⟩) (Kd.R_far (p := ⟨gb256, 4, none⟩) (Kd.R_far (p := ⟨gb256, 3, none⟩) (Kd.R_far (p := ⟨gb256, 2, none⟩) (Kd.R_far (p := ⟨gb256, 1, none⟩) (Kd.R_far (p := ⟨gb256, 0, none⟩) (Kd.R_types HO228.out BK256.out (by decide)) (fun _ hk => hk.2) (.string t248)) (fun _ hk => hk.2) (.string t249)) (fun _ hk => hk.2) (.int .i64 t250)) (fun _ hk => hk.2) (.int .i64 t251)) (fun _ hk => hk.2) (.int .i64 t252)) (fun _ hk => hk.2) (.int .i64 t253)) (fun _ hk => hk.2) (.bool t254)) (fun _ h_ => h_.1)))); (case side2 => exact (Kd.R_reads' HO228.out).2.1); rintro e w43 ⟨rfl, hb⟩; refine ⟨_, rfl, ?_⟩; have n0_ := Aside0.mk (Kd.R_below (by (with_reducible repeat (first | apply Kd.R_alloc | apply Kd.R_drewN | apply Kd.R_drew)); exact (Kd.R_mono (Kd.R_far (p := ⟨gb256, 6, none⟩) (Kd.R_far (p := ⟨gb256, 5, none⟩) (Kd.R_far (p := ⟨gb256, 4, none⟩) (Kd.R_far (p := ⟨gb256, 3, none⟩) (Kd.R_far (p := ⟨gb256, 2, none⟩) (Kd.R_far (p := ⟨gb256, 1, none⟩) (Kd.R_far (p := ⟨gb256, 0, none⟩) (Kd.R_types HO228.out BK256.out (by decide)) (fun _ hk => hk.2) (.string t248)) (fun _ hk => hk.2) (.string t249)) (fun _ hk => hk.2) (.int .i64 t250)) (fun _ hk => hk.2) (.int .i64 t251)) (fun _ hk => hk.2) (.int .i64 t252)) (fun _ hk => hk.2) (.int .i64 t253)) (fun _ hk => hk.2) (.bool t254)) (fun _ h_ => h_.1))) hb); have n1_ := Aside0.mk (Zv BK229 hb); have n2_ := Aside0.mk (Zv BK238 hb); have n3_ := Aside0.mk (Zv BK247 hb); have n4_ := Aside0.mk (Zb (g := gb256) (o := .cells #[.string t248, .string t249, .int .i64 t250, .int .i64 t251, .int .i64 t252, .int .i64 t253, .bool t254] 26 (0, 0)) (by (with_reducible repeat first | apply Zn | apply Zd | apply Za); refine Zp (cs := #[.string t248, .string t249, .int .i64 t250, .int .i64 t251, .int .i64 t252, .int .i64 t253, .bool false]) ?_ 6 _ rfl; (with_reducible repeat first | apply Zn | apply Zd | apply Za); refine Zp (cs := #[.string t248, .string t249, .int .i64 t250, .int .i64 t251, .int .i64 t252, .int .i64 0, .bool false]) ?_ 5 _ rfl; (with_reducible repeat first | apply Zn | apply Zd | apply Za); refine Zp (cs := #[.string t248, .string t249, .int .i64 t250, .int .i64 t251, .int .i64 0, .int .i64 0, .bool false]) ?_ 4 _ rfl; (with_reducible repeat first | apply Zn | apply Zd | apply Za); refine Zp (cs := #[.string t248, .string t249, .int .i64 t250, .int .i64 0, .int .i64 0, .int .i64 0, .bool false]) ?_ 3 _ rfl; (with_reducible repeat first | apply Zn | apply Zd | apply Za); refine Zp (cs := #[.string t248, .string t249, .int .i64 0, .int .i64 0, .int .i64 0, .int .i64 0, .bool false]) ?_ 2 _ rfl; (with_reducible repeat first | apply Zn | apply Zd | apply Za); refine Zp (cs := #[.string t248, .string (⟨#[]⟩ : ByteArray), .int .i64 0, .int .i64 0, .int .i64 0, .int .i64 0, .bool false]) ?_ 1 _ rfl; (with_reducible repeat first | apply Zn | apply Zd | apply Za); refine Zp (cs := #[.string (⟨#[]⟩ : ByteArray), .string (⟨#[]⟩ : ByteArray), .int .i64 0, .int .i64 0, .int .i64 0, .int .i64 0, .bool false]) ?_ 0 _ rfl; (with_reducible repeat first | apply Zn | apply Zd | apply Za); exact BK256.out) hb); have n5_ := Aside0.mk (Yv HB hb); clear HO228; clear BK229; clear BK238; clear BK247; clear BK256; clear HB; have HO228 := n0_; have BK229 := n1_; have BK238 := n2_; have BK247 := n3_; have BK256 := n4_; have HB := n5_; clear n0_ n1_ n2_ n3_ n4_ n5_; (try clear hb); (try clear hb2); (try clear hk); (try clear hi)) | ((with_reducible refine gate_dst (N := 8) rfl ?_); refine box_event ?hg (N := 8) ?hd (cs := #[.string (⟨#[]⟩ : ByteArray), .string (⟨#[]⟩ : ByteArray), .int .i64 0, .int .i64 0, .int .i64 0, .int .i64 0, .bool false]) (t := 26) ?hr ?_; (case hd => rfl); (case hg => rfl); (case hr => first | (go_simp; done) | (go_simp; rfl)); intro gb265 hg w44 hbox hb; have n0_ := Aside0.mk (Kd.R_below (by (with_reducible repeat (first | apply Kd.R_alloc | apply Kd.R_drewN | apply Kd.R_drew)); exact HO228.out) hb); have n1_ := Aside0.mk (Zv BK229 hb); have n2_ := Aside0.mk (Zv BK238 hb); have n3_ := Aside0.mk (Zv BK247 hb); have n4_ := Aside0.mk (Zv BK256 hb); have n5_ := Aside0.mk (Yv HB hb); have n6_ := Aside0.mk (hbox); have n7_ := Aside0.mk (Yg HB hg); have n8_ := Aside0.mk (Yg HB hg); have n9_ := Aside0.mk (Zl BK229 hg); have n10_ := Aside0.mk (Zg BK229 hg); have n11_ := Aside0.mk (Zl BK238 hg); have n12_ := Aside0.mk (Zg BK238 hg); have n13_ := Aside0.mk (Zl BK247 hg); have n14_ := Aside0.mk (Zg BK247 hg); have n15_ := Aside0.mk (Zl BK256 hg); have n16_ := Aside0.mk (Zg BK256 hg); clear HO228; clear BK229; clear BK238; clear BK247; clear BK256; clear HB; have HO228 := n0_; have BK229 := n1_; have BK238 := n2_; have BK247 := n3_; have BK256 := n4_; have HB := n5_; have BK265 := n6_; have GW265 := n7_; have GE265 := n8_; have NB229_265 := n9_; have NB265_229 := n10_; have NB238_265 := n11_; have NB265_238 := n12_; have NB247_265 := n13_; have NB265_247 := n14_; have NB256_265 := n15_; have NB265_256 := n16_; clear n0_ n1_ n2_ n3_ n4_ n5_ n6_ n7_ n8_ n9_ n10_ n11_ n12_ n13_ n14_ n15_ n16_; clear hb hbox hg; obtain ⟨hnb45, hnc45⟩ := Zo NB265_229; obtain ⟨hnb46, hnc46⟩ := Zo NB265_238; obtain ⟨hnb47, hnc47⟩ := Zo NB265_247; obtain ⟨hnb48, hnc48⟩ := Zo NB265_256; obtain ⟨⟨hcz49_0, hcz49_1, hcz49_2, hcz49_3, hcz49_4, hcz49_5, hcz49_6⟩, hfz49_0, hfz49_1, hfz49_2, hfz49_3, hfz49_4, hfz49_5, hfz49_6⟩ := Zk7 BK265; obtain ⟨⟨hcz50_0, hcz50_1, hcz50_2, hcz50_3, hcz50_4, hcz50_5, hcz50_6⟩, hfz50_0, hfz50_1, hfz50_2, hfz50_3, hfz50_4, hfz50_5, hfz50_6⟩ := Zk7 BK256) | ((with_reducible refine gate_callee (f := 16) rfl ?_); refine goesL_ (some 38) rfl rfl Try.func16 (by kernel_rfl) rfl #[.agg #[.string t248, .string t249, .int .i64 t250, .int .i64 t251, .int .i64 t252, .int .i64 t253, .bool t254]] rfl (by (try simp only [List.map_toArray, List.map_cons, List.map_nil]); first | done | rfl | (simp only [List.length_drop, List.length_take]; rfl)) ?_; (with_reducible refine (saga_Command.calls t248 t249 t250 t251 t252 t253 t254 t266 t267 t268 t269 true _ A6.out).mono ?_); rintro e w51 ⟨rfl, hb⟩; refine ⟨_, rfl, ?_⟩; have n0_ := Aside0.mk (Kd.R_below (by (with_reducible repeat (first | apply Kd.R_alloc | apply Kd.R_drewN | apply Kd.R_drew)); exact (Kd.R_mono (Kd.R_far (p := ⟨gb265, 6, none⟩) (Kd.R_far (p := ⟨gb265, 5, none⟩) (Kd.R_far (p := ⟨gb265, 4, none⟩) (Kd.R_far (p := ⟨gb265, 3, none⟩) (Kd.R_far (p := ⟨gb265, 2, none⟩) (Kd.R_far (p := ⟨gb265, 1, none⟩) (Kd.R_far (p := ⟨gb265, 0, none⟩) (Kd.R_types HO228.out BK265.out (by decide)) (fun _ hk => hk.2) (.string t257)) (fun _ hk => hk.2) (.string t258)) (fun _ hk => hk.2) (.int .i64 t259)) (fun _ hk => hk.2) (.int .i64 t260)) (fun _ hk => hk.2) (.int .i64 t261)) (fun _ hk => hk.2) (.int .i64 t262)) (fun _ hk => hk.2) (.bool t263)) (fun _ h_ => h_.1))) hb); have n1_ := Aside0.mk (Zv BK229 hb); have n2_ := Aside0.mk (Zv BK238 hb); have n3_ := Aside0.mk (Zv BK247 hb); have n4_ := Aside0.mk (Zv BK256 hb); have n5_ := Aside0.mk (Zb (g := gb265) (o := .cells #[.string t257, .string t258, .int .i64 t259, .int .i64 t260, .int .i64 t261, .int .i64 t262, .bool t263] 26 (0, 0)) (by (with_reducible repeat first | apply Zn | apply Zd | apply Za); refine Zp (cs := #[.string t257, .string t258, .int .i64 t259, .int .i64 t260, .int .i64 t261, .int .i64 t262, .bool false]) ?_ 6 _ rfl; (with_reducible repeat first | apply Zn | apply Zd | apply Za); refine Zp (cs := #[.string t257, .string t258, .int .i64 t259, .int .i64 t260, .int .i64 t261, .int .i64 0, .bool false]) ?_ 5 _ rfl; (with_reducible repeat first | apply Zn | apply Zd | apply Za); refine Zp (cs := #[.string t257, .string t258, .int .i64 t259, .int .i64 t260, .int .i64 0, .int .i64 0, .bool false]) ?_ 4 _ rfl; (with_reducible repeat first | apply Zn | apply Zd | apply Za); refine Zp (cs := #[.string t257, .string t258, .int .i64 t259, .int .i64 0, .int .i64 0, .int .i64 0, .bool false]) ?_ 3 _ rfl; (with_reducible repeat first | apply Zn | apply Zd | apply Za); refine Zp (cs := #[.string t257, .string t258, .int .i64 0, .int .i64 0, .int .i64 0, .int .i64 0, .bool false]) ?_ 2 _ rfl; (with_reducible repeat first | apply Zn | apply Zd | apply Za); refine Zp (cs := #[.string t257, .string (⟨#[]⟩ : ByteArray), .int .i64 0, .int .i64 0, .int .i64 0, .int .i64 0, .bool false]) ?_ 1 _ rfl; (with_reducible repeat first | apply Zn | apply Zd | apply Za); refine Zp (cs := #[.string (⟨#[]⟩ : ByteArray), .string (⟨#[]⟩ : ByteArray), .int .i64 0, .int .i64 0, .int .i64 0, .int .i64 0, .bool false]) ?_ 0 _ rfl; (with_reducible repeat first | apply Zn | apply Zd | apply Za); exact BK265.out) hb); have n6_ := Aside0.mk (Yv HB hb); clear HO228; clear BK229; clear BK238; clear BK247; clear BK256; clear BK265; clear HB; have HO228 := n0_; have BK229 := n1_; have BK238 := n2_; have BK247 := n3_; have BK256 := n4_; have BK265 := n5_; have HB := n6_; clear n0_ n1_ n2_ n3_ n4_ n5_ n6_; (try clear hb); (try clear hb2); (try clear hk); (try clear hi)) | ((with_reducible refine gate_dst (N := 10) rfl ?_); refine box_event ?hg (N := 10) ?hd (cs := #[.string (⟨#[]⟩ : ByteArray), .int .i64 0, .int .i64 0, .int .i64 0]) (t := 35) ?hr ?_; (case hd => rfl); (case hg => rfl); (case hr => first | (go_simp; done) | (go_simp; rfl)); intro gb271 hg w52 hbox hb; have n0_ := Aside0.mk (Kd.R_below (by (with_reducible repeat (first | apply Kd.R_alloc | apply Kd.R_drewN | apply Kd.R_drew)); exact HO228.out) hb); have n1_ := Aside0.mk (Zv BK229 hb); have n2_ := Aside0.mk (Zv BK238 hb); have n3_ := Aside0.mk (Zv BK247 hb); have n4_ := Aside0.mk (Zv BK256 hb); have n5_ := Aside0.mk (Zv BK265 hb); have n6_ := Aside0.mk (Yv HB hb); have n7_ := Aside0.mk (hbox); have n8_ := Aside0.mk (Yg HB hg); have n9_ := Aside0.mk (Yg HB hg); have n10_ := Aside0.mk (Zl BK229 hg); have n11_ := Aside0.mk (Zg BK229 hg); have n12_ := Aside0.mk (Zl BK238 hg); have n13_ := Aside0.mk (Zg BK238 hg); have n14_ := Aside0.mk (Zl BK247 hg); have n15_ := Aside0.mk (Zg BK247 hg); have n16_ := Aside0.mk (Zl BK256 hg); have n17_ := Aside0.mk (Zg BK256 hg); have n18_ := Aside0.mk (Zl BK265 hg); have n19_ := Aside0.mk (Zg BK265 hg); clear HO228; clear BK229; clear BK238; clear BK247; clear BK256; clear BK265; clear HB; have HO228 := n0_; have BK229 := n1_; have BK238 := n2_; have BK247 := n3_; have BK256 := n4_; have BK265 := n5_; have HB := n6_; have BK271 := n7_; have GW271 := n8_; have GE271 := n9_; have NB229_271 := n10_; have NB271_229 := n11_; have NB238_271 := n12_; have NB271_238 := n13_; have NB247_271 := n14_; have NB271_247 := n15_; have NB256_271 := n16_; have NB271_256 := n17_; have NB265_271 := n18_; have NB271_265 := n19_; clear n0_ n1_ n2_ n3_ n4_ n5_ n6_ n7_ n8_ n9_ n10_ n11_ n12_ n13_ n14_ n15_ n16_ n17_ n18_ n19_; clear hb hbox hg; obtain ⟨hnb53, hnc53⟩ := Zo NB271_229; obtain ⟨hnb54, hnc54⟩ := Zo NB271_238; obtain ⟨hnb55, hnc55⟩ := Zo NB271_247; obtain ⟨hnb56, hnc56⟩ := Zo NB271_256; obtain ⟨hnb57, hnc57⟩ := Zo NB271_265; obtain ⟨⟨hcz58_0, hcz58_1, hcz58_2, hcz58_3⟩, hfz58_0, hfz58_1, hfz58_2, hfz58_3⟩ := Zk4 BK271; obtain ⟨⟨hcz59_0, hcz59_1, hcz59_2, hcz59_3, hcz59_4, hcz59_5, hcz59_6⟩, hfz59_0, hfz59_1, hfz59_2, hfz59_3, hfz59_4, hfz59_5, hfz59_6⟩ := Zk7 BK238; obtain ⟨⟨hcz60_0, hcz60_1, hcz60_2, hcz60_3, hcz60_4, hcz60_5, hcz60_6⟩, hfz60_0, hfz60_1, hfz60_2, hfz60_3, hfz60_4, hfz60_5, hfz60_6⟩ := Zk7 BK247; obtain ⟨⟨hcz61_0, hcz61_1, hcz61_2, hcz61_3, hcz61_4, hcz61_5, hcz61_6⟩, hfz61_0, hfz61_1, hfz61_2, hfz61_3, hfz61_4, hfz61_5, hfz61_6⟩ := Zk7 BK256; obtain ⟨⟨hcz62_0, hcz62_1, hcz62_2, hcz62_3, hcz62_4, hcz62_5, hcz62_6⟩, hfz62_0, hfz62_1, hfz62_2, hfz62_3, hfz62_4, hfz62_5, hfz62_6⟩ := Zk7 BK265; obtain ⟨⟨hcz63_0, hcz63_1⟩, hfz63_0, hfz63_1⟩ := Zk2 BK229) | (go_at_call 18; (with_reducible refine (saga_Right.calls k t225 _ _ t226 t248 t249 t250 t251 t252 t253 t254 t273 _ ?side1 ?side2 A19.out).mono ?_); (case side1 => refine (Kd.R_reads' (e := 53) (base := w.heap.size) (ok := fun k_ => True) (n := t226.length) (c := co23) ?_).2.2; exact (by (with_reducible repeat (first | apply Kd.R_alloc | apply Kd.R_drewN | apply Kd.R_drew)); exact (Kd.R_mono (Kd.R_far (p := ⟨gb271, 3, none⟩) (Kd.R_far (p := ⟨gb271, 2, none⟩) (Kd.R_far (p := ⟨gb271, 1, none⟩) (Kd.R_far (p := ⟨gb271, 0, none⟩) (Kd.R_types HO228.out BK271.out (by decide)) (fun _ hk => hk.2) (.string t266)) (fun _ hk => hk.2) (.int .i64 t267)) (fun _ hk => hk.2) (.int .i64 t268)) (fun _ hk => hk.2) (.int .i64 t269)) (fun _ h_ => h_.1)))); (case side2 => exact (Kd.R_reads' HO228.out).2.1); rintro e w64 ⟨rfl, hb⟩; have n0_ := Aside0.mk (Kd.R_below (by (with_reducible repeat (first | apply Kd.R_alloc | apply Kd.R_drewN | apply Kd.R_drew)); exact (Kd.R_mono (Kd.R_far (p := ⟨gb271, 3, none⟩) (Kd.R_far (p := ⟨gb271, 2, none⟩) (Kd.R_far (p := ⟨gb271, 1, none⟩) (Kd.R_far (p := ⟨gb271, 0, none⟩) (Kd.R_types HO228.out BK271.out (by decide)) (fun _ hk => hk.2) (.string t266)) (fun _ hk => hk.2) (.int .i64 t267)) (fun _ hk => hk.2) (.int .i64 t268)) (fun _ hk => hk.2) (.int .i64 t269)) (fun _ h_ => h_.1))) hb); have n1_ := Aside0.mk (Zv BK229 hb); have n2_ := Aside0.mk (Zv BK238 hb); have n3_ := Aside0.mk (Zv BK247 hb); have n4_ := Aside0.mk (Zv BK256 hb); have n5_ := Aside0.mk (Zv BK265 hb); have n6_ := Aside0.mk (Zb (g := gb271) (o := .cells #[.string t266, .int .i64 t267, .int .i64 t268, .int .i64 t269] 35 (0, 0)) (by (with_reducible repeat first | apply Zn | apply Zd | apply Za); refine Zp (cs := #[.string t266, .int .i64 t267, .int .i64 t268, .int .i64 0]) ?_ 3 _ rfl; (with_reducible repeat first | apply Zn | apply Zd | apply Za); refine Zp (cs := #[.string t266, .int .i64 t267, .int .i64 0, .int .i64 0]) ?_ 2 _ rfl; (with_reducible repeat first | apply Zn | apply Zd | apply Za); refine Zp (cs := #[.string t266, .int .i64 0, .int .i64 0, .int .i64 0]) ?_ 1 _ rfl; (with_reducible repeat first | apply Zn | apply Zd | apply Za); refine Zp (cs := #[.string (⟨#[]⟩ : ByteArray), .int .i64 0, .int .i64 0, .int .i64 0]) ?_ 0 _ rfl; (with_reducible repeat first | apply Zn | apply Zd | apply Za); exact BK271.out) hb); have n7_ := Aside0.mk (Yv HB hb); clear HO228; clear BK229; clear BK238; clear BK247; clear BK256; clear BK265; clear BK271; clear HB; have HO228 := n0_; have BK229 := n1_; have BK238 := n2_; have BK247 := n3_; have BK256 := n4_; have BK265 := n5_; have BK271 := n6_; have HB := n7_; clear n0_ n1_ n2_ n3_ n4_ n5_ n6_ n7_; (try clear hb); (try clear hb2); (try clear hk); (try clear hi)))
              go_ret
              exact ⟨by first | rfl | (simp [errW_none, errW_some] <;> rfl) | (simp [*, errW_none, errW_some] <;> rfl), Yr HB⟩
             ·
              replace c18 := Bool.eq_false_iff.mpr c18
              subst c18
              have H1 : (some false) = some r := by rw [if_neg (show ¬ (false = true) by decide)] at H; exact H
              clear H
              have H := H1
              clear H1
              exact absurd ((Option.some.inj H).trans HRT_.out) (by decide)
            ·
             rw [if_neg c17] at H
             have c17b0 : (t268 == 2) = false := beq_eq_false_iff_ne.mpr c17
             have c17b1 : (t268 != 2) = true := bne_iff_ne.mpr c17
             exact absurd ((Option.some.inj H).trans HRT_.out) (by decide)
           ·
            rw [if_neg c16] at H
            have c16b0 : (t259 == 4) = false := beq_eq_false_iff_ne.mpr c16
            have c16b1 : (t259 != 4) = true := bne_iff_ne.mpr c16
            exact absurd ((Option.some.inj H).trans HRT_.out) (by decide)
          ·
           replace c15 := Bool.eq_false_iff.mpr c15
           subst c15
           have H1 : (some false) = some r := by rw [if_neg (show ¬ (false = true) by decide)] at H; exact H
           clear H
           have H := H1
           clear H1
           exact absurd ((Option.some.inj H).trans HRT_.out) (by decide)
         ·
          rw [if_neg c14] at H
          have c14b0 : (t253 == 28) = false := beq_eq_false_iff_ne.mpr c14
          have c14b1 : (t253 != 28) = true := bne_iff_ne.mpr c14
          exact absurd ((Option.some.inj H).trans HRT_.out) (by decide)
        ·
         rw [if_neg c13] at H
         have c13b0 : (t251 == 1) = false := beq_eq_false_iff_ne.mpr c13
         have c13b1 : (t251 != 1) = true := bne_iff_ne.mpr c13
         exact absurd ((Option.some.inj H).trans HRT_.out) (by decide)
       ·
        rw [if_neg c12] at H
        have c12b0 : (t250 == 2) = false := beq_eq_false_iff_ne.mpr c12
        have c12b1 : (t250 != 2) = true := bne_iff_ne.mpr c12
        exact absurd ((Option.some.inj H).trans HRT_.out) (by decide)
      ·
       replace c11 := Bool.eq_false_iff.mpr c11
       subst c11
       have H1 : (some false) = some r := by rw [if_neg (show ¬ (false = true) by decide)] at H; exact H
       clear H
       have H := H1
       clear H1
       exact absurd ((Option.some.inj H).trans HRT_.out) (by decide)
     ·
      rw [if_neg c10] at H
      have c10b0 : (t244 == 27) = false := beq_eq_false_iff_ne.mpr c10
      have c10b1 : (t244 != 27) = true := bne_iff_ne.mpr c10
      exact absurd ((Option.some.inj H).trans HRT_.out) (by decide)
    ·
     rw [if_neg c9] at H
     have c9b0 : (t242 == 1) = false := beq_eq_false_iff_ne.mpr c9
     have c9b1 : (t242 != 1) = true := bne_iff_ne.mpr c9
     exact absurd ((Option.some.inj H).trans HRT_.out) (by decide)
   ·
    replace c8 := Bool.eq_false_iff.mpr c8
    subst c8
    have H1 : (some false) = some r := by rw [if_neg (show ¬ (false = true) by decide)] at H; exact H
    clear H
    have H := H1
    clear H1
    exact absurd ((Option.some.inj H).trans HRT_.out) (by decide)
  ·
   rw [if_neg c7] at H
   have c7b0 : (t235 == 15) = false := beq_eq_false_iff_ne.mpr c7
   have c7b1 : (t235 != 15) = true := bne_iff_ne.mpr c7
   exact absurd ((Option.some.inj H).trans HRT_.out) (by decide)
 ·
  have H1 : (some false) = some r := by rw [if_neg (show ¬ (some q272).isNone = true by simp)] at H; exact H
  clear H
  have H := H1
  clear H1
  try simp only [errW_none, errW_some]
  exact absurd ((Option.some.inj H).trans HRT_.out) (by decide)

/-! ### palinodelaw19_pick: function 27 -/
def palinodelaw19_pick.f (a0 : Int) (a1 : Int) : Option (Int) := if a0 < 0 then (if a1 = 0 then (none) else (some (Int.tmod (wrap64 (-(wrap64 (a0 + 1)))) a1))) else (if a1 = 0 then (none) else (some (Int.tmod a0 a1)))
set_option maxHeartbeats 8000000 in
set_option maxRecDepth 100000 in
theorem palinodelaw19_pick.calls (a0 : Int) (a1 : Int) (r : Int) (w : World) (h : palinodelaw19_pick.f a0 a1 = some r) :
  Calls Try.prog 27 #[.int .i64 a0, .int .i64 a1] w fun e w' => e = .returned (.int .i64 r) ∧ Drawn0 w w' := by
 have H : (if a0 < 0 then (if a1 = 0 then (none) else (some (Int.tmod (wrap64 (-(wrap64 (a0 + 1)))) a1))) else (if a1 = 0 then (none) else (some (Int.tmod a0 a1)))) = some r := h
 clear h
 by_cases c3 : a0 < 0
 ·
  rw [if_pos c3] at H
  have c3b0 : decide (a0 < 0) = true := decide_eq_true c3
  clear c3
  by_cases c4 : a1 = 0
  ·
   rw [if_pos c4] at H
   exact absurd H (by simp)
  ·
   rw [if_neg c4] at H
   have c4b0 : (a1 == 0) = false := beq_eq_false_iff_ne.mpr c4
   have c4b1 : (a1 != 0) = true := bne_iff_ne.mpr c4
   obtain rfl := Option.some.inj H
   go_enter Try.func27, Try.ntmps27
   go_wp2
   go_ret
   exact ⟨by first | rfl | (simp; done) | (simp [*]; done), by repeat (first | exact Drawn0.refl _ | apply Drawn0.step)⟩
 ·
  rw [if_neg c3] at H
  have c3b0 : decide (a0 < 0) = false := decide_eq_false c3
  clear c3
  by_cases c5 : a1 = 0
  ·
   rw [if_pos c5] at H
   exact absurd H (by simp)
  ·
   rw [if_neg c5] at H
   have c5b0 : (a1 == 0) = false := beq_eq_false_iff_ne.mpr c5
   have c5b1 : (a1 != 0) = true := bne_iff_ne.mpr c5
   obtain rfl := Option.some.inj H
   go_enter Try.func27, Try.ntmps27
   go_wp2
   go_ret
   exact ⟨by first | rfl | (simp; done) | (simp [*]; done), by repeat (first | exact Drawn0.refl _ | apply Drawn0.step)⟩

end Go.Proofs.Ytfhlpkcapohnoaa.Print
