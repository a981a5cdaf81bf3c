-- Printed out of the translation by a program of this session's own. Not trusted: Lean checks it.
import Derived.Test.YtfhlpkcapohnoaaPrint0
import Derived.Test.YtfhlpkcapohnoaaPrint3
import Derived.Test.YtfhlpkcapohnoaaPrint4
import Derived.Test.YtfhlpkcapohnoaaPrint6
namespace Go.Proofs.Ytfhlpkcapohnoaa.Print
open Go.RowKit Go.Proofs.YtfhlpkcapohnoaaW.PrintWords Go.Proofs.YtfhlpkcapohnoaaW.PrintLast Go.Proofs.YtfhlpkcapohnoaaX
set_option linter.unusedVariables false
set_option linter.unusedSimpArgs false

/-! ### palinodelaw19_two: function 33 -/
def palinodelaw19_two.f  : Option (ByteArray × (List (S53))) := some ((⟨#[112]⟩ : ByteArray), (([(⟨1, 10⟩ : S53), (⟨0, 20⟩ : S53)] : List (S53))))
set_option maxHeartbeats 8000000 in
set_option maxRecDepth 100000 in
theorem palinodelaw19_two.calls  (r1 : ByteArray) (r2 : List (S53)) (w : World) (h : palinodelaw19_two.f  = some (r1, r2)) :
  Calls Try.prog 33 #[] w fun e w' => ∃ v1_ : Value, e = .returned (.agg #[.string r1, v1_]) ∧ Kd.R k53 53 w' w.heap.size (fun _ => True) v1_ r2 ∧ Below w.heap.size w w' := by
 have hu24 := Try.underlying24
 have hu53 := Try.underlying53
 have HB := Aside0.mk (Below.refl w.heap.size w)
 have H : (some ((⟨#[112]⟩ : ByteArray), (([(⟨1, 10⟩ : S53), (⟨0, 20⟩ : S53)] : List (S53))))) = some (r1, r2) := h
 clear h
 obtain ⟨y222, hy222⟩ : ∃ y_ : List (S53), y_ = (([(⟨1, 10⟩ : S53), (⟨0, 20⟩ : S53)] : List (S53))) := ⟨_, rfl⟩
 replace H : (some ((⟨#[112]⟩ : ByteArray), y222)) = some (r1, r2) := by first | (rw [hy222]; with_reducible exact H) | (have H2_ := (Option.bind_some _ _).symm.trans H; rw [hy222]; with_reducible exact H2_) | (have H2_ := (Option.bind_some _ _).symm.trans H; with_reducible exact H2_) | with_reducible exact H | (rw [hy222]; exact H) | exact H
 have Ny222 := Aside0.mk hy222
 clear hy222
 simp only [Option.some.injEq, Prod.mk.injEq] at H
 obtain ⟨rfl, rfl⟩ := H
 go_enter Try.func33, Try.ntmps33
 go_wp2_with (first | ((with_reducible refine gate_dst (N := 0) rfl ?_); refine box_event ?hg (N := 0) ?hd (cs := #[.string (⟨#[]⟩ : ByteArray), .slice none 0 0]) (t := 24) ?hr ?_; (case hd => rfl); (case hg => rfl); (case hr => first | (go_simp; done) | (go_simp; rfl)); intro gb221 hg w1 hbox hb; have n0_ := Aside0.mk (Yv HB hb); have n1_ := Aside0.mk (hbox); have n2_ := Aside0.mk ((by rw [hg]; exact (below_size (Yr HB)) : w.heap.size ≤ gb221)); have n3_ := Aside0.mk ((by rw [hg]; exact (below_size (Yr HB)) : w.heap.size ≤ gb221)); clear HB; have HB := n0_; have BK221 := n1_; have GW221 := n2_; have GE221 := n3_; clear n0_ n1_ n2_ n3_; clear hb hbox hg) | ((with_reducible refine gate_dst (N := 3) rfl ?_); refine Kd.R_lit k53 _ 53 ?hg (N := 3) ?hd (xs := ([(⟨1, 10⟩ : S53), (⟨0, 20⟩ : S53)] : List (S53))) (inner := [.int .i64 1, .int .i64 10, .int .i64 0, .int .i64 20]) (ok := fun _ => True) (okp := fun _ => True) ?hr ?hp (fun _ hk => hk) trivial (Below.refl _ _) (Nat.le_refl _) (by simp) ?_; (case hd => rfl); (case hg => rfl); (case hr => first | (go_simp; done) | (go_simp; rfl)); (case hp => exact (Reps.c2 (show Kd.M k53 _ _ _ (⟨1, 10⟩ : S53) [.int .i64 1, .int .i64 10] from (k53_mkM _ _ _ (⟨1, 10⟩ : S53) )) (Reps.c2 (show Kd.M k53 _ _ _ (⟨0, 20⟩ : S53) [.int .i64 0, .int .i64 20] from (k53_mkM _ _ _ (⟨0, 20⟩ : S53) )) (Reps.none _ _)))); intro v223 w2 ho3 hb hg_ hnew_; clear hg_ hnew_; (first | rw [← Ny222.out] at ho3 | (simp only [Int.reduceToNat] at ho3; rw [← Ny222.out] at ho3)); have n0_ := Aside0.mk (Kd.R_lower ho3 (below_size (Yr HB))); have n1_ := Aside0.mk (Zv BK221 hb); have n2_ := Aside0.mk (Yv HB hb); clear BK221; clear HB; have HO224 := n0_; have BK221 := n1_; have HB := n2_; clear n0_ n1_ n2_; clear hb ho3; obtain ⟨Ao4, co4, eo4⟩ := Kd.R_slice HO224.out; subst eo4; obtain ⟨⟨hcz5_0, hcz5_1⟩, hfz5_0, hfz5_1⟩ := Zk2 BK221))
 refine bodyPost_ret (results_cell_row rfl _ _ gb221 24 #[.string (⟨#[112]⟩ : ByteArray), .slice Ao4 y222.length co4] (0, 0) _ rfl (by (with_reducible repeat (first | refine Zn ?_ _ | refine Zd ?_ | refine Za ?_ _)); refine Zp (cs := #[.string (⟨#[112]⟩ : ByteArray), .slice none 0 0]) ?_ 1 _ rfl; (with_reducible repeat (first | refine Zn ?_ _ | refine Zd ?_ | refine Za ?_ _)); refine Zp (cs := #[.string (⟨#[]⟩ : ByteArray), .slice none 0 0]) ?_ 0 _ rfl; (with_reducible repeat (first | refine Zn ?_ _ | refine Zd ?_ | refine Za ?_ _)); exact BK221.out) Try.underlying24 rfl (by kernel_rfl)) rfl ?_
 exact ⟨_, by first | rfl | (simp [errW_none, errW_some] <;> rfl) | (simp [*, errW_none, errW_some] <;> rfl), by (with_reducible repeat (first | apply Kd.R_alloc | apply Kd.R_drewN | apply Kd.R_drew)); exact Kd.R_mono (Kd.R_far (p := ⟨gb221, 1, none⟩) (Kd.R_far (p := ⟨gb221, 0, none⟩) (Kd.R_types HO224.out BK221.out (by decide)) (fun _ hk => hk.2) (.string (⟨#[112]⟩ : ByteArray))) (fun _ hk => hk.2) (.slice Ao4 y222.length co4)) (fun _ hk => trivial), Yr HB⟩

/-! ### palinodelaw19_examples: function 13 -/
def palinodelaw19_examples.f (k : Nat)  : Option (Bool) := (palinodelaw19_two.f).bind fun bt225 => ((saga_Begin.f k bt225.1 bt225.2 (⟨#[97]⟩ : ByteArray) 5).bind fun bt230 => ((saga_Reply.f k bt225.1 bt225.2 bt230.1 bt230.2.1 bt230.2.2.1 bt230.2.2.2.1 bt230.2.2.2.2.1 bt230.2.2.2.2.2.1 bt230.2.2.2.2.2.2.1 0 1 1 7).bind fun bt239 => ((saga_Reply.f k bt225.1 bt225.2 bt239.1 bt239.2.1 bt239.2.2.1 bt239.2.2.2.1 bt239.2.2.2.2.1 bt239.2.2.2.2.2.1 bt239.2.2.2.2.2.2.1 1 1 3 8).bind fun bt248 => ((saga_Reply.f k bt225.1 bt225.2 bt230.1 bt230.2.1 bt230.2.2.1 bt230.2.2.2.1 bt230.2.2.2.2.1 bt230.2.2.2.2.2.1 bt230.2.2.2.2.2.2.1 0 1 2 6).bind fun bt257 => ((saga_Command.f bt248.1 bt248.2.1 bt248.2.2.1 bt248.2.2.2.1 bt248.2.2.2.2.1 bt248.2.2.2.2.2.1 bt248.2.2.2.2.2.2.1).bind fun bt266 => (if bt230.2.2.2.2.2.2.2.isNone = true then (if bt230.2.2.2.2.2.1 = 15 then (if bt239.2.2.2.2.2.2.2 = true then (if bt239.2.2.2.1 = 1 then (if bt239.2.2.2.2.2.1 = 27 then (if bt248.2.2.2.2.2.2.2 = true then (if bt248.2.2.1 = 2 then (if bt248.2.2.2.1 = 1 then (if bt248.2.2.2.2.2.1 = 28 then (if bt257.2.2.2.2.2.2.2 = true then (if bt257.2.2.1 = 4 then (if bt266.2.2.1 = 2 then (if bt266.2.2.2.2 = true then ((saga_Right.f k bt225.1 bt225.2 bt248.1 bt248.2.1 bt248.2.2.1 bt248.2.2.2.1 bt248.2.2.2.2.1 bt248.2.2.2.2.2.1 bt248.2.2.2.2.2.2.1).bind fun t273 => (some t273)) else (some false)) else (some false)) else (some false)) else (some false)) else (some false)) else (some false)) else (some false)) else (some false)) else (some false)) else (some false)) else (some false)) else (some false)) else (some false)))))))
theorem palinodelaw19_examples.mono : ∀ k, LeO (palinodelaw19_examples.f k ) (palinodelaw19_examples.f (k + 1) ) := by
 intro  k
 unfold palinodelaw19_examples.f
 repeat' first
   | (with_reducible exact saga_Begin.mono _ _ _ _ _)
   | (with_reducible exact saga_Reply.mono _ _ _ _ _ _ _ _ _ _ _ _ _ _)
   | (with_reducible exact saga_Right.mono _ _ _ _ _ _ _ _ _ _)
   | (with_reducible exact LeO.refl _)
   | (with_reducible exact LeO.none _)
   | (with_reducible refine LeO.ite ?_ ?_)
   | (with_reducible refine LeO.bind ?_ (fun _ => ?_))
   | exact saga_Begin.mono _ _ _ _ _
   | exact saga_Reply.mono _ _ _ _ _ _ _ _ _ _ _ _ _ _
   | exact saga_Right.mono _ _ _ _ _ _ _ _ _ _
   | exact LeO.none _
   | refine LeO.ite ?_ ?_
   | refine LeO.bind ?_ (fun _ => ?_)
set_option maxHeartbeats 8000000 in
set_option maxRecDepth 100000 in
theorem palinodelaw19_examples.calls (k : Nat)  (r : Bool) (w : World) (h : palinodelaw19_examples.f k  = some r) (HRT_ : Aside0 (r = true) := by first | exact ⟨rfl⟩ | assumption) :
  Calls Try.prog 13 #[] w fun e w' => e = .returned (.bool r) ∧ Below w.heap.size w w' := by
 have hu24 := Try.underlying24
 have hu26 := Try.underlying26
 have hu35 := Try.underlying35
 have hu29 := Try.underlying29
 have hu62 := Try.underlying62
 have HB := Aside0.mk (Below.refl w.heap.size w)
 have H : ((palinodelaw19_two.f).bind fun bt225 => ((saga_Begin.f k bt225.1 bt225.2 (⟨#[97]⟩ : ByteArray) 5).bind fun bt230 => ((saga_Reply.f k bt225.1 bt225.2 bt230.1 bt230.2.1 bt230.2.2.1 bt230.2.2.2.1 bt230.2.2.2.2.1 bt230.2.2.2.2.2.1 bt230.2.2.2.2.2.2.1 0 1 1 7).bind fun bt239 => ((saga_Reply.f k bt225.1 bt225.2 bt239.1 bt239.2.1 bt239.2.2.1 bt239.2.2.2.1 bt239.2.2.2.2.1 bt239.2.2.2.2.2.1 bt239.2.2.2.2.2.2.1 1 1 3 8).bind fun bt248 => ((saga_Reply.f k bt225.1 bt225.2 bt230.1 bt230.2.1 bt230.2.2.1 bt230.2.2.2.1 bt230.2.2.2.2.1 bt230.2.2.2.2.2.1 bt230.2.2.2.2.2.2.1 0 1 2 6).bind fun bt257 => ((saga_Command.f bt248.1 bt248.2.1 bt248.2.2.1 bt248.2.2.2.1 bt248.2.2.2.2.1 bt248.2.2.2.2.2.1 bt248.2.2.2.2.2.2.1).bind fun bt266 => (if bt230.2.2.2.2.2.2.2.isNone = true then (if bt230.2.2.2.2.2.1 = 15 then (if bt239.2.2.2.2.2.2.2 = true then (if bt239.2.2.2.1 = 1 then (if bt239.2.2.2.2.2.1 = 27 then (if bt248.2.2.2.2.2.2.2 = true then (if bt248.2.2.1 = 2 then (if bt248.2.2.2.1 = 1 then (if bt248.2.2.2.2.2.1 = 28 then (if bt257.2.2.2.2.2.2.2 = true then (if bt257.2.2.1 = 4 then (if bt266.2.2.1 = 2 then (if bt266.2.2.2.2 = true then ((saga_Right.f k bt225.1 bt225.2 bt248.1 bt248.2.1 bt248.2.2.1 bt248.2.2.2.1 bt248.2.2.2.2.1 bt248.2.2.2.2.2.1 bt248.2.2.2.2.2.2.1).bind fun t273 => (some t273)) else (some false)) else (some false)) else (some false)) else (some false)) else (some false)) else (some false)) else (some false)) else (some false)) else (some false)) else (some false)) else (some false)) else (some false)) else (some false)))))))) = some r := h
 clear h
 replace H := Option.bind_eq_some_iff.mp H
 obtain ⟨⟨t225, t226⟩, A10, H⟩ := H
 replace H : ((saga_Begin.f k t225 t226 (⟨#[97]⟩ : ByteArray) 5).bind fun bt230 => ((saga_Reply.f k t225 t226 bt230.1 bt230.2.1 bt230.2.2.1 bt230.2.2.2.1 bt230.2.2.2.2.1 bt230.2.2.2.2.2.1 bt230.2.2.2.2.2.2.1 0 1 1 7).bind fun bt239 => ((saga_Reply.f k t225 t226 bt239.1 bt239.2.1 bt239.2.2.1 bt239.2.2.2.1 bt239.2.2.2.2.1 bt239.2.2.2.2.2.1 bt239.2.2.2.2.2.2.1 1 1 3 8).bind fun bt248 => ((saga_Reply.f k t225 t226 bt230.1 bt230.2.1 bt230.2.2.1 bt230.2.2.2.1 bt230.2.2.2.2.1 bt230.2.2.2.2.2.1 bt230.2.2.2.2.2.2.1 0 1 2 6).bind fun bt257 => ((saga_Command.f bt248.1 bt248.2.1 bt248.2.2.1 bt248.2.2.2.1 bt248.2.2.2.2.1 bt248.2.2.2.2.2.1 bt248.2.2.2.2.2.2.1).bind fun bt266 => (if bt230.2.2.2.2.2.2.2.isNone = true then (if bt230.2.2.2.2.2.1 = 15 then (if bt239.2.2.2.2.2.2.2 = true then (if bt239.2.2.2.1 = 1 then (if bt239.2.2.2.2.2.1 = 27 then (if bt248.2.2.2.2.2.2.2 = true then (if bt248.2.2.1 = 2 then (if bt248.2.2.2.1 = 1 then (if bt248.2.2.2.2.2.1 = 28 then (if bt257.2.2.2.2.2.2.2 = true then (if bt257.2.2.1 = 4 then (if bt266.2.2.1 = 2 then (if bt266.2.2.2.2 = true then ((saga_Right.f k t225 t226 bt248.1 bt248.2.1 bt248.2.2.1 bt248.2.2.2.1 bt248.2.2.2.2.1 bt248.2.2.2.2.2.1 bt248.2.2.2.2.2.2.1).bind fun t273 => (some t273)) else (some false)) else (some false)) else (some false)) else (some false)) else (some false)) else (some false)) else (some false)) else (some false)) else (some false)) else (some false)) else (some false)) else (some false)) else (some false))))))) = some r := H
 have A1 := Aside0.mk A10
 clear A10
 replace H := Option.bind_eq_some_iff.mp H
 obtain ⟨⟨t230, t231, t232, t233, t234, t235, t236, t237⟩, A20, H⟩ := H
 replace H : ((saga_Reply.f k t225 t226 t230 t231 t232 t233 t234 t235 t236 0 1 1 7).bind fun bt239 => ((saga_Reply.f k t225 t226 bt239.1 bt239.2.1 bt239.2.2.1 bt239.2.2.2.1 bt239.2.2.2.2.1 bt239.2.2.2.2.2.1 bt239.2.2.2.2.2.2.1 1 1 3 8).bind fun bt248 => ((saga_Reply.f k t225 t226 t230 t231 t232 t233 t234 t235 t236 0 1 2 6).bind fun bt257 => ((saga_Command.f bt248.1 bt248.2.1 bt248.2.2.1 bt248.2.2.2.1 bt248.2.2.2.2.1 bt248.2.2.2.2.2.1 bt248.2.2.2.2.2.2.1).bind fun bt266 => (if t237.isNone = true then (if t235 = 15 then (if bt239.2.2.2.2.2.2.2 = true then (if bt239.2.2.2.1 = 1 then (if bt239.2.2.2.2.2.1 = 27 then (if bt248.2.2.2.2.2.2.2 = true then (if bt248.2.2.1 = 2 then (if bt248.2.2.2.1 = 1 then (if bt248.2.2.2.2.2.1 = 28 then (if bt257.2.2.2.2.2.2.2 = true then (if bt257.2.2.1 = 4 then (if bt266.2.2.1 = 2 then (if bt266.2.2.2.2 = true then ((saga_Right.f k t225 t226 bt248.1 bt248.2.1 bt248.2.2.1 bt248.2.2.2.1 bt248.2.2.2.2.1 bt248.2.2.2.2.2.1 bt248.2.2.2.2.2.2.1).bind fun t273 => (some t273)) else (some false)) else (some false)) else (some false)) else (some false)) else (some false)) else (some false)) else (some false)) else (some false)) else (some false)) else (some false)) else (some false)) else (some false)) else (some false)))))) = some r := H
 have A2 := Aside0.mk A20
 clear A20
 replace H := Option.bind_eq_some_iff.mp H
 obtain ⟨⟨t239, t240, t241, t242, t243, t244, t245, t246⟩, A30, H⟩ := H
 replace H : ((saga_Reply.f k t225 t226 t239 t240 t241 t242 t243 t244 t245 1 1 3 8).bind fun bt248 => ((saga_Reply.f k t225 t226 t230 t231 t232 t233 t234 t235 t236 0 1 2 6).bind fun bt257 => ((saga_Command.f bt248.1 bt248.2.1 bt248.2.2.1 bt248.2.2.2.1 bt248.2.2.2.2.1 bt248.2.2.2.2.2.1 bt248.2.2.2.2.2.2.1).bind fun bt266 => (if t237.isNone = true then (if t235 = 15 then (if t246 = true then (if t242 = 1 then (if t244 = 27 then (if bt248.2.2.2.2.2.2.2 = true then (if bt248.2.2.1 = 2 then (if bt248.2.2.2.1 = 1 then (if bt248.2.2.2.2.2.1 = 28 then (if bt257.2.2.2.2.2.2.2 = true then (if bt257.2.2.1 = 4 then (if bt266.2.2.1 = 2 then (if bt266.2.2.2.2 = true then ((saga_Right.f k t225 t226 bt248.1 bt248.2.1 bt248.2.2.1 bt248.2.2.2.1 bt248.2.2.2.2.1 bt248.2.2.2.2.2.1 bt248.2.2.2.2.2.2.1).bind fun t273 => (some t273)) else (some false)) else (some false)) else (some false)) else (some false)) else (some false)) else (some false)) else (some false)) else (some false)) else (some false)) else (some false)) else (some false)) else (some false)) else (some false))))) = some r := H
 have A3 := Aside0.mk A30
 clear A30
 replace H := Option.bind_eq_some_iff.mp H
 obtain ⟨⟨t248, t249, t250, t251, t252, t253, t254, t255⟩, A40, H⟩ := H
 replace H : ((saga_Reply.f k t225 t226 t230 t231 t232 t233 t234 t235 t236 0 1 2 6).bind fun bt257 => ((saga_Command.f t248 t249 t250 t251 t252 t253 t254).bind fun bt266 => (if t237.isNone = true then (if t235 = 15 then (if t246 = true then (if t242 = 1 then (if t244 = 27 then (if t255 = true then (if t250 = 2 then (if t251 = 1 then (if t253 = 28 then (if bt257.2.2.2.2.2.2.2 = true then (if bt257.2.2.1 = 4 then (if bt266.2.2.1 = 2 then (if bt266.2.2.2.2 = true then ((saga_Right.f k t225 t226 t248 t249 t250 t251 t252 t253 t254).bind fun t273 => (some t273)) else (some false)) else (some false)) else (some false)) else (some false)) else (some false)) else (some false)) else (some false)) else (some false)) else (some false)) else (some false)) else (some false)) else (some false)) else (some false)))) = some r := H
 have A4 := Aside0.mk A40
 clear A40
 replace H := Option.bind_eq_some_iff.mp H
 obtain ⟨⟨t257, t258, t259, t260, t261, t262, t263, t264⟩, A50, H⟩ := H
 replace H : ((saga_Command.f t248 t249 t250 t251 t252 t253 t254).bind fun bt266 => (if t237.isNone = true then (if t235 = 15 then (if t246 = true then (if t242 = 1 then (if t244 = 27 then (if t255 = true then (if t250 = 2 then (if t251 = 1 then (if t253 = 28 then (if t264 = true then (if t259 = 4 then (if bt266.2.2.1 = 2 then (if bt266.2.2.2.2 = true then ((saga_Right.f k t225 t226 t248 t249 t250 t251 t252 t253 t254).bind fun t273 => (some t273)) else (some false)) else (some false)) else (some false)) else (some false)) else (some false)) else (some false)) else (some false)) else (some false)) else (some false)) else (some false)) else (some false)) else (some false)) else (some false))) = some r := H
 have A5 := Aside0.mk A50
 clear A50
 replace H := Option.bind_eq_some_iff.mp H
 obtain ⟨⟨t266, t267, t268, t269, t270⟩, A60, H⟩ := H
 replace H : (if t237.isNone = true then (if t235 = 15 then (if t246 = true then (if t242 = 1 then (if t244 = 27 then (if t255 = true then (if t250 = 2 then (if t251 = 1 then (if t253 = 28 then (if t264 = true then (if t259 = 4 then (if t268 = 2 then (if t270 = true then ((saga_Right.f k t225 t226 t248 t249 t250 t251 t252 t253 t254).bind fun t273 => (some t273)) else (some false)) else (some false)) else (some false)) else (some false)) else (some false)) else (some false)) else (some false)) else (some false)) else (some false)) else (some false)) else (some false)) else (some false)) else (some false)) = some r := H
 have A6 := Aside0.mk A60
 clear A60
 rcases t237 with _ | q272
 ·
  have H1 : (if t235 = 15 then (if t246 = true then (if t242 = 1 then (if t244 = 27 then (if t255 = true then (if t250 = 2 then (if t251 = 1 then (if t253 = 28 then (if t264 = true then (if t259 = 4 then (if t268 = 2 then (if t270 = true then ((saga_Right.f k t225 t226 t248 t249 t250 t251 t252 t253 t254).bind fun t273 => (some t273)) else (some false)) else (some false)) else (some false)) else (some false)) else (some false)) else (some false)) else (some false)) else (some false)) else (some false)) else (some false)) else (some false)) else (some false)) = some r := by rw [if_pos (show (none : Option Int).isNone = true by rfl)] at H; exact H
  clear H
  have H := H1
  clear H1
  try simp only [errW_none, errW_some]
  by_cases c7 : t235 = 15
  ·
   rw [if_pos c7] at H
   have c7b0 : (t235 == 15) = true := beq_iff_eq.mpr c7
   have c7b1 : (t235 != 15) = false := bne_eq_false_iff_eq.mpr c7
   clear c7
   by_cases c8 : t246 = true
   ·
    subst c8
    have H1 : (if t242 = 1 then (if t244 = 27 then (if t255 = true then (if t250 = 2 then (if t251 = 1 then (if t253 = 28 then (if t264 = true then (if t259 = 4 then (if t268 = 2 then (if t270 = true then ((saga_Right.f k t225 t226 t248 t249 t250 t251 t252 t253 t254).bind fun t273 => (some t273)) else (some false)) else (some false)) else (some false)) else (some false)) else (some false)) else (some false)) else (some false)) else (some false)) else (some false)) else (some false)) = some r := by rw [if_pos rfl] at H; exact H
    clear H
    have H := H1
    clear H1
    by_cases c9 : t242 = 1
    ·
     rw [if_pos c9] at H
     have c9b0 : (t242 == 1) = true := beq_iff_eq.mpr c9
     have c9b1 : (t242 != 1) = false := bne_eq_false_iff_eq.mpr c9
     clear c9
     by_cases c10 : t244 = 27
     ·
      rw [if_pos c10] at H
      have c10b0 : (t244 == 27) = true := beq_iff_eq.mpr c10
      have c10b1 : (t244 != 27) = false := bne_eq_false_iff_eq.mpr c10
      clear c10
      by_cases c11 : t255 = true
      ·
       subst c11
       have H1 : (if t250 = 2 then (if t251 = 1 then (if t253 = 28 then (if t264 = true then (if t259 = 4 then (if t268 = 2 then (if t270 = true then ((saga_Right.f k t225 t226 t248 t249 t250 t251 t252 t253 t254).bind fun t273 => (some t273)) else (some false)) else (some false)) else (some false)) else (some false)) else (some false)) else (some false)) else (some false)) = some r := by rw [if_pos rfl] at H; exact H
       clear H
       have H := H1
       clear H1
       by_cases c12 : t250 = 2
       ·
        rw [if_pos c12] at H
        have c12b0 : (t250 == 2) = true := beq_iff_eq.mpr c12
        have c12b1 : (t250 != 2) = false := bne_eq_false_iff_eq.mpr c12
        clear c12
        by_cases c13 : t251 = 1
        ·
         rw [if_pos c13] at H
         have c13b0 : (t251 == 1) = true := beq_iff_eq.mpr c13
         have c13b1 : (t251 != 1) = false := bne_eq_false_iff_eq.mpr c13
         clear c13
         by_cases c14 : t253 = 28
         ·
          rw [if_pos c14] at H
          have c14b0 : (t253 == 28) = true := beq_iff_eq.mpr c14
          have c14b1 : (t253 != 28) = false := bne_eq_false_iff_eq.mpr c14
          clear c14
          by_cases c15 : t264 = true
          ·
           subst c15
           have H1 : (if t259 = 4 then (if t268 = 2 then (if t270 = true then ((saga_Right.f k t225 t226 t248 t249 t250 t251 t252 t253 t254).bind fun t273 => (some t273)) else (some false)) else (some false)) else (some false)) = some r := by rw [if_pos rfl] at H; exact H
           clear H
           have H := H1
           clear H1
           by_cases c16 : t259 = 4
           ·
            rw [if_pos c16] at H
            have c16b0 : (t259 == 4) = true := beq_iff_eq.mpr c16
            have c16b1 : (t259 != 4) = false := bne_eq_false_iff_eq.mpr c16
            clear c16
            by_cases c17 : t268 = 2
            ·
             rw [if_pos c17] at H
             have c17b0 : (t268 == 2) = true := beq_iff_eq.mpr c17
             have c17b1 : (t268 != 2) = false := bne_eq_false_iff_eq.mpr c17
             clear c17
             by_cases c18 : t270 = true
             ·
              subst c18
              have H1 : ((saga_Right.f k t225 t226 t248 t249 t250 t251 t252 t253 t254).bind fun t273 => (some t273)) = some r := by rw [if_pos rfl] at H; exact H
              clear H
              have H := H1
              clear H1
              replace H := Option.bind_eq_some_iff.mp H
              obtain ⟨t273, A190, H⟩ := H
              replace H : (some t273) = some r := H
              have A19 := Aside0.mk A190
              clear A190
              obtain rfl := Option.some.inj H
              go_enter Try.func13, Try.ntmps13
              go_wp2_with (first | ((with_reducible refine gate_callee (f := 33) rfl ?_); refine goesL_ (some 12) rfl rfl Try.func33 (by kernel_rfl) rfl #[] rfl (by (try simp only [List.map_toArray, List.map_cons, List.map_nil]); first | done | rfl | (simp only [List.length_drop, List.length_take]; rfl)) ?_; (with_reducible refine (palinodelaw19_two.calls  t225 t226 _ A1.out).mono ?_); rintro e w20 ⟨v227, rfl, ho0, hb⟩; refine ⟨_, rfl, ?_⟩; have n0_ := Aside0.mk (Kd.R_lower ho0 (below_size (Yr HB))); have n1_ := Aside0.mk (Yv HB hb); clear HB; have HO228 := n0_; have HB := n1_; clear n0_ n1_; (try clear hb); (try clear hb2); (try clear hk); (try clear hi); (try clear ho0)) | ((with_reducible refine gate_dst (N := 1) rfl ?_); refine box_event ?hg (N := 1) ?hd (cs := #[.string (⟨#[]⟩ : ByteArray), .slice none 0 0]) (t := 24) ?hr ?_; (case hd => rfl); (case hg => rfl); (case hr => first | (go_simp; done) | (go_simp; rfl)); intro gb229 hg w21 hbox hb; have n0_ := Aside0.mk (Kd.R_below (by (with_reducible repeat (first | apply Kd.R_alloc | apply Kd.R_drewN | apply Kd.R_drew)); exact HO228.out) hb); have n1_ := Aside0.mk (Yv HB hb); have n2_ := Aside0.mk (hbox); have n3_ := Aside0.mk ((by rw [hg]; exact (below_size (Yr HB)) : w.heap.size ≤ gb229)); have n4_ := Aside0.mk ((by rw [hg]; exact (below_size (Yr HB)) : w.heap.size ≤ gb229)); clear HO228; clear HB; have HO228 := n0_; have HB := n1_; have BK229 := n2_; have GW229 := n3_; have GE229 := n4_; clear n0_ n1_ n2_ n3_ n4_; clear hb hbox hg; obtain ⟨⟨hcz22_0, hcz22_1⟩, hfz22_0, hfz22_1⟩ := Zk2 BK229; obtain ⟨Ao23, co23, eo23⟩ := Kd.R_slice HO228.out; subst eo23) | ((with_reducible refine gate_callee (f := 14) rfl ?_); refine goesL_ (some 15) rfl rfl Try.func14 (by kernel_rfl) rfl #[.agg #[.string t225, .slice Ao23 t226.length co23], .string (⟨#[97]⟩ : ByteArray), .int .i64 5] rfl (by (try simp only [List.map_toArray, List.map_cons, List.map_nil]); first | done | rfl | (simp only [List.length_drop, List.length_take]; rfl)) ?_; (with_reducible refine (saga_Begin.calls k t225 _ _ t226 (⟨#[97]⟩ : ByteArray) 5 t230 t231 t232 t233 t234 t235 t236 none _ ?side1 ?side2 A2.out).mono ?_); (case side1 => refine (Kd.R_reads' (e := 53) (base := w.heap.size) (ok := fun k_ => True) (n := t226.length) (c := co23) ?_).2.2; exact (by (with_reducible repeat (first | apply Kd.R_alloc | apply Kd.R_drewN | apply Kd.R_drew)); exact (Kd.R_mono (Kd.R_far (p := ⟨gb229, 1, none⟩) (Kd.R_far (p := ⟨gb229, 0, none⟩) (Kd.R_types HO228.out BK229.out (by decide)) (fun _ hk => hk.2) (.string t225)) (fun _ hk => hk.2) (.slice Ao23 t226.length co23)) (fun _ h_ => h_.1)))); (case side2 => exact (Kd.R_reads' HO228.out).2.1); rintro e w24 ⟨rfl, hb⟩; refine ⟨_, rfl, ?_⟩; have n0_ := Aside0.mk (Kd.R_below (by (with_reducible repeat (first | apply Kd.R_alloc | apply Kd.R_drewN | apply Kd.R_drew)); exact (Kd.R_mono (Kd.R_far (p := ⟨gb229, 1, none⟩) (Kd.R_far (p := ⟨gb229, 0, none⟩) (Kd.R_types HO228.out BK229.out (by decide)) (fun _ hk => hk.2) (.string t225)) (fun _ hk => hk.2) (.slice Ao23 t226.length co23)) (fun _ h_ => h_.1))) hb); have n1_ := Aside0.mk (Zb (g := gb229) (o := .cells #[.string t225, .slice Ao23 t226.length co23] 24 (0, 0)) (by (with_reducible repeat (first | refine Zn ?_ _ | refine Zd ?_ | refine Za ?_ _)); refine Zp (cs := #[.string t225, .slice none 0 0]) ?_ 1 _ rfl; (with_reducible repeat (first | refine Zn ?_ _ | refine Zd ?_ | refine Za ?_ _)); refine Zp (cs := #[.string (⟨#[]⟩ : ByteArray), .slice none 0 0]) ?_ 0 _ rfl; (with_reducible repeat (first | refine Zn ?_ _ | refine Zd ?_ | refine Za ?_ _)); exact BK229.out) hb); have n2_ := Aside0.mk (Yv HB hb); clear HO228; clear BK229; clear HB; have HO228 := n0_; have BK229 := n1_; have HB := n2_; clear n0_ n1_ n2_; (try clear hb); (try clear hb2); (try clear hk); (try clear hi); (try simp only [errW_none, errW_some])) | ((with_reducible refine gate_dst (N := 2) rfl ?_); refine box_event ?hg (N := 2) ?hd (cs := #[.string (⟨#[]⟩ : ByteArray), .string (⟨#[]⟩ : ByteArray), .int .i64 0, .int .i64 0, .int .i64 0, .int .i64 0, .bool false]) (t := 26) ?hr ?_; (case hd => rfl); (case hg => rfl); (case hr => first | (go_simp; done) | (go_simp; rfl)); intro gb238 hg w25 hbox hb; have n0_ := Aside0.mk (Kd.R_below (by (with_reducible repeat (first | apply Kd.R_alloc | apply Kd.R_drewN | apply Kd.R_drew)); exact HO228.out) hb); have n1_ := Aside0.mk (Zv BK229 hb); have n2_ := Aside0.mk (Yv HB hb); have n3_ := Aside0.mk (hbox); have n4_ := Aside0.mk ((by rw [hg]; exact (below_size (Yr HB)) : w.heap.size ≤ gb238)); have n5_ := Aside0.mk ((by rw [hg]; exact (below_size (Yr HB)) : w.heap.size ≤ gb238)); have n6_ := Aside0.mk ((by rw [hg]; exact Nat.ne_of_lt (blk_lt (g := gb229) (o := .cells #[.string t225, .slice Ao23 t226.length co23] 24 (0, 0)) (Zr BK229)) : gb229 ≠ gb238)); have n7_ := Aside0.mk ((by rw [hg]; exact Nat.ne_of_gt (blk_lt (g := gb229) (o := .cells #[.string t225, .slice Ao23 t226.length co23] 24 (0, 0)) (Zr BK229)) : gb238 ≠ gb229)); clear HO228; clear BK229; clear HB; have HO228 := n0_; have BK229 := n1_; have HB := n2_; have BK238 := n3_; have GW238 := n4_; have GE238 := n5_; have NB229_238 := n6_; have NB238_229 := n7_; clear n0_ n1_ n2_ n3_ n4_ n5_ n6_ n7_; clear hb hbox hg; have hnb26 := NB238_229.out; have hnc26 := NB229_238.out; obtain ⟨⟨hcz27_0, hcz27_1, hcz27_2, hcz27_3, hcz27_4, hcz27_5, hcz27_6⟩, hfz27_0, hfz27_1, hfz27_2, hfz27_3, hfz27_4, hfz27_5, hfz27_6⟩ := Zk7 BK238; obtain ⟨⟨hcz28_0, hcz28_1⟩, hfz28_0, hfz28_1⟩ := Zk2 BK229) | ((with_reducible refine gate_callee (f := 23) rfl ?_); refine goesL_ (some 21) rfl rfl Try.func23 (by kernel_rfl) rfl #[.agg #[.string t225, .slice Ao23 t226.length co23], .agg #[.string t230, .string t231, .int .i64 t232, .int .i64 t233, .int .i64 t234, .int .i64 t235, .bool t236], .int .i64 0, .int .i64 1, .int .i64 1, .int .i64 7] rfl (by (try simp only [List.map_toArray, List.map_cons, List.map_nil]); first | done | rfl | (simp only [List.length_drop, List.length_take]; rfl)) ?_; (with_reducible refine (saga_Reply.calls k t225 _ _ t226 t230 t231 t232 t233 t234 t235 t236 0 1 1 7 t239 t240 t241 t242 t243 t244 t245 true _ ?side1 ?side2 A3.out).mono ?_); (case side1 => refine (Kd.R_reads' (e := 53) (base := w.heap.size) (ok := fun k_ => True) (n := t226.length) (c := co23) ?_).2.2; exact (by (with_reducible repeat (first | apply Kd.R_alloc | apply Kd.R_drewN | apply Kd.R_drew)); exact (Kd.R_mono (Kd.R_far (p := ⟨gb238, 6, none⟩) (Kd.R_far (p := ⟨gb238, 5, none⟩) (Kd.R_far (p := ⟨gb238, 4, none⟩) (Kd.R_far (p := ⟨gb238, 3, none⟩) (Kd.R_far (p := ⟨gb238, 2, none⟩) (Kd.R_far (p := ⟨gb238, 1, none⟩) (Kd.R_far (p := ⟨gb238, 0, none⟩) (Kd.R_types HO228.out BK238.out (by decide)) (fun _ hk => hk.2) (.string t230)) (fun _ hk => hk.2) (.string t231)) (fun _ hk => hk.2) (.int .i64 t232)) (fun _ hk => hk.2) (.int .i64 t233)) (fun _ hk => hk.2) (.int .i64 t234)) (fun _ hk => hk.2) (.int .i64 t235)) (fun _ hk => hk.2) (.bool t236)) (fun _ h_ => h_.1)))); (case side2 => exact (Kd.R_reads' HO228.out).2.1); rintro e w29 ⟨rfl, hb⟩; refine ⟨_, rfl, ?_⟩; have n0_ := Aside0.mk (Kd.R_below (by (with_reducible repeat (first | apply Kd.R_alloc | apply Kd.R_drewN | apply Kd.R_drew)); exact (Kd.R_mono (Kd.R_far (p := ⟨gb238, 6, none⟩) (Kd.R_far (p := ⟨gb238, 5, none⟩) (Kd.R_far (p := ⟨gb238, 4, none⟩) (Kd.R_far (p := ⟨gb238, 3, none⟩) (Kd.R_far (p := ⟨gb238, 2, none⟩) (Kd.R_far (p := ⟨gb238, 1, none⟩) (Kd.R_far (p := ⟨gb238, 0, none⟩) (Kd.R_types HO228.out BK238.out (by decide)) (fun _ hk => hk.2) (.string t230)) (fun _ hk => hk.2) (.string t231)) (fun _ hk => hk.2) (.int .i64 t232)) (fun _ hk => hk.2) (.int .i64 t233)) (fun _ hk => hk.2) (.int .i64 t234)) (fun _ hk => hk.2) (.int .i64 t235)) (fun _ hk => hk.2) (.bool t236)) (fun _ h_ => h_.1))) hb); have n1_ := Aside0.mk (Zv BK229 hb); have n2_ := Aside0.mk (Zb (g := gb238) (o := .cells #[.string t230, .string t231, .int .i64 t232, .int .i64 t233, .int .i64 t234, .int .i64 t235, .bool t236] 26 (0, 0)) (by (with_reducible repeat (first | refine Zn ?_ _ | refine Zd ?_ | refine Za ?_ _)); refine Zp (cs := #[.string t230, .string t231, .int .i64 t232, .int .i64 t233, .int .i64 t234, .int .i64 t235, .bool false]) ?_ 6 _ rfl; (with_reducible repeat (first | refine Zn ?_ _ | refine Zd ?_ | refine Za ?_ _)); refine Zp (cs := #[.string t230, .string t231, .int .i64 t232, .int .i64 t233, .int .i64 t234, .int .i64 0, .bool false]) ?_ 5 _ rfl; (with_reducible repeat (first | refine Zn ?_ _ | refine Zd ?_ | refine Za ?_ _)); refine Zp (cs := #[.string t230, .string t231, .int .i64 t232, .int .i64 t233, .int .i64 0, .int .i64 0, .bool false]) ?_ 4 _ rfl; (with_reducible repeat (first | refine Zn ?_ _ | refine Zd ?_ | refine Za ?_ _)); refine Zp (cs := #[.string t230, .string t231, .int .i64 t232, .int .i64 0, .int .i64 0, .int .i64 0, .bool false]) ?_ 3 _ rfl; (with_reducible repeat (first | refine Zn ?_ _ | refine Zd ?_ | refine Za ?_ _)); refine Zp (cs := #[.string t230, .string t231, .int .i64 0, .int .i64 0, .int .i64 0, .int .i64 0, .bool false]) ?_ 2 _ rfl; (with_reducible repeat (first | refine Zn ?_ _ | refine Zd ?_ | refine Za ?_ _)); refine Zp (cs := #[.string t230, .string (⟨#[]⟩ : ByteArray), .int .i64 0, .int .i64 0, .int .i64 0, .int .i64 0, .bool false]) ?_ 1 _ rfl; (with_reducible repeat (first | refine Zn ?_ _ | refine Zd ?_ | refine Za ?_ _)); refine Zp (cs := #[.string (⟨#[]⟩ : ByteArray), .string (⟨#[]⟩ : ByteArray), .int .i64 0, .int .i64 0, .int .i64 0, .int .i64 0, .bool false]) ?_ 0 _ rfl; (with_reducible repeat (first | refine Zn ?_ _ | refine Zd ?_ | refine Za ?_ _)); exact BK238.out) hb); have n3_ := Aside0.mk (Yv HB hb); clear HO228; clear BK229; clear BK238; clear HB; have HO228 := n0_; have BK229 := n1_; have BK238 := n2_; have HB := n3_; clear n0_ n1_ n2_ n3_; (try clear hb); (try clear hb2); (try clear hk); (try clear hi)) | ((with_reducible refine gate_dst (N := 4) rfl ?_); refine box_event ?hg (N := 4) ?hd (cs := #[.string (⟨#[]⟩ : ByteArray), .string (⟨#[]⟩ : ByteArray), .int .i64 0, .int .i64 0, .int .i64 0, .int .i64 0, .bool false]) (t := 26) ?hr ?_; (case hd => rfl); (case hg => rfl); (case hr => first | (go_simp; done) | (go_simp; rfl)); intro gb247 hg w30 hbox hb; have n0_ := Aside0.mk (Kd.R_below (by (with_reducible repeat (first | apply Kd.R_alloc | apply Kd.R_drewN | apply Kd.R_drew)); exact HO228.out) hb); have n1_ := Aside0.mk (Zv BK229 hb); have n2_ := Aside0.mk (Zv BK238 hb); have n3_ := Aside0.mk (Yv HB hb); have n4_ := Aside0.mk (hbox); have n5_ := Aside0.mk ((by rw [hg]; exact (below_size (Yr HB)) : w.heap.size ≤ gb247)); have n6_ := Aside0.mk ((by rw [hg]; exact (below_size (Yr HB)) : w.heap.size ≤ gb247)); have n7_ := Aside0.mk ((by rw [hg]; exact Nat.ne_of_lt (blk_lt (g := gb229) (o := .cells #[.string t225, .slice Ao23 t226.length co23] 24 (0, 0)) (Zr BK229)) : gb229 ≠ gb247)); have n8_ := Aside0.mk ((by rw [hg]; exact Nat.ne_of_gt (blk_lt (g := gb229) (o := .cells #[.string t225, .slice Ao23 t226.length co23] 24 (0, 0)) (Zr BK229)) : gb247 ≠ gb229)); have n9_ := Aside0.mk ((by rw [hg]; exact Nat.ne_of_lt (blk_lt (g := gb238) (o := .cells #[.string t230, .string t231, .int .i64 t232, .int .i64 t233, .int .i64 t234, .int .i64 t235, .bool t236] 26 (0, 0)) (Zr BK238)) : gb238 ≠ gb247)); have n10_ := Aside0.mk ((by rw [hg]; exact Nat.ne_of_gt (blk_lt (g := gb238) (o := .cells #[.string t230, .string t231, .int .i64 t232, .int .i64 t233, .int .i64 t234, .int .i64 t235, .bool t236] 26 (0, 0)) (Zr BK238)) : gb247 ≠ gb238)); clear HO228; clear BK229; clear BK238; clear HB; have HO228 := n0_; have BK229 := n1_; have BK238 := n2_; have HB := n3_; have BK247 := n4_; have GW247 := n5_; have GE247 := n6_; have NB229_247 := n7_; have NB247_229 := n8_; have NB238_247 := n9_; have NB247_238 := n10_; clear n0_ n1_ n2_ n3_ n4_ n5_ n6_ n7_ n8_ n9_ n10_; clear hb hbox hg; have hnb31 := NB247_229.out; have hnc31 := NB229_247.out; have hnb32 := NB247_238.out; have hnc32 := NB238_247.out; obtain ⟨⟨hcz33_0, hcz33_1, hcz33_2, hcz33_3, hcz33_4, hcz33_5, hcz33_6⟩, hfz33_0, hfz33_1, hfz33_2, hfz33_3, hfz33_4, hfz33_5, hfz33_6⟩ := Zk7 BK247; obtain ⟨⟨hcz34_0, hcz34_1⟩, hfz34_0, hfz34_1⟩ := Zk2 BK229) | ((with_reducible refine gate_callee (f := 23) rfl ?_); refine goesL_ (some 27) rfl rfl Try.func23 (by kernel_rfl) rfl #[.agg #[.string t225, .slice Ao23 t226.length co23], .agg #[.string t239, .string t240, .int .i64 t241, .int .i64 t242, .int .i64 t243, .int .i64 t244, .bool t245], .int .i64 1, .int .i64 1, .int .i64 3, .int .i64 8] rfl (by (try simp only [List.map_toArray, List.map_cons, List.map_nil]); first | done | rfl | (simp only [List.length_drop, List.length_take]; rfl)) ?_; (with_reducible refine (saga_Reply.calls k t225 _ _ t226 t239 t240 t241 t242 t243 t244 t245 1 1 3 8 t248 t249 t250 t251 t252 t253 t254 true _ ?side1 ?side2 A4.out).mono ?_); (case side1 => refine (Kd.R_reads' (e := 53) (base := w.heap.size) (ok := fun k_ => True) (n := t226.length) (c := co23) ?_).2.2; exact (by (with_reducible repeat (first | apply Kd.R_alloc | apply Kd.R_drewN | apply Kd.R_drew)); exact (Kd.R_mono (Kd.R_far (p := ⟨gb247, 6, none⟩) (Kd.R_far (p := ⟨gb247, 5, none⟩) (Kd.R_far (p := ⟨gb247, 4, none⟩) (Kd.R_far (p := ⟨gb247, 3, none⟩) (Kd.R_far (p := ⟨gb247, 2, none⟩) (Kd.R_far (p := ⟨gb247, 1, none⟩) (Kd.R_far (p := ⟨gb247, 0, none⟩) (Kd.R_types HO228.out BK247.out (by decide)) (fun _ hk => hk.2) (.string t239)) (fun _ hk => hk.2) (.string t240)) (fun _ hk => hk.2) (.int .i64 t241)) (fun _ hk => hk.2) (.int .i64 t242)) (fun _ hk => hk.2) (.int .i64 t243)) (fun _ hk => hk.2) (.int .i64 t244)) (fun _ hk => hk.2) (.bool t245)) (fun _ h_ => h_.1)))); (case side2 => exact (Kd.R_reads' HO228.out).2.1); rintro e w35 ⟨rfl, hb⟩; refine ⟨_, rfl, ?_⟩; have n0_ := Aside0.mk (Kd.R_below (by (with_reducible repeat (first | apply Kd.R_alloc | apply Kd.R_drewN | apply Kd.R_drew)); exact (Kd.R_mono (Kd.R_far (p := ⟨gb247, 6, none⟩) (Kd.R_far (p := ⟨gb247, 5, none⟩) (Kd.R_far (p := ⟨gb247, 4, none⟩) (Kd.R_far (p := ⟨gb247, 3, none⟩) (Kd.R_far (p := ⟨gb247, 2, none⟩) (Kd.R_far (p := ⟨gb247, 1, none⟩) (Kd.R_far (p := ⟨gb247, 0, none⟩) (Kd.R_types HO228.out BK247.out (by decide)) (fun _ hk => hk.2) (.string t239)) (fun _ hk => hk.2) (.string t240)) (fun _ hk => hk.2) (.int .i64 t241)) (fun _ hk => hk.2) (.int .i64 t242)) (fun _ hk => hk.2) (.int .i64 t243)) (fun _ hk => hk.2) (.int .i64 t244)) (fun _ hk => hk.2) (.bool t245)) (fun _ h_ => h_.1))) hb); have n1_ := Aside0.mk (Zv BK229 hb); have n2_ := Aside0.mk (Zv BK238 hb); have n3_ := Aside0.mk (Zb (g := gb247) (o := .cells #[.string t239, .string t240, .int .i64 t241, .int .i64 t242, .int .i64 t243, .int .i64 t244, .bool t245] 26 (0, 0)) (by (with_reducible repeat (first | refine Zn ?_ _ | refine Zd ?_ | refine Za ?_ _)); refine Zp (cs := #[.string t239, .string t240, .int .i64 t241, .int .i64 t242, .int .i64 t243, .int .i64 t244, .bool false]) ?_ 6 _ rfl; (with_reducible repeat (first | refine Zn ?_ _ | refine Zd ?_ | refine Za ?_ _)); refine Zp (cs := #[.string t239, .string t240, .int .i64 t241, .int .i64 t242, .int .i64 t243, .int .i64 0, .bool false]) ?_ 5 _ rfl; (with_reducible repeat (first | refine Zn ?_ _ | refine Zd ?_ | refine Za ?_ _)); refine Zp (cs := #[.string t239, .string t240, .int .i64 t241, .int .i64 t242, .int .i64 0, .int .i64 0, .bool false]) ?_ 4 _ rfl; (with_reducible repeat (first | refine Zn ?_ _ | refine Zd ?_ | refine Za ?_ _)); refine Zp (cs := #[.string t239, .string t240, .int .i64 t241, .int .i64 0, .int .i64 0, .int .i64 0, .bool false]) ?_ 3 _ rfl; (with_reducible repeat (first | refine Zn ?_ _ | refine Zd ?_ | refine Za ?_ _)); refine Zp (cs := #[.string t239, .string t240, .int .i64 0, .int .i64 0, .int .i64 0, .int .i64 0, .bool false]) ?_ 2 _ rfl; (with_reducible repeat (first | refine Zn ?_ _ | refine Zd ?_ | refine Za ?_ _)); refine Zp (cs := #[.string t239, .string (⟨#[]⟩ : ByteArray), .int .i64 0, .int .i64 0, .int .i64 0, .int .i64 0, .bool false]) ?_ 1 _ rfl; (with_reducible repeat (first | refine Zn ?_ _ | refine Zd ?_ | refine Za ?_ _)); refine Zp (cs := #[.string (⟨#[]⟩ : ByteArray), .string (⟨#[]⟩ : ByteArray), .int .i64 0, .int .i64 0, .int .i64 0, .int .i64 0, .bool false]) ?_ 0 _ rfl; (with_reducible repeat (first | refine Zn ?_ _ | refine Zd ?_ | refine Za ?_ _)); exact BK247.out) hb); have n4_ := Aside0.mk (Yv HB hb); clear HO228; clear BK229; clear BK238; clear BK247; clear HB; have HO228 := n0_; have BK229 := n1_; have BK238 := n2_; have BK247 := n3_; have HB := n4_; clear n0_ n1_ n2_ n3_ n4_; (try clear hb); (try clear hb2); (try clear hk); (try clear hi)) | ((with_reducible refine gate_dst (N := 6) rfl ?_); refine box_event ?hg (N := 6) ?hd (cs := #[.string (⟨#[]⟩ : ByteArray), .string (⟨#[]⟩ : ByteArray), .int .i64 0, .int .i64 0, .int .i64 0, .int .i64 0, .bool false]) (t := 26) ?hr ?_; (case hd => rfl); (case hg => rfl); (case hr => first | (go_simp; done) | (go_simp; rfl)); intro gb256 hg w36 hbox hb; have n0_ := Aside0.mk (Kd.R_below (by (with_reducible repeat (first | apply Kd.R_alloc | apply Kd.R_drewN | apply Kd.R_drew)); exact HO228.out) hb); have n1_ := Aside0.mk (Zv BK229 hb); have n2_ := Aside0.mk (Zv BK238 hb); have n3_ := Aside0.mk (Zv BK247 hb); have n4_ := Aside0.mk (Yv HB hb); have n5_ := Aside0.mk (hbox); have n6_ := Aside0.mk ((by rw [hg]; exact (below_size (Yr HB)) : w.heap.size ≤ gb256)); have n7_ := Aside0.mk ((by rw [hg]; exact (below_size (Yr HB)) : w.heap.size ≤ gb256)); have n8_ := Aside0.mk ((by rw [hg]; exact Nat.ne_of_lt (blk_lt (g := gb229) (o := .cells #[.string t225, .slice Ao23 t226.length co23] 24 (0, 0)) (Zr BK229)) : gb229 ≠ gb256)); have n9_ := Aside0.mk ((by rw [hg]; exact Nat.ne_of_gt (blk_lt (g := gb229) (o := .cells #[.string t225, .slice Ao23 t226.length co23] 24 (0, 0)) (Zr BK229)) : gb256 ≠ gb229)); have n10_ := Aside0.mk ((by rw [hg]; exact Nat.ne_of_lt (blk_lt (g := gb238) (o := .cells #[.string t230, .string t231, .int .i64 t232, .int .i64 t233, .int .i64 t234, .int .i64 t235, .bool t236] 26 (0, 0)) (Zr BK238)) : gb238 ≠ gb256)); have n11_ := Aside0.mk ((by rw [hg]; exact Nat.ne_of_gt (blk_lt (g := gb238) (o := .cells #[.string t230, .string t231, .int .i64 t232, .int .i64 t233, .int .i64 t234, .int .i64 t235, .bool t236] 26 (0, 0)) (Zr BK238)) : gb256 ≠ gb238)); have n12_ := Aside0.mk ((by rw [hg]; exact Nat.ne_of_lt (blk_lt (g := gb247) (o := .cells #[.string t239, .string t240, .int .i64 t241, .int .i64 t242, .int .i64 t243, .int .i64 t244, .bool t245] 26 (0, 0)) (Zr BK247)) : gb247 ≠ gb256)); have n13_ := Aside0.mk ((by rw [hg]; exact Nat.ne_of_gt (blk_lt (g := gb247) (o := .cells #[.string t239, .string t240, .int .i64 t241, .int .i64 t242, .int .i64 t243, .int .i64 t244, .bool t245] 26 (0, 0)) (Zr BK247)) : gb256 ≠ gb247)); clear HO228; clear BK229; clear BK238; clear BK247; clear HB; have HO228 := n0_; have BK229 := n1_; have BK238 := n2_; have BK247 := n3_; have HB := n4_; have BK256 := n5_; have GW256 := n6_; have GE256 := n7_; have NB229_256 := n8_; have NB256_229 := n9_; have NB238_256 := n10_; have NB256_238 := n11_; have NB247_256 := n12_; have NB256_247 := n13_; clear n0_ n1_ n2_ n3_ n4_ n5_ n6_ n7_ n8_ n9_ n10_ n11_ n12_ n13_; clear hb hbox hg; have hnb37 := NB256_229.out; have hnc37 := NB229_256.out; have hnb38 := NB256_238.out; have hnc38 := NB238_256.out; have hnb39 := NB256_247.out; have hnc39 := NB247_256.out; obtain ⟨⟨hcz40_0, hcz40_1, hcz40_2, hcz40_3, hcz40_4, hcz40_5, hcz40_6⟩, hfz40_0, hfz40_1, hfz40_2, hfz40_3, hfz40_4, hfz40_5, hfz40_6⟩ := Zk7 BK256; obtain ⟨⟨hcz41_0, hcz41_1⟩, hfz41_0, hfz41_1⟩ := Zk2 BK229; obtain ⟨⟨hcz42_0, hcz42_1, hcz42_2, hcz42_3, hcz42_4, hcz42_5, hcz42_6⟩, hfz42_0, hfz42_1, hfz42_2, hfz42_3, hfz42_4, hfz42_5, hfz42_6⟩ := Zk7 BK238) | ((with_reducible refine gate_callee (f := 23) rfl ?_); refine goesL_ (some 33) rfl rfl Try.func23 (by kernel_rfl) rfl #[.agg #[.string t225, .slice Ao23 t226.length co23], .agg #[.string t230, .string t231, .int .i64 t232, .int .i64 t233, .int .i64 t234, .int .i64 t235, .bool t236], .int .i64 0, .int .i64 1, .int .i64 2, .int .i64 6] rfl (by (try simp only [List.map_toArray, List.map_cons, List.map_nil]); first | done | rfl | (simp only [List.length_drop, List.length_take]; rfl)) ?_; (with_reducible refine (saga_Reply.calls k t225 _ _ t226 t230 t231 t232 t233 t234 t235 t236 0 1 2 6 t257 t258 t259 t260 t261 t262 t263 true _ ?side1 ?side2 A5.out).mono ?_); (case side1 => refine (Kd.R_reads' (e := 53) (base := w.heap.size) (ok := fun k_ => True) (n := t226.length) (c := co23) ?_).2.2; exact (by (with_reducible repeat (first | apply Kd.R_alloc | apply Kd.R_drewN | apply Kd.R_drew)); exact (Kd.R_mono (Kd.R_far (p := ⟨gb256, 6, none⟩) (Kd.R_far (p := ⟨gb256, 5, none⟩) (Kd.R_far (p := ⟨gb256, 4, none⟩) (Kd.R_far (p := ⟨gb256, 3, none⟩) (Kd.R_far (p := ⟨gb256, 2, none⟩) (Kd.R_far (p := ⟨gb256, 1, none⟩) (Kd.R_far (p := ⟨gb256, 0, none⟩) (Kd.R_types HO228.out BK256.out (by decide)) (fun _ hk => hk.2) (.string t248)) (fun _ hk => hk.2) (.string t249)) (fun _ hk => hk.2) (.int .i64 t250)) (fun _ hk => hk.2) (.int .i64 t251)) (fun _ hk => hk.2) (.int .i64 t252)) (fun _ hk => hk.2) (.int .i64 t253)) (fun _ hk => hk.2) (.bool t254)) (fun _ h_ => h_.1)))); (case side2 => exact (Kd.R_reads' HO228.out).2.1); rintro e w43 ⟨rfl, hb⟩; refine ⟨_, rfl, ?_⟩; have n0_ := Aside0.mk (Kd.R_below (by (with_reducible repeat (first | apply Kd.R_alloc | apply Kd.R_drewN | apply Kd.R_drew)); exact (Kd.R_mono (Kd.R_far (p := ⟨gb256, 6, none⟩) (Kd.R_far (p := ⟨gb256, 5, none⟩) (Kd.R_far (p := ⟨gb256, 4, none⟩) (Kd.R_far (p := ⟨gb256, 3, none⟩) (Kd.R_far (p := ⟨gb256, 2, none⟩) (Kd.R_far (p := ⟨gb256, 1, none⟩) (Kd.R_far (p := ⟨gb256, 0, none⟩) (Kd.R_types HO228.out BK256.out (by decide)) (fun _ hk => hk.2) (.string t248)) (fun _ hk => hk.2) (.string t249)) (fun _ hk => hk.2) (.int .i64 t250)) (fun _ hk => hk.2) (.int .i64 t251)) (fun _ hk => hk.2) (.int .i64 t252)) (fun _ hk => hk.2) (.int .i64 t253)) (fun _ hk => hk.2) (.bool t254)) (fun _ h_ => h_.1))) hb); have n1_ := Aside0.mk (Zv BK229 hb); have n2_ := Aside0.mk (Zv BK238 hb); have n3_ := Aside0.mk (Zv BK247 hb); have n4_ := Aside0.mk (Zb (g := gb256) (o := .cells #[.string t248, .string t249, .int .i64 t250, .int .i64 t251, .int .i64 t252, .int .i64 t253, .bool t254] 26 (0, 0)) (by (with_reducible repeat (first | refine Zn ?_ _ | refine Zd ?_ | refine Za ?_ _)); refine Zp (cs := #[.string t248, .string t249, .int .i64 t250, .int .i64 t251, .int .i64 t252, .int .i64 t253, .bool false]) ?_ 6 _ rfl; (with_reducible repeat (first | refine Zn ?_ _ | refine Zd ?_ | refine Za ?_ _)); refine Zp (cs := #[.string t248, .string t249, .int .i64 t250, .int .i64 t251, .int .i64 t252, .int .i64 0, .bool false]) ?_ 5 _ rfl; (with_reducible repeat (first | refine Zn ?_ _ | refine Zd ?_ | refine Za ?_ _)); refine Zp (cs := #[.string t248, .string t249, .int .i64 t250, .int .i64 t251, .int .i64 0, .int .i64 0, .bool false]) ?_ 4 _ rfl; (with_reducible repeat (first | refine Zn ?_ _ | refine Zd ?_ | refine Za ?_ _)); refine Zp (cs := #[.string t248, .string t249, .int .i64 t250, .int .i64 0, .int .i64 0, .int .i64 0, .bool false]) ?_ 3 _ rfl; (with_reducible repeat (first | refine Zn ?_ _ | refine Zd ?_ | refine Za ?_ _)); refine Zp (cs := #[.string t248, .string t249, .int .i64 0, .int .i64 0, .int .i64 0, .int .i64 0, .bool false]) ?_ 2 _ rfl; (with_reducible repeat (first | refine Zn ?_ _ | refine Zd ?_ | refine Za ?_ _)); refine Zp (cs := #[.string t248, .string (⟨#[]⟩ : ByteArray), .int .i64 0, .int .i64 0, .int .i64 0, .int .i64 0, .bool false]) ?_ 1 _ rfl; (with_reducible repeat (first | refine Zn ?_ _ | refine Zd ?_ | refine Za ?_ _)); refine Zp (cs := #[.string (⟨#[]⟩ : ByteArray), .string (⟨#[]⟩ : ByteArray), .int .i64 0, .int .i64 0, .int .i64 0, .int .i64 0, .bool false]) ?_ 0 _ rfl; (with_reducible repeat (first | refine Zn ?_ _ | refine Zd ?_ | refine Za ?_ _)); exact BK256.out) hb); have n5_ := Aside0.mk (Yv HB hb); clear HO228; clear BK229; clear BK238; clear BK247; clear BK256; clear HB; have HO228 := n0_; have BK229 := n1_; have BK238 := n2_; have BK247 := n3_; have BK256 := n4_; have HB := n5_; clear n0_ n1_ n2_ n3_ n4_ n5_; (try clear hb); (try clear hb2); (try clear hk); (try clear hi)) | ((with_reducible refine gate_dst (N := 8) rfl ?_); refine box_event ?hg (N := 8) ?hd (cs := #[.string (⟨#[]⟩ : ByteArray), .string (⟨#[]⟩ : ByteArray), .int .i64 0, .int .i64 0, .int .i64 0, .int .i64 0, .bool false]) (t := 26) ?hr ?_; (case hd => rfl); (case hg => rfl); (case hr => first | (go_simp; done) | (go_simp; rfl)); intro gb265 hg w44 hbox hb; have n0_ := Aside0.mk (Kd.R_below (by (with_reducible repeat (first | apply Kd.R_alloc | apply Kd.R_drewN | apply Kd.R_drew)); exact HO228.out) hb); have n1_ := Aside0.mk (Zv BK229 hb); have n2_ := Aside0.mk (Zv BK238 hb); have n3_ := Aside0.mk (Zv BK247 hb); have n4_ := Aside0.mk (Zv BK256 hb); have n5_ := Aside0.mk (Yv HB hb); have n6_ := Aside0.mk (hbox); have n7_ := Aside0.mk ((by rw [hg]; exact (below_size (Yr HB)) : w.heap.size ≤ gb265)); have n8_ := Aside0.mk ((by rw [hg]; exact (below_size (Yr HB)) : w.heap.size ≤ gb265)); have n9_ := Aside0.mk ((by rw [hg]; exact Nat.ne_of_lt (blk_lt (g := gb229) (o := .cells #[.string t225, .slice Ao23 t226.length co23] 24 (0, 0)) (Zr BK229)) : gb229 ≠ gb265)); have n10_ := Aside0.mk ((by rw [hg]; exact Nat.ne_of_gt (blk_lt (g := gb229) (o := .cells #[.string t225, .slice Ao23 t226.length co23] 24 (0, 0)) (Zr BK229)) : gb265 ≠ gb229)); have n11_ := Aside0.mk ((by rw [hg]; exact Nat.ne_of_lt (blk_lt (g := gb238) (o := .cells #[.string t230, .string t231, .int .i64 t232, .int .i64 t233, .int .i64 t234, .int .i64 t235, .bool t236] 26 (0, 0)) (Zr BK238)) : gb238 ≠ gb265)); have n12_ := Aside0.mk ((by rw [hg]; exact Nat.ne_of_gt (blk_lt (g := gb238) (o := .cells #[.string t230, .string t231, .int .i64 t232, .int .i64 t233, .int .i64 t234, .int .i64 t235, .bool t236] 26 (0, 0)) (Zr BK238)) : gb265 ≠ gb238)); have n13_ := Aside0.mk ((by rw [hg]; exact Nat.ne_of_lt (blk_lt (g := gb247) (o := .cells #[.string t239, .string t240, .int .i64 t241, .int .i64 t242, .int .i64 t243, .int .i64 t244, .bool t245] 26 (0, 0)) (Zr BK247)) : gb247 ≠ gb265)); have n14_ := Aside0.mk ((by rw [hg]; exact Nat.ne_of_gt (blk_lt (g := gb247) (o := .cells #[.string t239, .string t240, .int .i64 t241, .int .i64 t242, .int .i64 t243, .int .i64 t244, .bool t245] 26 (0, 0)) (Zr BK247)) : gb265 ≠ gb247)); have n15_ := Aside0.mk ((by rw [hg]; exact Nat.ne_of_lt (blk_lt (g := gb256) (o := .cells #[.string t248, .string t249, .int .i64 t250, .int .i64 t251, .int .i64 t252, .int .i64 t253, .bool t254] 26 (0, 0)) (Zr BK256)) : gb256 ≠ gb265)); have n16_ := Aside0.mk ((by rw [hg]; exact Nat.ne_of_gt (blk_lt (g := gb256) (o := .cells #[.string t248, .string t249, .int .i64 t250, .int .i64 t251, .int .i64 t252, .int .i64 t253, .bool t254] 26 (0, 0)) (Zr BK256)) : gb265 ≠ gb256)); clear HO228; clear BK229; clear BK238; clear BK247; clear BK256; clear HB; have HO228 := n0_; have BK229 := n1_; have BK238 := n2_; have BK247 := n3_; have BK256 := n4_; have HB := n5_; have BK265 := n6_; have GW265 := n7_; have GE265 := n8_; have NB229_265 := n9_; have NB265_229 := n10_; have NB238_265 := n11_; have NB265_238 := n12_; have NB247_265 := n13_; have NB265_247 := n14_; have NB256_265 := n15_; have NB265_256 := n16_; clear n0_ n1_ n2_ n3_ n4_ n5_ n6_ n7_ n8_ n9_ n10_ n11_ n12_ n13_ n14_ n15_ n16_; clear hb hbox hg; have hnb45 := NB265_229.out; have hnc45 := NB229_265.out; have hnb46 := NB265_238.out; have hnc46 := NB238_265.out; have hnb47 := NB265_247.out; have hnc47 := NB247_265.out; have hnb48 := NB265_256.out; have hnc48 := NB256_265.out; obtain ⟨⟨hcz49_0, hcz49_1, hcz49_2, hcz49_3, hcz49_4, hcz49_5, hcz49_6⟩, hfz49_0, hfz49_1, hfz49_2, hfz49_3, hfz49_4, hfz49_5, hfz49_6⟩ := Zk7 BK265; obtain ⟨⟨hcz50_0, hcz50_1, hcz50_2, hcz50_3, hcz50_4, hcz50_5, hcz50_6⟩, hfz50_0, hfz50_1, hfz50_2, hfz50_3, hfz50_4, hfz50_5, hfz50_6⟩ := Zk7 BK256) | ((with_reducible refine gate_callee (f := 16) rfl ?_); refine goesL_ (some 38) rfl rfl Try.func16 (by kernel_rfl) rfl #[.agg #[.string t248, .string t249, .int .i64 t250, .int .i64 t251, .int .i64 t252, .int .i64 t253, .bool t254]] rfl (by (try simp only [List.map_toArray, List.map_cons, List.map_nil]); first | done | rfl | (simp only [List.length_drop, List.length_take]; rfl)) ?_; (with_reducible refine (saga_Command.calls t248 t249 t250 t251 t252 t253 t254 t266 t267 t268 t269 true _ A6.out).mono ?_); rintro e w51 ⟨rfl, hb⟩; refine ⟨_, rfl, ?_⟩; have n0_ := Aside0.mk (Kd.R_below (by (with_reducible repeat (first | apply Kd.R_alloc | apply Kd.R_drewN | apply Kd.R_drew)); exact (Kd.R_mono (Kd.R_far (p := ⟨gb265, 6, none⟩) (Kd.R_far (p := ⟨gb265, 5, none⟩) (Kd.R_far (p := ⟨gb265, 4, none⟩) (Kd.R_far (p := ⟨gb265, 3, none⟩) (Kd.R_far (p := ⟨gb265, 2, none⟩) (Kd.R_far (p := ⟨gb265, 1, none⟩) (Kd.R_far (p := ⟨gb265, 0, none⟩) (Kd.R_types HO228.out BK265.out (by decide)) (fun _ hk => hk.2) (.string t257)) (fun _ hk => hk.2) (.string t258)) (fun _ hk => hk.2) (.int .i64 t259)) (fun _ hk => hk.2) (.int .i64 t260)) (fun _ hk => hk.2) (.int .i64 t261)) (fun _ hk => hk.2) (.int .i64 t262)) (fun _ hk => hk.2) (.bool t263)) (fun _ h_ => h_.1))) hb); have n1_ := Aside0.mk (Zv BK229 hb); have n2_ := Aside0.mk (Zv BK238 hb); have n3_ := Aside0.mk (Zv BK247 hb); have n4_ := Aside0.mk (Zv BK256 hb); have n5_ := Aside0.mk (Zb (g := gb265) (o := .cells #[.string t257, .string t258, .int .i64 t259, .int .i64 t260, .int .i64 t261, .int .i64 t262, .bool t263] 26 (0, 0)) (by (with_reducible repeat (first | refine Zn ?_ _ | refine Zd ?_ | refine Za ?_ _)); refine Zp (cs := #[.string t257, .string t258, .int .i64 t259, .int .i64 t260, .int .i64 t261, .int .i64 t262, .bool false]) ?_ 6 _ rfl; (with_reducible repeat (first | refine Zn ?_ _ | refine Zd ?_ | refine Za ?_ _)); refine Zp (cs := #[.string t257, .string t258, .int .i64 t259, .int .i64 t260, .int .i64 t261, .int .i64 0, .bool false]) ?_ 5 _ rfl; (with_reducible repeat (first | refine Zn ?_ _ | refine Zd ?_ | refine Za ?_ _)); refine Zp (cs := #[.string t257, .string t258, .int .i64 t259, .int .i64 t260, .int .i64 0, .int .i64 0, .bool false]) ?_ 4 _ rfl; (with_reducible repeat (first | refine Zn ?_ _ | refine Zd ?_ | refine Za ?_ _)); refine Zp (cs := #[.string t257, .string t258, .int .i64 t259, .int .i64 0, .int .i64 0, .int .i64 0, .bool false]) ?_ 3 _ rfl; (with_reducible repeat (first | refine Zn ?_ _ | refine Zd ?_ | refine Za ?_ _)); refine Zp (cs := #[.string t257, .string t258, .int .i64 0, .int .i64 0, .int .i64 0, .int .i64 0, .bool false]) ?_ 2 _ rfl; (with_reducible repeat (first | refine Zn ?_ _ | refine Zd ?_ | refine Za ?_ _)); refine Zp (cs := #[.string t257, .string (⟨#[]⟩ : ByteArray), .int .i64 0, .int .i64 0, .int .i64 0, .int .i64 0, .bool false]) ?_ 1 _ rfl; (with_reducible repeat (first | refine Zn ?_ _ | refine Zd ?_ | refine Za ?_ _)); refine Zp (cs := #[.string (⟨#[]⟩ : ByteArray), .string (⟨#[]⟩ : ByteArray), .int .i64 0, .int .i64 0, .int .i64 0, .int .i64 0, .bool false]) ?_ 0 _ rfl; (with_reducible repeat (first | refine Zn ?_ _ | refine Zd ?_ | refine Za ?_ _)); exact BK265.out) hb); have n6_ := Aside0.mk (Yv HB hb); clear HO228; clear BK229; clear BK238; clear BK247; clear BK256; clear BK265; clear HB; have HO228 := n0_; have BK229 := n1_; have BK238 := n2_; have BK247 := n3_; have BK256 := n4_; have BK265 := n5_; have HB := n6_; clear n0_ n1_ n2_ n3_ n4_ n5_ n6_; (try clear hb); (try clear hb2); (try clear hk); (try clear hi)) | ((with_reducible refine gate_dst (N := 10) rfl ?_); refine box_event ?hg (N := 10) ?hd (cs := #[.string (⟨#[]⟩ : ByteArray), .int .i64 0, .int .i64 0, .int .i64 0]) (t := 35) ?hr ?_; (case hd => rfl); (case hg => rfl); (case hr => first | (go_simp; done) | (go_simp; rfl)); intro gb271 hg w52 hbox hb; have n0_ := Aside0.mk (Kd.R_below (by (with_reducible repeat (first | apply Kd.R_alloc | apply Kd.R_drewN | apply Kd.R_drew)); exact HO228.out) hb); have n1_ := Aside0.mk (Zv BK229 hb); have n2_ := Aside0.mk (Zv BK238 hb); have n3_ := Aside0.mk (Zv BK247 hb); have n4_ := Aside0.mk (Zv BK256 hb); have n5_ := Aside0.mk (Zv BK265 hb); have n6_ := Aside0.mk (Yv HB hb); have n7_ := Aside0.mk (hbox); have n8_ := Aside0.mk ((by rw [hg]; exact (below_size (Yr HB)) : w.heap.size ≤ gb271)); have n9_ := Aside0.mk ((by rw [hg]; exact (below_size (Yr HB)) : w.heap.size ≤ gb271)); have n10_ := Aside0.mk ((by rw [hg]; exact Nat.ne_of_lt (blk_lt (g := gb229) (o := .cells #[.string t225, .slice Ao23 t226.length co23] 24 (0, 0)) (Zr BK229)) : gb229 ≠ gb271)); have n11_ := Aside0.mk ((by rw [hg]; exact Nat.ne_of_gt (blk_lt (g := gb229) (o := .cells #[.string t225, .slice Ao23 t226.length co23] 24 (0, 0)) (Zr BK229)) : gb271 ≠ gb229)); have n12_ := Aside0.mk ((by rw [hg]; exact Nat.ne_of_lt (blk_lt (g := gb238) (o := .cells #[.string t230, .string t231, .int .i64 t232, .int .i64 t233, .int .i64 t234, .int .i64 t235, .bool t236] 26 (0, 0)) (Zr BK238)) : gb238 ≠ gb271)); have n13_ := Aside0.mk ((by rw [hg]; exact Nat.ne_of_gt (blk_lt (g := gb238) (o := .cells #[.string t230, .string t231, .int .i64 t232, .int .i64 t233, .int .i64 t234, .int .i64 t235, .bool t236] 26 (0, 0)) (Zr BK238)) : gb271 ≠ gb238)); have n14_ := Aside0.mk ((by rw [hg]; exact Nat.ne_of_lt (blk_lt (g := gb247) (o := .cells #[.string t239, .string t240, .int .i64 t241, .int .i64 t242, .int .i64 t243, .int .i64 t244, .bool t245] 26 (0, 0)) (Zr BK247)) : gb247 ≠ gb271)); have n15_ := Aside0.mk ((by rw [hg]; exact Nat.ne_of_gt (blk_lt (g := gb247) (o := .cells #[.string t239, .string t240, .int .i64 t241, .int .i64 t242, .int .i64 t243, .int .i64 t244, .bool t245] 26 (0, 0)) (Zr BK247)) : gb271 ≠ gb247)); have n16_ := Aside0.mk ((by rw [hg]; exact Nat.ne_of_lt (blk_lt (g := gb256) (o := .cells #[.string t248, .string t249, .int .i64 t250, .int .i64 t251, .int .i64 t252, .int .i64 t253, .bool t254] 26 (0, 0)) (Zr BK256)) : gb256 ≠ gb271)); have n17_ := Aside0.mk ((by rw [hg]; exact Nat.ne_of_gt (blk_lt (g := gb256) (o := .cells #[.string t248, .string t249, .int .i64 t250, .int .i64 t251, .int .i64 t252, .int .i64 t253, .bool t254] 26 (0, 0)) (Zr BK256)) : gb271 ≠ gb256)); have n18_ := Aside0.mk ((by rw [hg]; exact Nat.ne_of_lt (blk_lt (g := gb265) (o := .cells #[.string t257, .string t258, .int .i64 t259, .int .i64 t260, .int .i64 t261, .int .i64 t262, .bool t263] 26 (0, 0)) (Zr BK265)) : gb265 ≠ gb271)); have n19_ := Aside0.mk ((by rw [hg]; exact Nat.ne_of_gt (blk_lt (g := gb265) (o := .cells #[.string t257, .string t258, .int .i64 t259, .int .i64 t260, .int .i64 t261, .int .i64 t262, .bool t263] 26 (0, 0)) (Zr BK265)) : gb271 ≠ gb265)); clear HO228; clear BK229; clear BK238; clear BK247; clear BK256; clear BK265; clear HB; have HO228 := n0_; have BK229 := n1_; have BK238 := n2_; have BK247 := n3_; have BK256 := n4_; have BK265 := n5_; have HB := n6_; have BK271 := n7_; have GW271 := n8_; have GE271 := n9_; have NB229_271 := n10_; have NB271_229 := n11_; have NB238_271 := n12_; have NB271_238 := n13_; have NB247_271 := n14_; have NB271_247 := n15_; have NB256_271 := n16_; have NB271_256 := n17_; have NB265_271 := n18_; have NB271_265 := n19_; clear n0_ n1_ n2_ n3_ n4_ n5_ n6_ n7_ n8_ n9_ n10_ n11_ n12_ n13_ n14_ n15_ n16_ n17_ n18_ n19_; clear hb hbox hg; have hnb53 := NB271_229.out; have hnc53 := NB229_271.out; have hnb54 := NB271_238.out; have hnc54 := NB238_271.out; have hnb55 := NB271_247.out; have hnc55 := NB247_271.out; have hnb56 := NB271_256.out; have hnc56 := NB256_271.out; have hnb57 := NB271_265.out; have hnc57 := NB265_271.out; obtain ⟨⟨hcz58_0, hcz58_1, hcz58_2, hcz58_3⟩, hfz58_0, hfz58_1, hfz58_2, hfz58_3⟩ := Zk4 BK271; obtain ⟨⟨hcz59_0, hcz59_1, hcz59_2, hcz59_3, hcz59_4, hcz59_5, hcz59_6⟩, hfz59_0, hfz59_1, hfz59_2, hfz59_3, hfz59_4, hfz59_5, hfz59_6⟩ := Zk7 BK238; obtain ⟨⟨hcz60_0, hcz60_1, hcz60_2, hcz60_3, hcz60_4, hcz60_5, hcz60_6⟩, hfz60_0, hfz60_1, hfz60_2, hfz60_3, hfz60_4, hfz60_5, hfz60_6⟩ := Zk7 BK247; obtain ⟨⟨hcz61_0, hcz61_1, hcz61_2, hcz61_3, hcz61_4, hcz61_5, hcz61_6⟩, hfz61_0, hfz61_1, hfz61_2, hfz61_3, hfz61_4, hfz61_5, hfz61_6⟩ := Zk7 BK256; obtain ⟨⟨hcz62_0, hcz62_1, hcz62_2, hcz62_3, hcz62_4, hcz62_5, hcz62_6⟩, hfz62_0, hfz62_1, hfz62_2, hfz62_3, hfz62_4, hfz62_5, hfz62_6⟩ := Zk7 BK265; obtain ⟨⟨hcz63_0, hcz63_1⟩, hfz63_0, hfz63_1⟩ := Zk2 BK229) | (go_at_call 18; (with_reducible refine (saga_Right.calls k t225 _ _ t226 t248 t249 t250 t251 t252 t253 t254 t273 _ ?side1 ?side2 A19.out).mono ?_); (case side1 => refine (Kd.R_reads' (e := 53) (base := w.heap.size) (ok := fun k_ => True) (n := t226.length) (c := co23) ?_).2.2; exact (by (with_reducible repeat (first | apply Kd.R_alloc | apply Kd.R_drewN | apply Kd.R_drew)); exact (Kd.R_mono (Kd.R_far (p := ⟨gb271, 3, none⟩) (Kd.R_far (p := ⟨gb271, 2, none⟩) (Kd.R_far (p := ⟨gb271, 1, none⟩) (Kd.R_far (p := ⟨gb271, 0, none⟩) (Kd.R_types HO228.out BK271.out (by decide)) (fun _ hk => hk.2) (.string t266)) (fun _ hk => hk.2) (.int .i64 t267)) (fun _ hk => hk.2) (.int .i64 t268)) (fun _ hk => hk.2) (.int .i64 t269)) (fun _ h_ => h_.1)))); (case side2 => exact (Kd.R_reads' HO228.out).2.1); rintro e w64 ⟨rfl, hb⟩; have n0_ := Aside0.mk (Kd.R_below (by (with_reducible repeat (first | apply Kd.R_alloc | apply Kd.R_drewN | apply Kd.R_drew)); exact (Kd.R_mono (Kd.R_far (p := ⟨gb271, 3, none⟩) (Kd.R_far (p := ⟨gb271, 2, none⟩) (Kd.R_far (p := ⟨gb271, 1, none⟩) (Kd.R_far (p := ⟨gb271, 0, none⟩) (Kd.R_types HO228.out BK271.out (by decide)) (fun _ hk => hk.2) (.string t266)) (fun _ hk => hk.2) (.int .i64 t267)) (fun _ hk => hk.2) (.int .i64 t268)) (fun _ hk => hk.2) (.int .i64 t269)) (fun _ h_ => h_.1))) hb); have n1_ := Aside0.mk (Zv BK229 hb); have n2_ := Aside0.mk (Zv BK238 hb); have n3_ := Aside0.mk (Zv BK247 hb); have n4_ := Aside0.mk (Zv BK256 hb); have n5_ := Aside0.mk (Zv BK265 hb); have n6_ := Aside0.mk (Zb (g := gb271) (o := .cells #[.string t266, .int .i64 t267, .int .i64 t268, .int .i64 t269] 35 (0, 0)) (by (with_reducible repeat (first | refine Zn ?_ _ | refine Zd ?_ | refine Za ?_ _)); refine Zp (cs := #[.string t266, .int .i64 t267, .int .i64 t268, .int .i64 0]) ?_ 3 _ rfl; (with_reducible repeat (first | refine Zn ?_ _ | refine Zd ?_ | refine Za ?_ _)); refine Zp (cs := #[.string t266, .int .i64 t267, .int .i64 0, .int .i64 0]) ?_ 2 _ rfl; (with_reducible repeat (first | refine Zn ?_ _ | refine Zd ?_ | refine Za ?_ _)); refine Zp (cs := #[.string t266, .int .i64 0, .int .i64 0, .int .i64 0]) ?_ 1 _ rfl; (with_reducible repeat (first | refine Zn ?_ _ | refine Zd ?_ | refine Za ?_ _)); refine Zp (cs := #[.string (⟨#[]⟩ : ByteArray), .int .i64 0, .int .i64 0, .int .i64 0]) ?_ 0 _ rfl; (with_reducible repeat (first | refine Zn ?_ _ | refine Zd ?_ | refine Za ?_ _)); exact BK271.out) hb); have n7_ := Aside0.mk (Yv HB hb); clear HO228; clear BK229; clear BK238; clear BK247; clear BK256; clear BK265; clear BK271; clear HB; have HO228 := n0_; have BK229 := n1_; have BK238 := n2_; have BK247 := n3_; have BK256 := n4_; have BK265 := n5_; have BK271 := n6_; have HB := n7_; clear n0_ n1_ n2_ n3_ n4_ n5_ n6_ n7_; (try clear hb); (try clear hb2); (try clear hk); (try clear hi)))
              go_ret
              exact ⟨by first | rfl | (simp [errW_none, errW_some] <;> rfl) | (simp [*, errW_none, errW_some] <;> rfl), Yr HB⟩
             ·
              replace c18 := Bool.eq_false_iff.mpr c18
              subst c18
              have H1 : (some false) = some r := by rw [if_neg (show ¬ (false = true) by decide)] at H; exact H
              clear H
              have H := H1
              clear H1
              exact absurd ((Option.some.inj H).trans HRT_.out) (by decide)
            ·
             rw [if_neg c17] at H
             have c17b0 : (t268 == 2) = false := beq_eq_false_iff_ne.mpr c17
             have c17b1 : (t268 != 2) = true := bne_iff_ne.mpr c17
             exact absurd ((Option.some.inj H).trans HRT_.out) (by decide)
           ·
            rw [if_neg c16] at H
            have c16b0 : (t259 == 4) = false := beq_eq_false_iff_ne.mpr c16
            have c16b1 : (t259 != 4) = true := bne_iff_ne.mpr c16
            exact absurd ((Option.some.inj H).trans HRT_.out) (by decide)
          ·
           replace c15 := Bool.eq_false_iff.mpr c15
           subst c15
           have H1 : (some false) = some r := by rw [if_neg (show ¬ (false = true) by decide)] at H; exact H
           clear H
           have H := H1
           clear H1
           exact absurd ((Option.some.inj H).trans HRT_.out) (by decide)
         ·
          rw [if_neg c14] at H
          have c14b0 : (t253 == 28) = false := beq_eq_false_iff_ne.mpr c14
          have c14b1 : (t253 != 28) = true := bne_iff_ne.mpr c14
          exact absurd ((Option.some.inj H).trans HRT_.out) (by decide)
        ·
         rw [if_neg c13] at H
         have c13b0 : (t251 == 1) = false := beq_eq_false_iff_ne.mpr c13
         have c13b1 : (t251 != 1) = true := bne_iff_ne.mpr c13
         exact absurd ((Option.some.inj H).trans HRT_.out) (by decide)
       ·
        rw [if_neg c12] at H
        have c12b0 : (t250 == 2) = false := beq_eq_false_iff_ne.mpr c12
        have c12b1 : (t250 != 2) = true := bne_iff_ne.mpr c12
        exact absurd ((Option.some.inj H).trans HRT_.out) (by decide)
      ·
       replace c11 := Bool.eq_false_iff.mpr c11
       subst c11
       have H1 : (some false) = some r := by rw [if_neg (show ¬ (false = true) by decide)] at H; exact H
       clear H
       have H := H1
       clear H1
       exact absurd ((Option.some.inj H).trans HRT_.out) (by decide)
     ·
      rw [if_neg c10] at H
      have c10b0 : (t244 == 27) = false := beq_eq_false_iff_ne.mpr c10
      have c10b1 : (t244 != 27) = true := bne_iff_ne.mpr c10
      exact absurd ((Option.some.inj H).trans HRT_.out) (by decide)
    ·
     rw [if_neg c9] at H
     have c9b0 : (t242 == 1) = false := beq_eq_false_iff_ne.mpr c9
     have c9b1 : (t242 != 1) = true := bne_iff_ne.mpr c9
     exact absurd ((Option.some.inj H).trans HRT_.out) (by decide)
   ·
    replace c8 := Bool.eq_false_iff.mpr c8
    subst c8
    have H1 : (some false) = some r := by rw [if_neg (show ¬ (false = true) by decide)] at H; exact H
    clear H
    have H := H1
    clear H1
    exact absurd ((Option.some.inj H).trans HRT_.out) (by decide)
  ·
   rw [if_neg c7] at H
   have c7b0 : (t235 == 15) = false := beq_eq_false_iff_ne.mpr c7
   have c7b1 : (t235 != 15) = true := bne_iff_ne.mpr c7
   exact absurd ((Option.some.inj H).trans HRT_.out) (by decide)
 ·
  have H1 : (some false) = some r := by rw [if_neg (show ¬ (some q272).isNone = true by simp)] at H; exact H
  clear H
  have H := H1
  clear H1
  try simp only [errW_none, errW_some]
  exact absurd ((Option.some.inj H).trans HRT_.out) (by decide)

/-! ### palinoderef18_Name: function 38 -/
def palinoderef18_Name.l0 : Nat → ByteArray → Int → Option (Bool)
 | 0, _, _ => none
 | k + 1, x0, x3 => if x3 < (x0.size : Int) then (if 0 ≤ x3 then (if (bt x0 x3) < 97 then (if (bt x0 x3) < 48 then (if (bt x0 x3) = 45 then (palinoderef18_Name.l0 k x0 (wrap64 (x3 + 1))) else (some false)) else (if (bt x0 x3) > 57 then (if (bt x0 x3) = 45 then (palinoderef18_Name.l0 k x0 (wrap64 (x3 + 1))) else (some false)) else (palinoderef18_Name.l0 k x0 (wrap64 (x3 + 1))))) else (if (bt x0 x3) > 122 then (if (bt x0 x3) < 48 then (if (bt x0 x3) = 45 then (palinoderef18_Name.l0 k x0 (wrap64 (x3 + 1))) else (some false)) else (if (bt x0 x3) > 57 then (if (bt x0 x3) = 45 then (palinoderef18_Name.l0 k x0 (wrap64 (x3 + 1))) else (some false)) else (palinoderef18_Name.l0 k x0 (wrap64 (x3 + 1))))) else (palinoderef18_Name.l0 k x0 (wrap64 (x3 + 1))))) else (none)) else (if (x0.size : Int) ≥ 1 then (some (decide ((x0.size : Int) ≤ 20))) else (some false))
def palinoderef18_Name.f (k : Nat) (a0 : ByteArray) : Option (Bool) := palinoderef18_Name.l0 k a0 0
theorem palinoderef18_Name.mono_l : ∀ k, (∀ y0 y1, LeO (palinoderef18_Name.l0 k y0 y1) (palinoderef18_Name.l0 (k + 1) y0 y1))
 | 0 => fun _ _ r h => by simp [palinoderef18_Name.l0] at h
 | k + 1 => by
  have ih0 := palinoderef18_Name.mono_l k
  ·
   intro y0 y1
   unfold palinoderef18_Name.l0
   repeat' first
   | (with_reducible exact ih0 _ _)
   | (with_reducible exact LeO.refl _)
   | (with_reducible exact LeO.none _)
   | (with_reducible refine LeO.ite ?_ ?_)
   | (with_reducible refine LeO.bind ?_ (fun _ => ?_))
   | exact ih0 _ _
   | exact LeO.none _
   | refine LeO.ite ?_ ?_
   | refine LeO.bind ?_ (fun _ => ?_)
theorem palinoderef18_Name.mono : ∀ a0 k, LeO (palinoderef18_Name.f k a0) (palinoderef18_Name.f (k + 1) a0) := by
 intro a0 k
 have ih0 := palinoderef18_Name.mono_l k
 unfold palinoderef18_Name.f
 repeat' first
   | (with_reducible exact ih0 _ _)
   | (with_reducible exact LeO.refl _)
   | (with_reducible exact LeO.none _)
   | (with_reducible refine LeO.ite ?_ ?_)
   | (with_reducible refine LeO.bind ?_ (fun _ => ?_))
   | exact ih0 _ _
   | exact LeO.none _
   | refine LeO.ite ?_ ?_
   | refine LeO.bind ?_ (fun _ => ?_)
set_option maxHeartbeats 8000000 in
set_option maxRecDepth 100000 in
theorem palinoderef18_Name.calls (k : Nat) (a0 : ByteArray) (r : Bool) (w : World) (h : palinoderef18_Name.f k a0 = some r) :
  Calls Try.prog 38 #[.string a0] w fun e w' => e = .returned (.bool r) ∧ Drawn0 w w' := by
 have H : (palinoderef18_Name.l0 k a0 0) = some r := h
 clear h
 have H' := Aside0.mk H
 clear H
 go_enter Try.func38, Try.ntmps38
 go_wp2
 go_loopg [3] k (fun kq v3 w' => ∃ (x3_1 : Int), v3 = .int .i64 x3_1 ∧ Aside0 (palinoderef18_Name.l0 kq a0 x3_1 = some r) ∧ Aside0 (kq ≤ k) ∧ Drawn0 w w')
 case atStart => exact ⟨(0), (by first | rfl | (simp; done) | (simp [*]; done)), H', ⟨Nat.le_refl _⟩, by repeat (first | exact Drawn0.refl _ | apply Drawn0.step)⟩
 case round =>
  clear H'
  obtain ⟨x3_1, rfl, HA, HK1, ⟨m1, rfl⟩⟩ := hrel
  cases gk with
  | zero => exact absurd HA.out (by simp [palinoderef18_Name.l0])
  | succ k1 =>
   have H := HA.out
   clear HA
   simp only [palinoderef18_Name.l0] at H
   by_cases c2 : x3_1 < (a0.size : Int)
   ·
    rw [if_pos c2] at H
    have c2b0 : decide (x3_1 < (a0.size : Int)) = true := decide_eq_true c2
    clear c2
    by_cases c3 : 0 ≤ x3_1
    ·
     rw [if_pos c3] at H
     have c3b0 : decide (0 ≤ x3_1) = true := decide_eq_true c3
     clear c3
     by_cases c5 : (bt a0 x3_1) < 97
     ·
      rw [if_pos c5] at H
      have c5b0 : decide ((bt a0 x3_1) < 97) = true := decide_eq_true c5
      clear c5
      by_cases c6 : (bt a0 x3_1) < 48
      ·
       rw [if_pos c6] at H
       have c6b0 : decide ((bt a0 x3_1) < 48) = true := decide_eq_true c6
       clear c6
       by_cases c7 : (bt a0 x3_1) = 45
       ·
        rw [if_pos c7] at H
        have c7b0 : ((bt a0 x3_1) == 45) = true := beq_iff_eq.mpr c7
        have c7b1 : ((bt a0 x3_1) != 45) = false := bne_eq_false_iff_eq.mpr c7
        clear c7
        have H' := Aside0.mk H
        clear H
        have p4 : 0 ≤ (x3_1 : Int) := of_decide_eq_true (by first | (with_reducible assumption) | assumption)
        have q4 : x3_1 < (a0.size : Int) := of_decide_eq_true (by first | (with_reducible assumption) | assumption)
        have hx4 := bt_at a0 x3_1
        replace p4 := eq_true p4
        replace q4 := eq_true q4
        go_wp2
        go_roundg k1
        case measure => have := HK1.out; omega
        case rel => exact ⟨(wrap64 (x3_1 + 1)), (by first | rfl | (simp; done) | (simp [*]; done)), H', ⟨by have := HK1.out; omega⟩, by repeat (first | exact Drawn0.refl _ | apply Drawn0.step)⟩
       ·
        rw [if_neg c7] at H
        have c7b0 : ((bt a0 x3_1) == 45) = false := beq_eq_false_iff_ne.mpr c7
        have c7b1 : ((bt a0 x3_1) != 45) = true := bne_iff_ne.mpr c7
        obtain rfl := Option.some.inj H
        have p4 : 0 ≤ (x3_1 : Int) := of_decide_eq_true (by first | (with_reducible assumption) | assumption)
        have q4 : x3_1 < (a0.size : Int) := of_decide_eq_true (by first | (with_reducible assumption) | assumption)
        have hx4 := bt_at a0 x3_1
        replace p4 := eq_true p4
        replace q4 := eq_true q4
        go_wp2
        go_ret
        exact ⟨by first | rfl | (simp; done) | (simp [*]; done), by repeat (first | exact Drawn0.refl _ | apply Drawn0.step)⟩
      ·
       rw [if_neg c6] at H
       have c6b0 : decide ((bt a0 x3_1) < 48) = false := decide_eq_false c6
       clear c6
       by_cases c8 : (bt a0 x3_1) > 57
       ·
        rw [if_pos c8] at H
        have c8b0 : decide (57 < (bt a0 x3_1)) = true := decide_eq_true c8
        clear c8
        by_cases c9 : (bt a0 x3_1) = 45
        ·
         rw [if_pos c9] at H
         have c9b0 : ((bt a0 x3_1) == 45) = true := beq_iff_eq.mpr c9
         have c9b1 : ((bt a0 x3_1) != 45) = false := bne_eq_false_iff_eq.mpr c9
         clear c9
         have H' := Aside0.mk H
         clear H
         have p4 : 0 ≤ (x3_1 : Int) := of_decide_eq_true (by first | (with_reducible assumption) | assumption)
         have q4 : x3_1 < (a0.size : Int) := of_decide_eq_true (by first | (with_reducible assumption) | assumption)
         have hx4 := bt_at a0 x3_1
         replace p4 := eq_true p4
         replace q4 := eq_true q4
         go_wp2
         go_roundg k1
         case measure => have := HK1.out; omega
         case rel => exact ⟨(wrap64 (x3_1 + 1)), (by first | rfl | (simp; done) | (simp [*]; done)), H', ⟨by have := HK1.out; omega⟩, by repeat (first | exact Drawn0.refl _ | apply Drawn0.step)⟩
        ·
         rw [if_neg c9] at H
         have c9b0 : ((bt a0 x3_1) == 45) = false := beq_eq_false_iff_ne.mpr c9
         have c9b1 : ((bt a0 x3_1) != 45) = true := bne_iff_ne.mpr c9
         obtain rfl := Option.some.inj H
         have p4 : 0 ≤ (x3_1 : Int) := of_decide_eq_true (by first | (with_reducible assumption) | assumption)
         have q4 : x3_1 < (a0.size : Int) := of_decide_eq_true (by first | (with_reducible assumption) | assumption)
         have hx4 := bt_at a0 x3_1
         replace p4 := eq_true p4
         replace q4 := eq_true q4
         go_wp2
         go_ret
         exact ⟨by first | rfl | (simp; done) | (simp [*]; done), by repeat (first | exact Drawn0.refl _ | apply Drawn0.step)⟩
       ·
        rw [if_neg c8] at H
        have c8b0 : decide (57 < (bt a0 x3_1)) = false := decide_eq_false c8
        clear c8
        have H' := Aside0.mk H
        clear H
        have p4 : 0 ≤ (x3_1 : Int) := of_decide_eq_true (by first | (with_reducible assumption) | assumption)
        have q4 : x3_1 < (a0.size : Int) := of_decide_eq_true (by first | (with_reducible assumption) | assumption)
        have hx4 := bt_at a0 x3_1
        replace p4 := eq_true p4
        replace q4 := eq_true q4
        go_wp2
        go_roundg k1
        case measure => have := HK1.out; omega
        case rel => exact ⟨(wrap64 (x3_1 + 1)), (by first | rfl | (simp; done) | (simp [*]; done)), H', ⟨by have := HK1.out; omega⟩, by repeat (first | exact Drawn0.refl _ | apply Drawn0.step)⟩
     ·
      rw [if_neg c5] at H
      have c5b0 : decide ((bt a0 x3_1) < 97) = false := decide_eq_false c5
      clear c5
      by_cases c10 : (bt a0 x3_1) > 122
      ·
       rw [if_pos c10] at H
       have c10b0 : decide (122 < (bt a0 x3_1)) = true := decide_eq_true c10
       clear c10
       by_cases c11 : (bt a0 x3_1) < 48
       ·
        rw [if_pos c11] at H
        have c11b0 : decide ((bt a0 x3_1) < 48) = true := decide_eq_true c11
        clear c11
        by_cases c12 : (bt a0 x3_1) = 45
        ·
         rw [if_pos c12] at H
         have c12b0 : ((bt a0 x3_1) == 45) = true := beq_iff_eq.mpr c12
         have c12b1 : ((bt a0 x3_1) != 45) = false := bne_eq_false_iff_eq.mpr c12
         clear c12
         have H' := Aside0.mk H
         clear H
         have p4 : 0 ≤ (x3_1 : Int) := of_decide_eq_true (by first | (with_reducible assumption) | assumption)
         have q4 : x3_1 < (a0.size : Int) := of_decide_eq_true (by first | (with_reducible assumption) | assumption)
         have hx4 := bt_at a0 x3_1
         replace p4 := eq_true p4
         replace q4 := eq_true q4
         go_wp2
         go_roundg k1
         case measure => have := HK1.out; omega
         case rel => exact ⟨(wrap64 (x3_1 + 1)), (by first | rfl | (simp; done) | (simp [*]; done)), H', ⟨by have := HK1.out; omega⟩, by repeat (first | exact Drawn0.refl _ | apply Drawn0.step)⟩
        ·
         rw [if_neg c12] at H
         have c12b0 : ((bt a0 x3_1) == 45) = false := beq_eq_false_iff_ne.mpr c12
         have c12b1 : ((bt a0 x3_1) != 45) = true := bne_iff_ne.mpr c12
         obtain rfl := Option.some.inj H
         have p4 : 0 ≤ (x3_1 : Int) := of_decide_eq_true (by first | (with_reducible assumption) | assumption)
         have q4 : x3_1 < (a0.size : Int) := of_decide_eq_true (by first | (with_reducible assumption) | assumption)
         have hx4 := bt_at a0 x3_1
         replace p4 := eq_true p4
         replace q4 := eq_true q4
         go_wp2
         go_ret
         exact ⟨by first | rfl | (simp; done) | (simp [*]; done), by repeat (first | exact Drawn0.refl _ | apply Drawn0.step)⟩
       ·
        rw [if_neg c11] at H
        have c11b0 : decide ((bt a0 x3_1) < 48) = false := decide_eq_false c11
        clear c11
        by_cases c13 : (bt a0 x3_1) > 57
        ·
         rw [if_pos c13] at H
         have c13b0 : decide (57 < (bt a0 x3_1)) = true := decide_eq_true c13
         clear c13
         by_cases c14 : (bt a0 x3_1) = 45
         ·
          rw [if_pos c14] at H
          have c14b0 : ((bt a0 x3_1) == 45) = true := beq_iff_eq.mpr c14
          have c14b1 : ((bt a0 x3_1) != 45) = false := bne_eq_false_iff_eq.mpr c14
          clear c14
          have H' := Aside0.mk H
          clear H
          have p4 : 0 ≤ (x3_1 : Int) := of_decide_eq_true (by first | (with_reducible assumption) | assumption)
          have q4 : x3_1 < (a0.size : Int) := of_decide_eq_true (by first | (with_reducible assumption) | assumption)
          have hx4 := bt_at a0 x3_1
          replace p4 := eq_true p4
          replace q4 := eq_true q4
          go_wp2
          go_roundg k1
          case measure => have := HK1.out; omega
          case rel => exact ⟨(wrap64 (x3_1 + 1)), (by first | rfl | (simp; done) | (simp [*]; done)), H', ⟨by have := HK1.out; omega⟩, by repeat (first | exact Drawn0.refl _ | apply Drawn0.step)⟩
         ·
          rw [if_neg c14] at H
          have c14b0 : ((bt a0 x3_1) == 45) = false := beq_eq_false_iff_ne.mpr c14
          have c14b1 : ((bt a0 x3_1) != 45) = true := bne_iff_ne.mpr c14
          obtain rfl := Option.some.inj H
          have p4 : 0 ≤ (x3_1 : Int) := of_decide_eq_true (by first | (with_reducible assumption) | assumption)
          have q4 : x3_1 < (a0.size : Int) := of_decide_eq_true (by first | (with_reducible assumption) | assumption)
          have hx4 := bt_at a0 x3_1
          replace p4 := eq_true p4
          replace q4 := eq_true q4
          go_wp2
          go_ret
          exact ⟨by first | rfl | (simp; done) | (simp [*]; done), by repeat (first | exact Drawn0.refl _ | apply Drawn0.step)⟩
        ·
         rw [if_neg c13] at H
         have c13b0 : decide (57 < (bt a0 x3_1)) = false := decide_eq_false c13
         clear c13
         have H' := Aside0.mk H
         clear H
         have p4 : 0 ≤ (x3_1 : Int) := of_decide_eq_true (by first | (with_reducible assumption) | assumption)
         have q4 : x3_1 < (a0.size : Int) := of_decide_eq_true (by first | (with_reducible assumption) | assumption)
         have hx4 := bt_at a0 x3_1
         replace p4 := eq_true p4
         replace q4 := eq_true q4
         go_wp2
         go_roundg k1
         case measure => have := HK1.out; omega
         case rel => exact ⟨(wrap64 (x3_1 + 1)), (by first | rfl | (simp; done) | (simp [*]; done)), H', ⟨by have := HK1.out; omega⟩, by repeat (first | exact Drawn0.refl _ | apply Drawn0.step)⟩
      ·
       rw [if_neg c10] at H
       have c10b0 : decide (122 < (bt a0 x3_1)) = false := decide_eq_false c10
       clear c10
       have H' := Aside0.mk H
       clear H
       have p4 : 0 ≤ (x3_1 : Int) := of_decide_eq_true (by first | (with_reducible assumption) | assumption)
       have q4 : x3_1 < (a0.size : Int) := of_decide_eq_true (by first | (with_reducible assumption) | assumption)
       have hx4 := bt_at a0 x3_1
       replace p4 := eq_true p4
       replace q4 := eq_true q4
       go_wp2
       go_roundg k1
       case measure => have := HK1.out; omega
       case rel => exact ⟨(wrap64 (x3_1 + 1)), (by first | rfl | (simp; done) | (simp [*]; done)), H', ⟨by have := HK1.out; omega⟩, by repeat (first | exact Drawn0.refl _ | apply Drawn0.step)⟩
    ·
     rw [if_neg c3] at H
     exact absurd H (by simp)
   ·
    rw [if_neg c2] at H
    have c2b0 : decide (x3_1 < (a0.size : Int)) = false := decide_eq_false c2
    clear c2
    by_cases c15 : (a0.size : Int) ≥ 1
    ·
     rw [if_pos c15] at H
     have c15b0 : decide (1 ≤ (a0.size : Int)) = true := decide_eq_true c15
     have c15b1 : decide (1 ≤ a0.size) = true := decide_eq_true (by omega)
     clear c15
     obtain rfl := Option.some.inj H
     go_wp2
     go_ret
     exact ⟨by first | rfl | (simp; done) | (simp [*]; done), by repeat (first | exact Drawn0.refl _ | apply Drawn0.step)⟩
    ·
     rw [if_neg c15] at H
     have c15b0 : decide (1 ≤ (a0.size : Int)) = false := decide_eq_false c15
     have c15b1 : decide (1 ≤ a0.size) = false := decide_eq_false (by omega)
     clear c15
     obtain rfl := Option.some.inj H
     go_wp2
     go_ret
     exact ⟨by first | rfl | (simp; done) | (simp [*]; done), by repeat (first | exact Drawn0.refl _ | apply Drawn0.step)⟩

/-! ### palinoderef18_Right: function 37 -/
mutual
def palinoderef18_Right.j0 : Nat → Bool → ByteArray → List (S53) → Option (Bool)
 | 0, _, _, _ => none
 | k + 1, x22, x275000, x275001 => if x22 = true then (some false) else (palinoderef18_Right.l0 k 0 x275000 x275001)
def palinoderef18_Right.l0 : Nat → Int → ByteArray → List (S53) → Option (Bool)
 | 0, _, _, _ => none
 | k + 1, x4, x275000, x275001 => if x4 < (x275001.length : Int) then (if 0 ≤ x4 then (if ((rd_T53 x275001 x4).f0) < 0 then (some false) else (if ((rd_T53 x275001 x4).f0) > 5 then (some false) else (if ((rd_T53 x275001 x4).f1) < 1 then (some false) else (if ((rd_T53 x275001 x4).f1) > 10000 then (some false) else (palinoderef18_Right.l0 k (wrap64 (x4 + 1)) x275000 x275001))))) else (none)) else (some true)
end
def palinoderef18_Right.f (k : Nat) (a0_0 : ByteArray) (l0_1 : List (S53)) : Option (Bool) := (palinoderef18_Name.f k a0_0).bind fun t275 => (if t275 = true then (if (l0_1.length : Int) < 1 then (palinoderef18_Right.j0 k true a0_0 l0_1) else (palinoderef18_Right.j0 k (decide ((l0_1.length : Int) > 6)) a0_0 l0_1)) else (palinoderef18_Right.j0 k true a0_0 l0_1))
theorem palinoderef18_Right.mono_l : ∀ k, (∀ y0 y1 y2, LeO (palinoderef18_Right.j0 k y0 y1 y2) (palinoderef18_Right.j0 (k + 1) y0 y1 y2)) ∧ (∀ y0 y1 y2, LeO (palinoderef18_Right.l0 k y0 y1 y2) (palinoderef18_Right.l0 (k + 1) y0 y1 y2))
 | 0 => ⟨fun _ _ _ r h => by simp [palinoderef18_Right.j0] at h, fun _ _ _ r h => by simp [palinoderef18_Right.l0] at h⟩
 | k + 1 => by
  obtain ⟨ih0, ih1⟩ := palinoderef18_Right.mono_l k
  refine ⟨?_, ?_⟩
  ·
   intro y0 y1 y2
   unfold palinoderef18_Right.j0
   repeat' first
   | (with_reducible exact ih0 _ _ _)
   | (with_reducible exact ih1 _ _ _)
   | (with_reducible exact palinoderef18_Name.mono _ _)
   | (with_reducible exact LeO.refl _)
   | (with_reducible exact LeO.none _)
   | (with_reducible refine LeO.ite ?_ ?_)
   | (with_reducible refine LeO.bind ?_ (fun _ => ?_))
   | exact ih0 _ _ _
   | exact ih1 _ _ _
   | exact palinoderef18_Name.mono _ _
   | exact LeO.none _
   | refine LeO.ite ?_ ?_
   | refine LeO.bind ?_ (fun _ => ?_)
  ·
   intro y0 y1 y2
   unfold palinoderef18_Right.l0
   repeat' first
   | (with_reducible exact ih0 _ _ _)
   | (with_reducible exact ih1 _ _ _)
   | (with_reducible exact palinoderef18_Name.mono _ _)
   | (with_reducible exact LeO.refl _)
   | (with_reducible exact LeO.none _)
   | (with_reducible refine LeO.ite ?_ ?_)
   | (with_reducible refine LeO.bind ?_ (fun _ => ?_))
   | exact ih0 _ _ _
   | exact ih1 _ _ _
   | exact palinoderef18_Name.mono _ _
   | exact LeO.none _
   | refine LeO.ite ?_ ?_
   | refine LeO.bind ?_ (fun _ => ?_)
theorem palinoderef18_Right.mono : ∀ a0 a1 k, LeO (palinoderef18_Right.f k a0 a1) (palinoderef18_Right.f (k + 1) a0 a1) := by
 intro a0 a1 k
 obtain ⟨ih0, ih1⟩ := palinoderef18_Right.mono_l k
 unfold palinoderef18_Right.f
 repeat' first
   | (with_reducible exact ih0 _ _ _)
   | (with_reducible exact ih1 _ _ _)
   | (with_reducible exact palinoderef18_Name.mono _ _)
   | (with_reducible exact LeO.refl _)
   | (with_reducible exact LeO.none _)
   | (with_reducible refine LeO.ite ?_ ?_)
   | (with_reducible refine LeO.bind ?_ (fun _ => ?_))
   | exact ih0 _ _ _
   | exact ih1 _ _ _
   | exact palinoderef18_Name.mono _ _
   | exact LeO.none _
   | refine LeO.ite ?_ ?_
   | refine LeO.bind ?_ (fun _ => ?_)
set_option maxHeartbeats 8000000 in
set_option maxRecDepth 100000 in
theorem palinoderef18_Right.calls (k : Nat) (a0_0 : ByteArray) (A0_1 : Option Addr) (c0_1 : Nat) (l0_1 : List (S53)) (r : Bool) (w : World) (hr0_1 : Kd.C k53 w A0_1 l0_1.length l0_1) (hc0_1 : l0_1.length ≤ c0_1) (h : palinoderef18_Right.f k a0_0 l0_1 = some r) :
  Calls Try.prog 37 #[.agg #[.string a0_0, .slice A0_1 l0_1.length c0_1]] w fun e w' => e = .returned (.bool r) ∧ Below w.heap.size w w' := by
 have hu24 := Try.underlying24
 have hu53 := Try.underlying53
 have HR0_1 := Aside0.mk hr0_1
 have HC0_1 := Aside0.mk hc0_1
 clear hr0_1 hc0_1
 have HB := Aside0.mk (Below.refl w.heap.size w)
 have H : ((palinoderef18_Name.f k a0_0).bind fun t275 => (if t275 = true then (if (l0_1.length : Int) < 1 then (palinoderef18_Right.j0 k true a0_0 l0_1) else (palinoderef18_Right.j0 k (decide ((l0_1.length : Int) > 6)) a0_0 l0_1)) else (palinoderef18_Right.j0 k true a0_0 l0_1))) = some r := h
 clear h
 replace H := Option.bind_eq_some_iff.mp H
 obtain ⟨t275, A20, H⟩ := H
 replace H : (if t275 = true then (if (l0_1.length : Int) < 1 then (palinoderef18_Right.j0 k true a0_0 l0_1) else (palinoderef18_Right.j0 k (decide ((l0_1.length : Int) > 6)) a0_0 l0_1)) else (palinoderef18_Right.j0 k true a0_0 l0_1)) = some r := H
 have A2 := Aside0.mk A20
 clear A20
 have HC3 := Aside0.mk H
 clear H
 go_enter Try.func37, Try.ntmps37
 go_upto_region 2 with (first | ((with_reducible refine gate_dst (N := 1) rfl ?_); (try (refine gate_guard (by rfl) ?_; dsimp only)); refine box_event ?hg (N := 1) ?hd (cs := #[.string a0_0, .slice A0_1 l0_1.length c0_1]) (t := 24) ?hr ?_; (case hd => rfl); (case hg => rfl); (case hr => first | (go_simp; done) | (go_simp; rfl)); intro gb274 hg w4 hbox hb; have n0_ := Aside0.mk (Yv HB hb); have n1_ := Aside0.mk (hbox); have n2_ := Aside0.mk ((by rw [hg]; exact (below_size (Yr HB)) : w.heap.size ≤ gb274)); have n3_ := Aside0.mk ((by rw [hg]; exact (below_size (Yr HB)) : w.heap.size ≤ gb274)); clear HB; have HB := n0_; have BK274 := n1_; have GW274 := n2_; have GE274 := n3_; clear n0_ n1_ n2_ n3_; clear hb hbox hg; obtain ⟨⟨hcz5_0, hcz5_1⟩, hfz5_0, hfz5_1⟩ := Zk2 BK274) | ((with_reducible refine gate_callee (f := 38) rfl ?_); refine goesL_ (some 8) rfl rfl Try.func38 (by kernel_rfl) rfl #[.string a0_0] rfl (by (try simp only [List.map_toArray, List.map_cons, List.map_nil]); first | done | rfl | (simp only [List.length_drop, List.length_take]; rfl)) ?_; (with_reducible refine (palinoderef18_Name.calls k a0_0 t275 _ A2.out).mono ?_); rintro e w' ⟨rfl, ⟨nd, rfl⟩⟩; refine ⟨_, rfl, ?_⟩))
 (try simp only [Act.put, List.setIfInBounds_toArray, List.set_cons_zero, List.set_cons_succ])
 go_cut [22] (fun v22 wc => ∃ (kq : Nat) (x22_2 : Bool), v22 = .bool x22_2 ∧ Aside0 (palinoderef18_Right.j0 kq x22_2 a0_0 l0_1 = some r) ∧ Aside0 (kq ≤ k) ∧ Aside0 (wc.heap[gb274]? = some (.cells #[.string a0_0, (.slice A0_1 l0_1.length c0_1)] 24 (0, 0))) ∧ Aside0 (Below w.heap.size w wc))
 case first =>
  have H := HC3.out
  clear HC3
  by_cases c6 : t275 = true
  ·
   subst c6
   have H1 : (if (l0_1.length : Int) < 1 then (palinoderef18_Right.j0 k true a0_0 l0_1) else (palinoderef18_Right.j0 k (decide ((l0_1.length : Int) > 6)) a0_0 l0_1)) = some r := by rw [if_pos rfl] at H; exact H
   clear H
   have H := H1
   clear H1
   by_cases c7 : (l0_1.length : Int) < 1
   ·
    rw [if_pos c7] at H
    have c7b0 : decide ((l0_1.length : Int) < 1) = true := decide_eq_true c7
    have c7b1 : decide (l0_1.length < 1) = true := decide_eq_true (by omega)
    clear c7
    (first | rw [c7b0] | (simp only [i64_w, i32_w]; rw [c7b0]) | skip)
    have H' := Aside0.mk H
    clear H
    obtain ⟨⟨hcz8_0, hcz8_1⟩, hfz8_0, hfz8_1⟩ := Zk2 BK274
    go_wp2
    go_meet
    case rel => exact ⟨_, (true), (by first | rfl | (simp; done) | (simp [*]; done)), H', ⟨by first | omega | exact Nat.le_refl _⟩, ⟨by (with_reducible repeat (first | refine Zn ?_ _ | refine Zd ?_ | refine Za ?_ _)); exact BK274.out⟩, ⟨Yr HB⟩⟩
   ·
    rw [if_neg c7] at H
    have c7b0 : decide ((l0_1.length : Int) < 1) = false := decide_eq_false c7
    have c7b1 : decide (l0_1.length < 1) = false := decide_eq_false (by omega)
    clear c7
    (first | rw [c7b0] | (simp only [i64_w, i32_w]; rw [c7b0]) | skip)
    have H' := Aside0.mk H
    clear H
    obtain ⟨⟨hcz9_0, hcz9_1⟩, hfz9_0, hfz9_1⟩ := Zk2 BK274
    go_wp2
    go_meet
    case rel => exact ⟨_, (decide ((l0_1.length : Int) > 6)), (by first | rfl | (simp; done) | (simp [*]; done)), H', ⟨by first | omega | exact Nat.le_refl _⟩, ⟨by (with_reducible repeat (first | refine Zn ?_ _ | refine Zd ?_ | refine Za ?_ _)); exact BK274.out⟩, ⟨Yr HB⟩⟩
  ·
   replace c6 := Bool.eq_false_iff.mpr c6
   subst c6
   have H1 : (palinoderef18_Right.j0 k true a0_0 l0_1) = some r := by rw [if_neg (show ¬ (false = true) by decide)] at H; exact H
   clear H
   have H := H1
   clear H1
   have H' := Aside0.mk H
   clear H
   go_wp2
   go_meet
   case rel => exact ⟨_, (true), (by first | rfl | (simp; done) | (simp [*]; done)), H', ⟨by first | omega | exact Nat.le_refl _⟩, ⟨by (with_reducible repeat (first | refine Zn ?_ _ | refine Zd ?_ | refine Za ?_ _)); exact BK274.out⟩, ⟨Yr HB⟩⟩
 case rest =>
  clear HC3
  try clear p2
  try clear c3
  try clear c6
  try clear c7
  try clear c7b0
  try clear c7b1
  try clear hcz5_0
  try clear hcz5_1
  try clear hcz8_0
  try clear hcz8_1
  try clear hcz9_0
  try clear hcz9_1
  try clear hfz5_0
  try clear hfz5_1
  try clear hfz8_0
  try clear hfz8_1
  try clear hfz9_0
  try clear hfz9_1
  obtain ⟨kq, x22_2, rfl, HA, HJ2, BK274, HB⟩ := hcut
  cases kq with
  | zero => exact absurd HA.out (by simp [palinoderef18_Right.j0])
  | succ kj2 =>
   have H := HA.out
   clear HA
   simp only [palinoderef18_Right.j0] at H
   by_cases c10 : x22_2 = true
   ·
    subst c10
    have H1 : (some false) = some r := by rw [if_pos rfl] at H; exact H
    clear H
    have H := H1
    clear H1
    obtain rfl := Option.some.inj H
    go_wp2
    go_ret
    exact ⟨by first | rfl | (simp [errW_none, errW_some] <;> rfl) | (simp [*, errW_none, errW_some] <;> rfl), Yr HB⟩
   ·
    replace c10 := Bool.eq_false_iff.mpr c10
    subst c10
    have H1 : (palinoderef18_Right.l0 kj2 0 a0_0 l0_1) = some r := by rw [if_neg (show ¬ (false = true) by decide)] at H; exact H
    clear H
    have H := H1
    clear H1
    have H' := Aside0.mk H
    clear H
    go_wp2
    go_loopg [4] kj2 (fun kq v4 w' => ∃ (x4_2 : Int), v4 = .int .i64 x4_2 ∧ Aside0 (palinoderef18_Right.l0 kq x4_2 a0_0 l0_1 = some r) ∧ Aside0 (kq ≤ kj2) ∧ Aside0 (w'.heap[gb274]? = some (.cells #[.string a0_0, (.slice A0_1 l0_1.length c0_1)] 24 (0, 0))) ∧ Aside0 (Below w.heap.size w w'))
    case atStart => exact ⟨(0), (by first | rfl | (simp; done) | (simp [*]; done)), H', ⟨Nat.le_refl _⟩, ⟨by (with_reducible repeat (first | refine Zn ?_ _ | refine Zd ?_ | refine Za ?_ _)); exact BK274.out⟩, ⟨Yr HB⟩⟩
    case round =>
     clear H'
     try clear c1
     try clear p2
     try clear c3
     try clear c6
     try clear c7
     try clear c7b0
     try clear c7b1
     try clear c10
     try clear hcz5_0
     try clear hcz5_1
     try clear hcz8_0
     try clear hcz8_1
     try clear hcz9_0
     try clear hcz9_1
     try clear hfz5_0
     try clear hfz5_1
     try clear hfz8_0
     try clear hfz8_1
     try clear hfz9_0
     try clear hfz9_1
     try clear p2
     obtain ⟨x4_2, rfl, HA, HK2, BK274, HB⟩ := hrel
     cases gk with
     | zero => exact absurd HA.out (by simp [palinoderef18_Right.l0])
     | succ k2 =>
      have H := HA.out
      clear HA
      simp only [palinoderef18_Right.l0] at H
      by_cases c11 : x4_2 < (l0_1.length : Int)
      ·
       rw [if_pos c11] at H
       have c11b0 : decide (x4_2 < (l0_1.length : Int)) = true := decide_eq_true c11
       clear c11
       by_cases c12 : 0 ≤ x4_2
       ·
        rw [if_pos c12] at H
        have c12b0 : decide (0 ≤ x4_2) = true := decide_eq_true c12
        clear c12
        by_cases c13 : ((rd_T53 l0_1 x4_2).f0) < 0
        ·
         rw [if_pos c13] at H
         have c13b0 : decide (((rd_T53 l0_1 x4_2).f0) < 0) = true := decide_eq_true c13
         clear c13
         obtain rfl := Option.some.inj H
         obtain ⟨⟨hcz14_0, hcz14_1⟩, hfz14_0, hfz14_1⟩ := Zk2 BK274
         have p276 : 0 ≤ (x4_2 : Int) := of_decide_eq_true (by first | (with_reducible assumption) | assumption)
         have q276 : x4_2 < (l0_1.length : Int) := of_decide_eq_true (by first | (with_reducible assumption) | assumption)
         obtain ⟨ad276, e276, hx276_0, hx276_1⟩ := at_T53 HR0_1.out x4_2 p276 q276
         cases e276
         replace hx276_0 := (HB.out.cell (World.block_lt_of_cell? w _ hx276_0)).trans hx276_0
         replace hx276_1 := (HB.out.cell (World.block_lt_of_cell? w _ hx276_1)).trans hx276_1
         replace p276 := eq_true p276
         replace q276 := eq_true q276
         go_wp2_with (first | ((with_reducible refine gate_dst (N := 5) rfl ?_); (try (refine gate_guard (by rfl) ?_; dsimp only)); refine box_event ?hg (N := 5) ?hd (cs := #[.int .i64 0, .int .i64 0]) (t := 53) ?hr ?_; (case hd => rfl); (case hg => rfl); (case hr => first | (go_simp; done) | (go_simp; rfl)); intro gb277 hg w15 hbox hb; have n0_ := Aside0.mk (Zv BK274 hb); have n1_ := Aside0.mk (Yv HB hb); have n2_ := Aside0.mk (hbox); have n3_ := Aside0.mk ((by rw [hg]; exact (below_size (Yr HB)) : w.heap.size ≤ gb277)); have n4_ := Aside0.mk ((by rw [hg]; exact (below_size (Yr HB)) : w.heap.size ≤ gb277)); have n5_ := Aside0.mk ((by rw [hg]; exact Nat.ne_of_lt (blk_lt (g := gb274) (o := .cells #[.string a0_0, .slice (some ad276) l0_1.length c0_1] 24 (0, 0)) (Zr BK274)) : gb274 ≠ gb277)); have n6_ := Aside0.mk ((by rw [hg]; exact Nat.ne_of_gt (blk_lt (g := gb274) (o := .cells #[.string a0_0, .slice (some ad276) l0_1.length c0_1] 24 (0, 0)) (Zr BK274)) : gb277 ≠ gb274)); clear BK274; clear HB; have BK274 := n0_; have HB := n1_; have BK277 := n2_; have GW277 := n3_; have GE277 := n4_; have NB274_277 := n5_; have NB277_274 := n6_; clear n0_ n1_ n2_ n3_ n4_ n5_ n6_; clear hb hbox hg; have hnb16 := NB277_274.out; have hnc16 := NB274_277.out; obtain ⟨⟨hcz17_0, hcz17_1⟩, hfz17_0, hfz17_1⟩ := Zk2 BK277))
         go_ret
         exact ⟨by first | rfl | (simp [errW_none, errW_some] <;> rfl) | (simp [*, errW_none, errW_some] <;> rfl), Yr HB⟩
        ·
         rw [if_neg c13] at H
         have c13b0 : decide (((rd_T53 l0_1 x4_2).f0) < 0) = false := decide_eq_false c13
         clear c13
         by_cases c18 : ((rd_T53 l0_1 x4_2).f0) > 5
         ·
          rw [if_pos c18] at H
          have c18b0 : decide (5 < ((rd_T53 l0_1 x4_2).f0)) = true := decide_eq_true c18
          clear c18
          obtain rfl := Option.some.inj H
          obtain ⟨⟨hcz19_0, hcz19_1⟩, hfz19_0, hfz19_1⟩ := Zk2 BK274
          have p276 : 0 ≤ (x4_2 : Int) := of_decide_eq_true (by first | (with_reducible assumption) | assumption)
          have q276 : x4_2 < (l0_1.length : Int) := of_decide_eq_true (by first | (with_reducible assumption) | assumption)
          obtain ⟨ad276, e276, hx276_0, hx276_1⟩ := at_T53 HR0_1.out x4_2 p276 q276
          cases e276
          replace hx276_0 := (HB.out.cell (World.block_lt_of_cell? w _ hx276_0)).trans hx276_0
          replace hx276_1 := (HB.out.cell (World.block_lt_of_cell? w _ hx276_1)).trans hx276_1
          replace p276 := eq_true p276
          replace q276 := eq_true q276
          go_wp2_with (first | ((with_reducible refine gate_dst (N := 5) rfl ?_); (try (refine gate_guard (by rfl) ?_; dsimp only)); refine box_event ?hg (N := 5) ?hd (cs := #[.int .i64 0, .int .i64 0]) (t := 53) ?hr ?_; (case hd => rfl); (case hg => rfl); (case hr => first | (go_simp; done) | (go_simp; rfl)); intro gb277 hg w20 hbox hb; have n0_ := Aside0.mk (Zv BK274 hb); have n1_ := Aside0.mk (Yv HB hb); have n2_ := Aside0.mk (hbox); have n3_ := Aside0.mk ((by rw [hg]; exact (below_size (Yr HB)) : w.heap.size ≤ gb277)); have n4_ := Aside0.mk ((by rw [hg]; exact (below_size (Yr HB)) : w.heap.size ≤ gb277)); have n5_ := Aside0.mk ((by rw [hg]; exact Nat.ne_of_lt (blk_lt (g := gb274) (o := .cells #[.string a0_0, .slice (some ad276) l0_1.length c0_1] 24 (0, 0)) (Zr BK274)) : gb274 ≠ gb277)); have n6_ := Aside0.mk ((by rw [hg]; exact Nat.ne_of_gt (blk_lt (g := gb274) (o := .cells #[.string a0_0, .slice (some ad276) l0_1.length c0_1] 24 (0, 0)) (Zr BK274)) : gb277 ≠ gb274)); clear BK274; clear HB; have BK274 := n0_; have HB := n1_; have BK277 := n2_; have GW277 := n3_; have GE277 := n4_; have NB274_277 := n5_; have NB277_274 := n6_; clear n0_ n1_ n2_ n3_ n4_ n5_ n6_; clear hb hbox hg; have hnb21 := NB277_274.out; have hnc21 := NB274_277.out; obtain ⟨⟨hcz22_0, hcz22_1⟩, hfz22_0, hfz22_1⟩ := Zk2 BK277))
          go_ret
          exact ⟨by first | rfl | (simp [errW_none, errW_some] <;> rfl) | (simp [*, errW_none, errW_some] <;> rfl), Yr HB⟩
         ·
          rw [if_neg c18] at H
          have c18b0 : decide (5 < ((rd_T53 l0_1 x4_2).f0)) = false := decide_eq_false c18
          clear c18
          by_cases c23 : ((rd_T53 l0_1 x4_2).f1) < 1
          ·
           rw [if_pos c23] at H
           have c23b0 : decide (((rd_T53 l0_1 x4_2).f1) < 1) = true := decide_eq_true c23
           clear c23
           obtain rfl := Option.some.inj H
           obtain ⟨⟨hcz24_0, hcz24_1⟩, hfz24_0, hfz24_1⟩ := Zk2 BK274
           have p276 : 0 ≤ (x4_2 : Int) := of_decide_eq_true (by first | (with_reducible assumption) | assumption)
           have q276 : x4_2 < (l0_1.length : Int) := of_decide_eq_true (by first | (with_reducible assumption) | assumption)
           obtain ⟨ad276, e276, hx276_0, hx276_1⟩ := at_T53 HR0_1.out x4_2 p276 q276
           cases e276
           replace hx276_0 := (HB.out.cell (World.block_lt_of_cell? w _ hx276_0)).trans hx276_0
           replace hx276_1 := (HB.out.cell (World.block_lt_of_cell? w _ hx276_1)).trans hx276_1
           replace p276 := eq_true p276
           replace q276 := eq_true q276
           go_wp2_with (first | ((with_reducible refine gate_dst (N := 5) rfl ?_); (try (refine gate_guard (by rfl) ?_; dsimp only)); refine box_event ?hg (N := 5) ?hd (cs := #[.int .i64 0, .int .i64 0]) (t := 53) ?hr ?_; (case hd => rfl); (case hg => rfl); (case hr => first | (go_simp; done) | (go_simp; rfl)); intro gb277 hg w25 hbox hb; have n0_ := Aside0.mk (Zv BK274 hb); have n1_ := Aside0.mk (Yv HB hb); have n2_ := Aside0.mk (hbox); have n3_ := Aside0.mk ((by rw [hg]; exact (below_size (Yr HB)) : w.heap.size ≤ gb277)); have n4_ := Aside0.mk ((by rw [hg]; exact (below_size (Yr HB)) : w.heap.size ≤ gb277)); have n5_ := Aside0.mk ((by rw [hg]; exact Nat.ne_of_lt (blk_lt (g := gb274) (o := .cells #[.string a0_0, .slice (some ad276) l0_1.length c0_1] 24 (0, 0)) (Zr BK274)) : gb274 ≠ gb277)); have n6_ := Aside0.mk ((by rw [hg]; exact Nat.ne_of_gt (blk_lt (g := gb274) (o := .cells #[.string a0_0, .slice (some ad276) l0_1.length c0_1] 24 (0, 0)) (Zr BK274)) : gb277 ≠ gb274)); clear BK274; clear HB; have BK274 := n0_; have HB := n1_; have BK277 := n2_; have GW277 := n3_; have GE277 := n4_; have NB274_277 := n5_; have NB277_274 := n6_; clear n0_ n1_ n2_ n3_ n4_ n5_ n6_; clear hb hbox hg; have hnb26 := NB277_274.out; have hnc26 := NB274_277.out; obtain ⟨⟨hcz27_0, hcz27_1⟩, hfz27_0, hfz27_1⟩ := Zk2 BK277))
           go_ret
           exact ⟨by first | rfl | (simp [errW_none, errW_some] <;> rfl) | (simp [*, errW_none, errW_some] <;> rfl), Yr HB⟩
          ·
           rw [if_neg c23] at H
           have c23b0 : decide (((rd_T53 l0_1 x4_2).f1) < 1) = false := decide_eq_false c23
           clear c23
           by_cases c28 : ((rd_T53 l0_1 x4_2).f1) > 10000
           ·
            rw [if_pos c28] at H
            have c28b0 : decide (10000 < ((rd_T53 l0_1 x4_2).f1)) = true := decide_eq_true c28
            clear c28
            obtain rfl := Option.some.inj H
            obtain ⟨⟨hcz29_0, hcz29_1⟩, hfz29_0, hfz29_1⟩ := Zk2 BK274
            have p276 : 0 ≤ (x4_2 : Int) := of_decide_eq_true (by first | (with_reducible assumption) | assumption)
            have q276 : x4_2 < (l0_1.length : Int) := of_decide_eq_true (by first | (with_reducible assumption) | assumption)
            obtain ⟨ad276, e276, hx276_0, hx276_1⟩ := at_T53 HR0_1.out x4_2 p276 q276
            cases e276
            replace hx276_0 := (HB.out.cell (World.block_lt_of_cell? w _ hx276_0)).trans hx276_0
            replace hx276_1 := (HB.out.cell (World.block_lt_of_cell? w _ hx276_1)).trans hx276_1
            replace p276 := eq_true p276
            replace q276 := eq_true q276
            go_wp2_with (first | ((with_reducible refine gate_dst (N := 5) rfl ?_); (try (refine gate_guard (by rfl) ?_; dsimp only)); refine box_event ?hg (N := 5) ?hd (cs := #[.int .i64 0, .int .i64 0]) (t := 53) ?hr ?_; (case hd => rfl); (case hg => rfl); (case hr => first | (go_simp; done) | (go_simp; rfl)); intro gb277 hg w30 hbox hb; have n0_ := Aside0.mk (Zv BK274 hb); have n1_ := Aside0.mk (Yv HB hb); have n2_ := Aside0.mk (hbox); have n3_ := Aside0.mk ((by rw [hg]; exact (below_size (Yr HB)) : w.heap.size ≤ gb277)); have n4_ := Aside0.mk ((by rw [hg]; exact (below_size (Yr HB)) : w.heap.size ≤ gb277)); have n5_ := Aside0.mk ((by rw [hg]; exact Nat.ne_of_lt (blk_lt (g := gb274) (o := .cells #[.string a0_0, .slice (some ad276) l0_1.length c0_1] 24 (0, 0)) (Zr BK274)) : gb274 ≠ gb277)); have n6_ := Aside0.mk ((by rw [hg]; exact Nat.ne_of_gt (blk_lt (g := gb274) (o := .cells #[.string a0_0, .slice (some ad276) l0_1.length c0_1] 24 (0, 0)) (Zr BK274)) : gb277 ≠ gb274)); clear BK274; clear HB; have BK274 := n0_; have HB := n1_; have BK277 := n2_; have GW277 := n3_; have GE277 := n4_; have NB274_277 := n5_; have NB277_274 := n6_; clear n0_ n1_ n2_ n3_ n4_ n5_ n6_; clear hb hbox hg; have hnb31 := NB277_274.out; have hnc31 := NB274_277.out; obtain ⟨⟨hcz32_0, hcz32_1⟩, hfz32_0, hfz32_1⟩ := Zk2 BK277))
            go_ret
            exact ⟨by first | rfl | (simp [errW_none, errW_some] <;> rfl) | (simp [*, errW_none, errW_some] <;> rfl), Yr HB⟩
           ·
            rw [if_neg c28] at H
            have c28b0 : decide (10000 < ((rd_T53 l0_1 x4_2).f1)) = false := decide_eq_false c28
            clear c28
            have H' := Aside0.mk H
            clear H
            obtain ⟨⟨hcz33_0, hcz33_1⟩, hfz33_0, hfz33_1⟩ := Zk2 BK274
            have p276 : 0 ≤ (x4_2 : Int) := of_decide_eq_true (by first | (with_reducible assumption) | assumption)
            have q276 : x4_2 < (l0_1.length : Int) := of_decide_eq_true (by first | (with_reducible assumption) | assumption)
            obtain ⟨ad276, e276, hx276_0, hx276_1⟩ := at_T53 HR0_1.out x4_2 p276 q276
            cases e276
            replace hx276_0 := (HB.out.cell (World.block_lt_of_cell? w _ hx276_0)).trans hx276_0
            replace hx276_1 := (HB.out.cell (World.block_lt_of_cell? w _ hx276_1)).trans hx276_1
            replace p276 := eq_true p276
            replace q276 := eq_true q276
            go_wp2_with (first | ((with_reducible refine gate_dst (N := 5) rfl ?_); (try (refine gate_guard (by rfl) ?_; dsimp only)); refine box_event ?hg (N := 5) ?hd (cs := #[.int .i64 0, .int .i64 0]) (t := 53) ?hr ?_; (case hd => rfl); (case hg => rfl); (case hr => first | (go_simp; done) | (go_simp; rfl)); intro gb277 hg w34 hbox hb; have n0_ := Aside0.mk (Zv BK274 hb); have n1_ := Aside0.mk (Yv HB hb); have n2_ := Aside0.mk (hbox); have n3_ := Aside0.mk ((by rw [hg]; exact (below_size (Yr HB)) : w.heap.size ≤ gb277)); have n4_ := Aside0.mk ((by rw [hg]; exact (below_size (Yr HB)) : w.heap.size ≤ gb277)); have n5_ := Aside0.mk ((by rw [hg]; exact Nat.ne_of_lt (blk_lt (g := gb274) (o := .cells #[.string a0_0, .slice (some ad276) l0_1.length c0_1] 24 (0, 0)) (Zr BK274)) : gb274 ≠ gb277)); have n6_ := Aside0.mk ((by rw [hg]; exact Nat.ne_of_gt (blk_lt (g := gb274) (o := .cells #[.string a0_0, .slice (some ad276) l0_1.length c0_1] 24 (0, 0)) (Zr BK274)) : gb277 ≠ gb274)); clear BK274; clear HB; have BK274 := n0_; have HB := n1_; have BK277 := n2_; have GW277 := n3_; have GE277 := n4_; have NB274_277 := n5_; have NB277_274 := n6_; clear n0_ n1_ n2_ n3_ n4_ n5_ n6_; clear hb hbox hg; have hnb35 := NB277_274.out; have hnc35 := NB274_277.out; obtain ⟨⟨hcz36_0, hcz36_1⟩, hfz36_0, hfz36_1⟩ := Zk2 BK277))
            go_roundg k2
            case measure => have := HJ2.out; have := HK2.out; omega
            case rel => exact ⟨(wrap64 (x4_2 + 1)), (by first | rfl | (simp; done) | (simp [*]; done)), H', ⟨by have := HJ2.out; have := HK2.out; omega⟩, ⟨by (with_reducible repeat (first | refine Zn ?_ _ | refine Zd ?_ | refine Za ?_ _)); refine Zq ?_ NB274_277.out _; (with_reducible repeat (first | refine Zn ?_ _ | refine Zd ?_ | refine Za ?_ _)); refine Zq ?_ NB274_277.out _; (with_reducible repeat (first | refine Zn ?_ _ | refine Zd ?_ | refine Za ?_ _)); exact BK274.out⟩, ⟨Yr HB⟩⟩
       ·
        rw [if_neg c12] at H
        exact absurd H (by simp)
      ·
       rw [if_neg c11] at H
       have c11b0 : decide (x4_2 < (l0_1.length : Int)) = false := decide_eq_false c11
       clear c11
       obtain rfl := Option.some.inj H
       obtain ⟨⟨hcz37_0, hcz37_1⟩, hfz37_0, hfz37_1⟩ := Zk2 BK274
       go_wp2
       go_ret
       exact ⟨by first | rfl | (simp [errW_none, errW_some] <;> rfl) | (simp [*, errW_none, errW_some] <;> rfl), Yr HB⟩

/-! ### palinoderef19_time: function 39 -/
def palinoderef19_time.f (a0 : Int) : Option (Bool) := if a0 ≥ 0 then (some (decide (a0 ≤ 1099511627776))) else (some false)
set_option maxHeartbeats 8000000 in
set_option maxRecDepth 100000 in
theorem palinoderef19_time.calls (a0 : Int) (r : Bool) (w : World) (h : palinoderef19_time.f a0 = some r) :
  Calls Try.prog 39 #[.int .i64 a0] w fun e w' => e = .returned (.bool r) ∧ Drawn0 w w' := by
 have H : (if a0 ≥ 0 then (some (decide (a0 ≤ 1099511627776))) else (some false)) = some r := h
 clear h
 by_cases c2 : a0 ≥ 0
 ·
  rw [if_pos c2] at H
  have c2b0 : decide (0 ≤ a0) = true := decide_eq_true c2
  clear c2
  obtain rfl := Option.some.inj H
  go_enter Try.func39, Try.ntmps39
  go_wp2
  go_ret
  exact ⟨by first | rfl | (simp; done) | (simp [*]; done), by repeat (first | exact Drawn0.refl _ | apply Drawn0.step)⟩
 ·
  rw [if_neg c2] at H
  have c2b0 : decide (0 ≤ a0) = false := decide_eq_false c2
  clear c2
  obtain rfl := Option.some.inj H
  go_enter Try.func39, Try.ntmps39
  go_wp2
  go_ret
  exact ⟨by first | rfl | (simp; done) | (simp [*]; done), by repeat (first | exact Drawn0.refl _ | apply Drawn0.step)⟩

end Go.Proofs.Ytfhlpkcapohnoaa.Print
