/- Contracts proved by hand: see the theorems' own lines. -/
import Derived.Test.YtadfbclebdocnaaHBloomMay
import Derived.Test.YtadfbclebdocnaaPrint0
import Derived.Test.YtadfbclebdocnaaPrint1
import Derived.Test.YtadfbclebdocnaaXBytesRow
namespace Go.Proofs.Ytadfbclebdocnaa.Print
open Go.RowKit Go.Proofs.YtadfbclebdocnaaW.PrintWords Go.Proofs.YtadfbclebdocnaaW.PrintLast Go.Proofs.YtadfbclebdocnaaW.PrintMore Go.Proofs.YtadfbclebdocnaaX
set_option linter.unusedVariables false
set_option linter.unusedSimpArgs false

/-- The first bytes with those of another text set as well. -/
def ors (xs : List Int) (o : ByteArray) : Nat → List Int
  | 0 => xs
  | i + 1 => (ors xs o i).set i (bits .or .u8 ((ors xs o i).getD i 0) (bt o (i : Int)))
theorem ors_length (xs : List Int) (o : ByteArray) (i : Nat) : (ors xs o i).length = xs.length := by
  induction i with
  | zero => rfl
  | succ i ih => simp only [ors, List.length_set, ih]

set_option maxHeartbeats 4000000 in
set_option maxRecDepth 100000 in
theorem palinodelaw11_BloomMore.calls (s o key : ByteArray) (w : World) (hs : s.size ≤ 140737488351232) (ho : o.size ≤ 140737488351232) (hk : key.size ≤ 140737488351232) (hex : palinodelaw11_examples.f = some true)
    (hmay : mayR s key = true → mayR (strOfNums (ors (bytesOf s) o (min (s.size - 1) o.size))) key = true) :
    Calls Try.prog 7 #[.string s, .string o, .string key] w fun e w' => e = .returned (.bool true) ∧ Below w.heap.size w w' := by
  have HB := Aside0.mk (Below.refl w.heap.size w)
  have HEX := Aside0.mk hex
  have HMAY := Aside0.mk hmay
  clear hex hmay
  have kb := fun (W : World) => print_bytes (P := Try.prog) 9 36 5 Try.underlying9 Try.underlying36 Try.underlying5 s W
  by_cases c1 : s.size < 2
  · have c1b : decide ((s.size : Int) < 2) = true := decide_eq_true (by omega)
    clear c1
    go_enter Try.func7, Try.ntmps7
    go_wp2_with (first | (go_at_call 8; (with_reducible refine (palinodelaw11_examples.calls true _ HEX.out).mono ?_); rintro e w1 ⟨rfl, hb⟩; have n0_ := Aside0.mk (Yv HB hb); clear HB hb; have HB := n0_; clear n0_))
    refine bodyPost_ret (results_tmp rfl _ _ _) rfl ?_
    exact ⟨rfl, HB.out⟩
  · by_cases c2 : 200 < s.size
    · have c1b : decide ((s.size : Int) < 2) = false := decide_eq_false (by omega)
      have c2b : decide (200 < (s.size : Int)) = true := decide_eq_true (by omega)
      clear c1 c2
      go_enter Try.func7, Try.ntmps7
      go_wp2_with (first | (go_at_call 8; (with_reducible refine (palinodelaw11_examples.calls true _ HEX.out).mono ?_); rintro e w1 ⟨rfl, hb⟩; have n0_ := Aside0.mk (Yv HB hb); clear HB hb; have HB := n0_; clear n0_))
      refine bodyPost_ret (results_tmp rfl _ _ _) rfl ?_
      exact ⟨rfl, HB.out⟩
    · have c1b : decide ((s.size : Int) < 2) = false := decide_eq_false (by omega)
      have c2b : decide (200 < (s.size : Int)) = false := decide_eq_false (by omega)
      have hM : bloom_May.f s key = some (mayR s key) := by unfold bloom_May.f; rw [if_pos ⟨by omega, by omega⟩]
      have HM := Aside0.mk hM
      clear hM
      obtain ⟨L, hL⟩ : ∃ L : Nat, s.size = L + 1 := ⟨s.size - 1, by omega⟩
      have hL1 : (s.size : Int) - 1 = (L : Int) := by omega
      have HL := Aside0.mk hL
      clear hL
      go_enter Try.func7, Try.ntmps7
      go_wp2_with (first | (go_at_call 8; (with_reducible refine (palinodelaw11_examples.calls true _ HEX.out).mono ?_); rintro e w2 ⟨rfl, hb⟩; have n0_ := Aside0.mk (Yv HB hb); clear HB hb; have HB := n0_; clear n0_))
      have HV := Aside0.mk (BRow_conv w2 w.heap.size 5 s (below_size HB.out) (by omega))
      have n0_ := Aside0.mk (bytes_below HB.out (below_size HB.out) 5 s)
      have hgb := below_size HB.out
      clear HB; have HB := n0_; clear n0_
      obtain ⟨N, hN⟩ : ∃ N, N = min (s.size - 1) o.size := ⟨_, rfl⟩
      rw [← hN] at HMAY
      generalize hg_ : w2.heap.size = g at HV ⊢
      rw [hg_] at hgb
      generalize grownCap w2 s.size 0 5 = cap at HV ⊢
      generalize Lib.bytesWorld w2 5 s = w3 at HV HB ⊢
      go_loopg [9] N (fun kq v9 w' => ∃ (i : Nat) (xs : List Int), v9 = .int .i64 i ∧ Aside0 (i + kq = N) ∧ Aside0 (xs = ors (bytesOf s) o i) ∧ Aside0 (BRow w' w.heap.size 5 (.slice (some ⟨g, 0, none⟩) s.size cap) xs) ∧ Aside0 (Below w.heap.size w w'))
      case atStart => exact ⟨0, bytesOf s, rfl, ⟨by omega⟩, ⟨rfl⟩, HV, HB⟩
      case round =>
        clear HV
        obtain ⟨i, xs, rfl, HI, HF, HV, HB⟩ := hrel
        have hxl : xs.length = s.size := by rw [HF.out, ors_length, bytesOf_length]
        cases gk with
        | zero =>
          have hi := HI.out
          have hiN : i = N := by omega
          have hor : (¬ i < L) ∨ (i < L ∧ ¬ i < o.size) := by have := HL.out; omega
          rw [← hxl] at HV
          have hcv := Kd.C_string (P := Try.prog) (A := some ⟨g, 0, none⟩) (c := cap) Try.underlying36 Try.underlying5 Try.underlying9 (BRow.reads HV.out)
          rw [hxl] at hcv
          have hM2 : bloom_May.f (strOfNums xs) key = some (mayR (strOfNums xs) key) := by unfold bloom_May.f; rw [if_pos ⟨by rw [show (strOfNums xs).size = xs.length by simp [strOfNums, ByteArray.size], hxl]; omega, by omega⟩]
          have HM2 := Aside0.mk hM2
          clear hM2
          rw [HF.out, hiN] at HM2
          rw [HF.out, hiN] at hcv
          have hF := HF.out
          clear HI hN hi
          subst hiN
          rcases hor with c3 | ⟨c3, c4⟩
          all_goals
            first | (have c3b : decide ((i : Int) < (L : Int)) = false := decide_eq_false (by omega)) | (have c3b : decide ((i : Int) < (L : Int)) = true := decide_eq_true (by omega); have c4b : decide ((i : Int) < (o.size : Int)) = false := decide_eq_false (by omega))
            cases hy : mayR s key with
            | false =>
              rw [hy] at HM
              go_wp2_with (first | (go_at_call 14; (with_reducible refine (bloom_May.calls s key false _ HM.out).mono ?_); rintro e w8 ⟨rfl, hb⟩; have n0_ := Aside0.mk (Yv HB hb); clear HB hb; have HB := n0_; clear n0_))
              refine bodyPost_ret (results_tmp rfl _ _ _) rfl ?_
              exact ⟨rfl, HB.out⟩
            | true =>
              have hy2 := HMAY.out hy
              rw [hy] at HM
              rw [hy2] at HM2
              go_wp2_with (first | (go_at_call 14; (with_reducible refine (bloom_May.calls s key true _ HM.out).mono ?_); rintro e w8 ⟨rfl, hb⟩; have n0_ := Aside0.mk (Yv HB hb); have n1_ := Aside0.mk (BRow.below HV.out hb); clear HB HV; have HB := n0_; have HV := n1_; clear n0_ n1_ hcv; clear hb; have hcv := Kd.C_string (P := Try.prog) (A := some ⟨g, 0, none⟩) (c := cap) Try.underlying36 Try.underlying5 Try.underlying9 (BRow.reads HV.out); rw [hxl, hF] at hcv) | (go_at_call 14; (with_reducible refine (bloom_May.calls _ key true _ HM2.out).mono ?_); rintro e w9 ⟨rfl, hb⟩; have n0_ := Aside0.mk (Yv HB hb); clear HB hb; have HB := n0_; clear n0_))
              refine bodyPost_ret (results_tmp rfl _ _ _) rfl ?_
              exact ⟨rfl, HB.out⟩
        | succ m =>
          have hi := HI.out
          have hls : i < L ∧ i < s.size ∧ i < o.size := by have := HL.out; omega
          have c3b : decide ((i : Int) < (L : Int)) = true := decide_eq_true (by omega)
          have c4b : decide ((i : Int) < (o.size : Int)) = true := decide_eq_true (by omega)
          go_wp2
          --REG
          have hj : i < xs.length := by omega
          have p0 : (0 ≤ (i : Int)) = True := eq_true (by omega)
          have q0 : ((i : Int) < (s.size : Int)) = True := eq_true (by omega)
          have q1 : ((i : Int) < (o.size : Int)) = True := eq_true (by omega)
          have hx9 : ∀ h : i < o.size, ((o[i]'h).toNat : Int) = bt o (i : Int) := fun h => bt_at o (i : Int) h
          have HV1 := Aside0.mk (HV.out)
          rw [← hxl] at HV1
          have n0_ := Aside0.mk (Yd HB.out); have n1_ := Aside0.mk (BRow.drew HV1.out)
          clear HB HV HV1
          have HB := n0_; have HV := n1_
          clear n0_ n1_
          obtain ⟨hc, hf⟩ := BRow.cell HV.out i hj
          have hxe : xs[i] = xs.getD i 0 := by rw [List.getD_eq_getElem?_getD, List.getElem?_eq_getElem hj]; rfl
          rw [hxe] at hc
          clear hxe
          generalize hx_ : xs.getD i 0 = x at hc
          refine start_ (n := 12) (S := fun w' => w'.cell? ⟨g, i, none⟩ = some (.int .u8 x)) (ds := [11]) #[false, false, false, false, false, false, false, false, false, false, false, false] (by kernel_rfl) rfl rfl hc (fun hHeld => ?_)
          generalize wr.drew = w20 at HB HV hc hf hHeld ⊢
          refine pure_ (i := 0) (N := some 35) (v := ?_) (a' := ?_) #[true, false, false, false, false, false, false, false, false, false, false, false] rfl rfl (by kernel_rfl) (fun _ _ _ h => h) (Or.inl ⟨by rfl, ?_⟩) ?_ ?_
          rotate_left
          · intro w'
            go_simp
            with_reducible rfl
          rotate_left
          · simp only [Act.put, List.setIfInBounds_toArray, List.set_cons_zero, List.set_cons_succ, i64_w, i32_w]
            rfl
          refine pure_ (i := 1) (N := some 36) (v := ?_) (a' := ?_) #[true, true, false, false, false, false, false, false, false, false, false, false] rfl rfl (by kernel_rfl) (fun _ _ _ h => h) (Or.inl ⟨by rfl, ?_⟩) ?_ ?_
          rotate_left
          · intro w'
            go_simp
            with_reducible rfl
          rotate_left
          · simp only [Act.put, List.setIfInBounds_toArray, List.set_cons_zero, List.set_cons_succ, i64_w, i32_w]
            rfl
          refine pure_ (i := 2) (N := some 37) (v := ?_) (a' := ?_) #[true, true, true, false, false, false, false, false, false, false, false, false] rfl rfl (by kernel_rfl) (fun _ _ _ h => h) (Or.inl ⟨by rfl, ?_⟩) ?_ ?_
          rotate_left
          · intro w'
            go_simp
            with_reducible rfl
          rotate_left
          · simp only [Act.put, List.setIfInBounds_toArray, List.set_cons_zero, List.set_cons_succ, i64_w, i32_w]
            rfl
          refine pure_ (i := 3) (N := some 38) (v := ?_) (a' := ?_) #[true, true, true, true, false, false, false, false, false, false, false, false] rfl rfl (by kernel_rfl) (fun _ _ _ h => h) (Or.inl ⟨by rfl, ?_⟩) ?_ ?_
          rotate_left
          · intro w'
            go_simp
            with_reducible rfl
          rotate_left
          · simp only [Act.put, List.setIfInBounds_toArray, List.set_cons_zero, List.set_cons_succ, i64_w, i32_w]
            rfl
          refine pure_ (i := 4) (N := some 39) (v := ?_) (a' := ?_) #[true, true, true, true, true, false, false, false, false, false, false, false] rfl rfl (by kernel_rfl) (fun _ _ _ h => h) (Or.inl ⟨by rfl, ?_⟩) ?_ ?_
          rotate_left
          · intro w'
            go_simp
            with_reducible rfl
          rotate_left
          · simp only [Act.put, List.setIfInBounds_toArray, List.set_cons_zero, List.set_cons_succ, i64_w, i32_w]
            rfl
          refine take_ (i := 5) (N := some 40) (v := ?_) (a' := ?_) #[true, true, true, true, true, true, false, false, false, false, false, false] rfl rfl (by kernel_rfl) (fun _ _ _ h => h) (Or.inl ⟨by rfl, ?_⟩) hHeld ?_ ?_
          rotate_left
          · rintro w' s0
            go_simp
            with_reducible rfl
          rotate_left
          · simp only [Act.put, List.setIfInBounds_toArray, List.set_cons_zero, List.set_cons_succ, i64_w, i32_w]
            rfl
          refine pure_ (i := 6) (N := some 41) (v := ?_) (a' := ?_) #[true, true, true, true, true, true, true, false, false, false, false, false] rfl rfl (by kernel_rfl) (fun _ _ _ h => h) (Or.inl ⟨by rfl, ?_⟩) ?_ ?_
          rotate_left
          · intro w'
            go_simp
            with_reducible rfl
          rotate_left
          · simp only [Act.put, List.setIfInBounds_toArray, List.set_cons_zero, List.set_cons_succ, i64_w, i32_w]
            rfl
          refine pure_ (i := 7) (N := some 42) (v := ?_) (a' := ?_) #[true, true, true, true, true, true, true, true, false, false, false, false] rfl rfl (by kernel_rfl) (fun _ _ _ h => h) (Or.inl ⟨by rfl, ?_⟩) ?_ ?_
          rotate_left
          · intro w'
            go_simp
            with_reducible rfl
          rotate_left
          · simp only [Act.put, List.setIfInBounds_toArray, List.set_cons_zero, List.set_cons_succ, i64_w, i32_w]
            rfl
          refine pure_ (i := 8) (N := some 43) (v := ?_) (a' := ?_) #[true, true, true, true, true, true, true, true, true, false, false, false] rfl rfl (by kernel_rfl) (fun _ _ _ h => h) (Or.inl ⟨by rfl, ?_⟩) ?_ ?_
          rotate_left
          · intro w'
            go_simp
            with_reducible rfl
          rotate_left
          · simp only [Act.put, List.setIfInBounds_toArray, List.set_cons_zero, List.set_cons_succ, i64_w, i32_w]
            rfl
          refine pure_ (i := 9) (N := some 44) (v := ?_) (a' := ?_) #[true, true, true, true, true, true, true, true, true, true, false, false] rfl rfl (by kernel_rfl) (fun _ _ _ h => h) (Or.inl ⟨by rfl, ?_⟩) ?_ ?_
          rotate_left
          · intro w'
            go_simp
            with_reducible rfl
          rotate_left
          · simp only [Act.put, List.setIfInBounds_toArray, List.set_cons_zero, List.set_cons_succ, i64_w, i32_w]
            rfl
          refine pure_ (i := 10) (N := some 45) (v := ?_) (a' := ?_) #[true, true, true, true, true, true, true, true, true, true, true, false] rfl rfl (by kernel_rfl) (fun _ _ _ h => h) (Or.inl ⟨by rfl, ?_⟩) ?_ ?_
          rotate_left
          · intro w'
            go_simp
            with_reducible rfl
          rotate_left
          · simp only [Act.put, List.setIfInBounds_toArray, List.set_cons_zero, List.set_cons_succ, i64_w, i32_w]
            rfl
          refine last_ (i := 11) (N := none) #[true, true, true, true, true, true, true, true, true, true, true, true] rfl rfl (by kernel_rfl) (by decide) (fun K hK => ?_)
          refine skip_ (w1 := ?_) (by rfl) rfl ?_ ?_
          rotate_left
          · go_simp
            rfl
          refine hK.out _ _ ?_
          clear hK K
          refine done_ (by kernel_rfl) ?_
          go_wp2
          go_roundg m
          case measure => omega
          case rel =>
            have hgA := Aside0.mk hgb
            have hB := BRow.set HV.out i (bits .or .u8 x (bt o (i : Int)))
            rw [hxl] at hB
            refine ⟨i + 1, xs.set i (bits .or .u8 x (bt o (i : Int))), (by go_num), ⟨by omega⟩, ⟨?_⟩, ⟨hB⟩, ⟨Yr HB⟩⟩
            show _ = (ors (bytesOf s) o i).set i (bits .or .u8 ((ors (bytesOf s) o i).getD i 0) (bt o (i : Int)))
            rw [← HF.out, hx_]
          --END
end Go.Proofs.Ytadfbclebdocnaa.Print
