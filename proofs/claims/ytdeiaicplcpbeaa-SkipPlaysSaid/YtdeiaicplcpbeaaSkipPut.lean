import Derived.Test.YtdeiaicplcpbeaaSkipIns
namespace Go.Proofs.Ytdeiaicplcpbeaa.Print
open Go.RowKit Go.Proofs.YtdeiaicplcpbeaaX Go.Proofs.YtdeiaicplcpbeaaW.PrintWords Go.Proofs.YtdeiaicplcpbeaaW.PrintLast Go.Proofs.YtdeiaicplcpbeaaW.PrintMore
set_option linter.unusedVariables false
set_option linter.unusedSimpArgs false

theorem cell_set_other (W : World) (b o : Nat) (v : Value) (q : Addr) (h : q.block ≠ b) : (W.setCell ⟨b, o, none⟩ v).cell? q = W.cell? q := by
  unfold World.cell?
  rw [Below.heap_setCell W ⟨b, o, none⟩ v q.block h]
set_option maxHeartbeats 4000000 in
set_option maxRecDepth 100000 in
theorem put_calls (lb : Nat) (L : List Nd) (key val : ByteArray) (h : Int) (n0 : Nat) (w : World) (hS : SK w lb L) (hlen : L.length ≤ 1000000) (hn0 : ∀ b ∈ blks lb L, n0 ≤ b) :
    Calls Try.prog 9 #[.pointer (some ⟨lb, 0, none⟩), .string key, .string val, .int .i64 h] w fun e w' => ∃ nb, w.heap.size ≤ nb ∧ e = .returned (.bool (findN key L).isNone) ∧ SK w' lb (putL key val h nb L) ∧ Fr lb L w w' ∧ Below n0 w w' := by
  have hs := search_calls lb L key w hS
  obtain ⟨nx, hH, hL, hG⟩ := hS
  have hn0w : n0 ≤ w.heap.size := Nat.le_of_lt (Nat.lt_of_le_of_lt (hn0 lb List.mem_cons_self) (hH.lt List.mem_cons_self))
  have hlm := less_more key L
  have hnx0 := hL.last hlm.symm 0
  rw [first0 (fun x hx => (hG.hs x (by rw [← hlm]; exact List.mem_append_right _ hx)).1)] at hnx0
  have hbm := last_blks 0 lb (lessK key L) (moreK key L)
  rw [hlm] at hbm
  obtain ⟨m1, hmx1⟩ : ∃ m : Nat, (if h < 1 then 1 else h) = (m : Int) := ⟨(if h < 1 then 1 else h).toNat, by omega⟩
  obtain ⟨m, hmx⟩ : ∃ m : Nat, (if (12 : Int) < (m1 : Int) then 12 else (m1 : Int)) = (m : Int) := ⟨(if (12 : Int) < (m1 : Int) then 12 else (m1 : Int)).toNat, by omega⟩
  have hm12 : 1 ≤ m ∧ m ≤ 12 := by omega
  have hhg : hgt h = m := by unfold hgt; omega
  go_enter Try.func9, Try.ntmps9
  go_upto_region 2 with (first | (go_at_call 21; refine hs.mono ?_; rintro e w1 ⟨rfl, hb1⟩) | (refine wpList_store_row rfl 47 (.tmp 9) (.tmp 15) rfl w1.heap.size (lanes (lastsF lb L key)).toArray rfl rfl 47 (lanes (fun _ => none)).toArray (heap_alloc_new w1 _) (by kernel_rfl) rfl (lanes_one _) ?_))
  obtain ⟨g, hg⟩ : ∃ g, w1.heap.size = g := ⟨_, rfl⟩
  have hgw : w.heap.size ≤ g := by rw [← hg]; exact hb1.size
  refine wpW (fun X => PRow X g (lastsF lb L key) ∧ Below g w1 X) ⟨by rw [← hg]; exact setRow_heap _ _ _ _ _ _ (heap_alloc_new w1 _), by rw [← hg]; exact below_setRow ((Below.refl _ w1).alloc (Nat.le_refl _) _) (Nat.le_refl _) _⟩ ?_
  rintro X ⟨hPX, hBX⟩
  rw [hg]
  have hBwX : Below w.heap.size w X := hb1.trans (hBX.mono hgw)
  have hX : SH X lb L.length L nx := hH.move (fun b hb => hBwX.block b (hH.lt hb))
  obtain ⟨hl0, _⟩ := hPX.cell 0 (by decide)
  rw [show lastsF lb L key 0 = some (lastAb 0 lb (lessK key L)) from rfl, ptr_some] at hl0
  obtain ⟨hl1, _⟩ := hX.lane hbm 0 (by decide)
  rw [hnx0] at hl1
  have hl1 : X.cell? ⟨lastAb 0 lb (lessK key L), 3, none⟩ = _ := hl1
  clear hs hnx0
  generalize lastAb 0 lb (lessK key L) = d0 at hl0 hl1 hbm
  cases hm : (moreK key L).head? with
  | none =>
    have hfn : findN key L = none := by unfold findN; rw [hm]
    rw [hm] at hl1
    simp only [Option.map_none, ptr_none] at hl1
    go_upto_region 7 with (fail)
    obtain ⟨nb, hnbe⟩ : ∃ nb, X.heap.size = nb := ⟨_, rfl⟩
    have hnbL : nb ∉ blks lb L := fun hm => by have := hX.lt hm; omega
    have hgX := (Array.getElem?_eq_some_iff.1 hPX).1
    have hadd := hX.add (⟨key, val, m, nb⟩ : Nd) hnbe.symm (L' := lessK key L ++ (⟨key, val, m, nb⟩ : Nd) :: moreK key L) (fun y hy => by
      rcases List.mem_append.1 hy with hy | hy
      · exact .inl (by rw [← hlm]; exact List.mem_append_left _ hy)
      · rcases List.mem_cons.1 hy with hy | hy
        · exact .inr hy
        · exact .inl (by rw [← hlm]; exact List.mem_append_right _ hy))
    have hBa : Below X.heap.size X (X.alloc (.cells (ndC (⟨key, val, m, nb⟩ : Nd) (fun _ => none)) 49)) := (Below.refl _ X).alloc (Nat.le_refl _) _
    have hPa : PRow (X.alloc (.cells (ndC (⟨key, val, m, nb⟩ : Nd) (fun _ => none)) 49)) g (lastsF lb L key) := blk_below hPX hBa
    have hk0 : (fun b => if b = nb then fun _ => none else nx b) = nxK nx lb nb (lessK key L) 0 := by
      funext b j
      unfold nxK
      by_cases c : b = nb
      · rw [if_pos c, if_pos c, if_neg (Nat.not_lt_zero _)]
      · rw [if_neg c, if_neg c, if_neg (fun e => Nat.not_lt_zero _ e.1)]
    rw [show (⟨key, val, m, nb⟩ : Nd).b = nb from rfl, hk0] at hadd
    have hFa : Fr lb L w (X.alloc (.cells (ndC (⟨key, val, m, nb⟩ : Nd) (fun _ => none)) 49)) := fun k hk hm => (hBa.block k (Nat.lt_of_lt_of_le hk hBwX.size)).trans (hBwX.block k hk)
    have hBwa : Below n0 w (X.alloc (.cells (ndC (⟨key, val, m, nb⟩ : Nd) (fun _ => none)) 49)) := (hBwX.mono hn0w).trans (hBa.mono (Nat.le_trans hn0w hBwX.size))
    generalize hWa : X.alloc (.cells (ndC (⟨key, val, m, nb⟩ : Nd) (fun _ => none)) 49) = Wa at hadd hPa hFa hBwa
    refine wpW (fun Y => Y = Wa) hWa ?_
    rintro Y rfl
    clear hWa hBa hX
    rw [hnbe]
    obtain ⟨_, _, hhc, _⟩ := hadd.parts (x := (⟨key, val, m, nb⟩ : Nd)) (by simp)
    dsimp only at hhc
    go_wp2
    go_loopg [47] m (fun gg v47 Wi => ∃ (k : Nat), k ≤ m ∧ m - k ≤ gg ∧ v47 = .int .i64 k ∧ SH Wi lb L.length (lessK key L ++ (⟨key, val, m, nb⟩ : Nd) :: moreK key L) (nxK nx lb nb (lessK key L) k) ∧ PRow Wi g (lastsF lb L key) ∧ Fr lb L w Wi ∧ Below n0 w Wi)
    case atStart => exact ⟨0, Nat.zero_le _, Nat.le_refl _, rfl, hadd, hPa, hFa, hBwa⟩
    case round =>
      clear hadd hPa hFa hBwa hhc
      obtain ⟨k, hkm, hkg, rfl, hSi, hPi, hFi, hBi⟩ := hrel
      by_cases hkt : k < m
      · have hkz : (k : Int) < (m : Int) := by omega
        have hk12 : k < 12 := by omega
        have hk12z : (k : Int) < 12 := by omega
        obtain ⟨d, hd⟩ : ∃ d, lastAb k lb (lessK key L) = d := ⟨_, rfl⟩
        have hdL : d ∈ blks lb L := by rw [← hd]; have := last_blks k lb (lessK key L) (moreK key L); rwa [hlm] at this
        have hdb : d ≠ nb := fun e => hnbL (by rw [← e]; exact hdL)
        have hdL' : d ∈ blks lb (lessK key L ++ (⟨key, val, m, nb⟩ : Nd) :: moreK key L) := by
          rw [← hlm] at hdL
          unfold blks at hdL ⊢
          simp only [List.map_append, List.map_cons, List.mem_cons, List.mem_append] at hdL ⊢
          rcases hdL with h | h | h
          · exact .inl h
          · exact .inr (.inl h)
          · exact .inr (.inr (.inr h))
        have hnL' : nb ∈ blks lb (lessK key L ++ (⟨key, val, m, nb⟩ : Nd) :: moreK key L) := List.mem_cons_of_mem _ (List.mem_map.2 ⟨⟨key, val, m, nb⟩, by simp, rfl⟩)
        go_upto_region 10 with (fail)
        have hD : Below wr.heap.size wr wr.drew := below_drew1 (Below.refl _ _)
        have hSd : SH wr.drew lb L.length _ (nxK nx lb nb (lessK key L) k) := hSi.move (fun b hb => hD.block b (hSi.lt hb))
        have hPd : PRow wr.drew g (lastsF lb L key) := blk_below hPi hD
        have hFd : Fr lb L w wr.drew := fun i hi hm => (hD.block i (Nat.lt_of_lt_of_le hi hBi.size)).trans (hFi i hi hm)
        have hBd : Below n0 w wr.drew := hBi.trans (hD.mono (Nat.le_trans hn0w hBi.size))
        obtain ⟨hp1, hq1⟩ := hPd.cell k hk12
        rw [show lastsF lb L key k = some d by rw [← hd]; rfl, ptr_some] at hp1
        obtain ⟨hp2, hq2⟩ := hSd.lane hdL' k hk12
        obtain ⟨hp3, hq3⟩ := hSd.lane hnL' k hk12
        have hnd : nxK nx lb nb (lessK key L) k d k = nx d k := by unfold nxK; rw [if_neg hdb, if_neg (fun e => Nat.lt_irrefl _ e.1)]
        rw [hnd] at hp2
        obtain ⟨pa, hpa⟩ : ∃ pa, ptrV (nx d k) = .pointer pa := by cases nx d k <;> exact ⟨_, rfl⟩
        rw [hpa] at hp2
        have hgd : g ≠ d := fun e => by
          have h1 := hSd.lt hdL'
          rcases List.mem_cons.1 hdL' with h | h
          · have h2 := hSd.head
            rw [← h, ← e, hPd] at h2
            simp at h2
          · obtain ⟨z, hz, hzb⟩ := List.mem_map.1 h
            have h2 := hSd.node z hz
            rw [hzb, ← e, hPd] at h2
            simp at h2
        have hgn : g ≠ nb := by omega
        have hs1 := hSd.set hnL' k hk12 (nx d k)
        have hs2 := hs1.set hdL' k hk12 (some nb)
        have hfz := hs1.lane hdL' k hk12
        rw [hpa] at hs1 hs2 hfz
        rw [ptr_some] at hs2
        obtain ⟨hpf, hqf⟩ := hfz
        have hnk := nxK_step (nx := nx) hd hdb
        have hs3 := hnk ▸ hs2
        have hP1 : PRow (wr.drew.setCell ⟨nb, 3 + k, none⟩ (.pointer pa)) g (lastsF lb L key) := (Below.heap_setCell _ _ _ _ hgn).trans hPd
        have hP2 : PRow ((wr.drew.setCell ⟨nb, 3 + k, none⟩ (.pointer pa)).setCell ⟨d, 3 + k, none⟩ (.pointer (some ⟨nb, 0, none⟩))) g (lastsF lb L key) := (Below.heap_setCell _ _ _ _ hgd).trans hP1
        have hF2 : Fr lb L w ((wr.drew.setCell ⟨nb, 3 + k, none⟩ (.pointer pa)).setCell ⟨d, 3 + k, none⟩ (.pointer (some ⟨nb, 0, none⟩))) := fun i hi hm => (Below.heap_setCell _ _ _ _ (fun e => hm (by rw [e]; exact hdL))).trans ((Below.heap_setCell _ _ _ _ (fun e => by have : i = nb := e; have := hBwX.size; omega)).trans (hFd i hi hm))
        have hB2 : Below n0 w ((wr.drew.setCell ⟨nb, 3 + k, none⟩ (.pointer pa)).setCell ⟨d, 3 + k, none⟩ (.pointer (some ⟨nb, 0, none⟩))) := (hBd.setCell (p := ⟨nb, 3 + k, none⟩) (by have := hBwX.size; show n0 ≤ nb; omega) _).setCell (p := ⟨d, 3 + k, none⟩) (hn0 d hdL) _
        clear hs1 hs2 hnk hnd hpa hP1 hSi hPi hFi hBi hFd hBd hSd hPd
        refine start_ (S := fun w' => w'.cell? ⟨g, k, none⟩ = some (.pointer (some ⟨d, 0, none⟩)) ∧ w'.cell? ⟨d, 3 + k, none⟩ = some (.pointer pa)) (ds := [22]) #[false, false, false, false, false, false, false, false, false, false, false, false, false, false, false, false, false, false, false, false, false, false, false] (by kernel_rfl) rfl rfl ⟨hp1, hp2⟩ ?_
        intro hHeld
        generalize wr.drew = Wd at hp1 hp2 hp3 hpf hq1 hq2 hq3 hqf hs3 hP2 hF2 hB2 hHeld hD ⊢
        refine pure_ (i := 0) (N := some 50) (v := ?_) (a' := ?_) #[true, false, false, false, false, false, false, false, false, false, false, false, false, false, false, false, false, false, false, false, false, false, false] rfl rfl (by kernel_rfl) (fun _ _ _ h => h) (Or.inl ⟨by rfl, ?_⟩) ?_ ?_
        rotate_left
        · intro w'
          go_simp
          with_reducible rfl
        rotate_left
        · simp only [Act.put, List.setIfInBounds_toArray, List.set_cons_zero, List.set_cons_succ, i64_w, i32_w]
          rfl
        refine pure_ (i := 1) (N := some 51) (v := ?_) (a' := ?_) #[true, true, false, false, false, false, false, false, false, false, false, false, false, false, false, false, false, false, false, false, false, false, false] rfl rfl (by kernel_rfl) (fun _ _ _ h => h) (Or.inl ⟨by rfl, ?_⟩) ?_ ?_
        rotate_left
        · intro w'
          go_simp
          with_reducible rfl
        rotate_left
        · simp only [Act.put, List.setIfInBounds_toArray, List.set_cons_zero, List.set_cons_succ, i64_w, i32_w]
          rfl
        refine pure_ (i := 2) (N := some 52) (v := ?_) (a' := ?_) #[true, true, true, false, false, false, false, false, false, false, false, false, false, false, false, false, false, false, false, false, false, false, false] rfl rfl (by kernel_rfl) (fun _ _ _ h => h) (Or.inl ⟨by rfl, ?_⟩) ?_ ?_
        rotate_left
        · intro w'
          go_simp
          with_reducible rfl
        rotate_left
        · simp only [Act.put, List.setIfInBounds_toArray, List.set_cons_zero, List.set_cons_succ, i64_w, i32_w]
          rfl
        refine pure_ (i := 3) (N := some 53) (v := ?_) (a' := ?_) #[true, true, true, true, false, false, false, false, false, false, false, false, false, false, false, false, false, false, false, false, false, false, false] rfl rfl (by kernel_rfl) (fun _ _ _ h => h) (Or.inl ⟨by rfl, ?_⟩) ?_ ?_
        rotate_left
        · intro w'
          go_simp
          with_reducible rfl
        rotate_left
        · simp only [Act.put, List.setIfInBounds_toArray, List.set_cons_zero, List.set_cons_succ, i64_w, i32_w]
          rfl
        refine take_ (i := 4) (N := some 54) (v := ?_) (a' := ?_) #[true, true, true, true, true, false, false, false, false, false, false, false, false, false, false, false, false, false, false, false, false, false, false] rfl rfl (by kernel_rfl) (fun _ _ _ h => h) (Or.inl ⟨by rfl, ?_⟩) hHeld ?_ ?_
        rotate_left
        · rintro w' ⟨s0, s1⟩
          go_simp
          with_reducible rfl
        rotate_left
        · simp only [Act.put, List.setIfInBounds_toArray, List.set_cons_zero, List.set_cons_succ, i64_w, i32_w]
          rfl
        refine pure_ (i := 5) (N := some 55) (v := ?_) (a' := ?_) #[true, true, true, true, true, true, false, false, false, false, false, false, false, false, false, false, false, false, false, false, false, false, false] rfl rfl (by kernel_rfl) (fun _ _ _ h => h) (Or.inl ⟨by rfl, ?_⟩) ?_ ?_
        rotate_left
        · intro w'
          go_simp
          with_reducible rfl
        rotate_left
        · simp only [Act.put, List.setIfInBounds_toArray, List.set_cons_zero, List.set_cons_succ, i64_w, i32_w]
          rfl
        refine pure_ (i := 6) (N := some 56) (v := ?_) (a' := ?_) #[true, true, true, true, true, true, true, false, false, false, false, false, false, false, false, false, false, false, false, false, false, false, false] rfl rfl (by kernel_rfl) (fun _ _ _ h => h) (Or.inl ⟨by rfl, ?_⟩) ?_ ?_
        rotate_left
        · intro w'
          go_simp
          with_reducible rfl
        rotate_left
        · simp only [Act.put, List.setIfInBounds_toArray, List.set_cons_zero, List.set_cons_succ, i64_w, i32_w]
          rfl
        refine pure_ (i := 7) (N := some 57) (v := ?_) (a' := ?_) #[true, true, true, true, true, true, true, true, false, false, false, false, false, false, false, false, false, false, false, false, false, false, false] rfl rfl (by kernel_rfl) (fun _ _ _ h => h) (Or.inl ⟨by rfl, ?_⟩) ?_ ?_
        rotate_left
        · intro w'
          go_simp
          with_reducible rfl
        rotate_left
        · simp only [Act.put, List.setIfInBounds_toArray, List.set_cons_zero, List.set_cons_succ, i64_w, i32_w]
          rfl
        refine take_ (i := 8) (N := some 58) (v := ?_) (a' := ?_) #[true, true, true, true, true, true, true, true, true, false, false, false, false, false, false, false, false, false, false, false, false, false, false] rfl rfl (by kernel_rfl) (fun _ _ _ h => h) (Or.inl ⟨by rfl, ?_⟩) hHeld ?_ ?_
        rotate_left
        · rintro w' ⟨s0, s1⟩
          go_simp
          with_reducible rfl
        rotate_left
        · simp only [Act.put, List.setIfInBounds_toArray, List.set_cons_zero, List.set_cons_succ, i64_w, i32_w]
          rfl
        refine pure_ (i := 9) (N := some 59) (v := ?_) (a' := ?_) #[true, true, true, true, true, true, true, true, true, true, false, false, false, false, false, false, false, false, false, false, false, false, false] rfl rfl (by kernel_rfl) (fun _ _ _ h => h) (Or.inl ⟨by rfl, ?_⟩) ?_ ?_
        rotate_left
        · intro w'
          go_simp
          with_reducible rfl
        rotate_left
        · simp only [Act.put, List.setIfInBounds_toArray, List.set_cons_zero, List.set_cons_succ, i64_w, i32_w]
          rfl
        refine pure_ (i := 10) (N := some 60) (v := ?_) (a' := ?_) #[true, true, true, true, true, true, true, true, true, true, true, false, false, false, false, false, false, false, false, false, false, false, false] rfl rfl (by kernel_rfl) (fun _ _ _ h => h) (Or.inl ⟨by rfl, ?_⟩) ?_ ?_
        rotate_left
        · intro w'
          go_simp
          with_reducible rfl
        rotate_left
        · simp only [Act.put, List.setIfInBounds_toArray, List.set_cons_zero, List.set_cons_succ, i64_w, i32_w]
          rfl
        refine pure_ (i := 11) (N := some 61) (v := ?_) (a' := ?_) #[true, true, true, true, true, true, true, true, true, true, true, true, false, false, false, false, false, false, false, false, false, false, false] rfl rfl (by kernel_rfl) (fun _ _ _ h => h) (Or.inl ⟨by rfl, ?_⟩) ?_ ?_
        rotate_left
        · intro w'
          go_simp
          with_reducible rfl
        rotate_left
        · simp only [Act.put, List.setIfInBounds_toArray, List.set_cons_zero, List.set_cons_succ, i64_w, i32_w]
          rfl
        refine pure_ (i := 12) (N := some 62) (v := ?_) (a' := ?_) #[true, true, true, true, true, true, true, true, true, true, true, true, true, false, false, false, false, false, false, false, false, false, false] rfl rfl (by kernel_rfl) (fun _ _ _ h => h) (Or.inl ⟨by rfl, ?_⟩) ?_ ?_
        rotate_left
        · intro w'
          go_simp
          with_reducible rfl
        rotate_left
        · simp only [Act.put, List.setIfInBounds_toArray, List.set_cons_zero, List.set_cons_succ, i64_w, i32_w]
          rfl
        refine take_ (i := 13) (N := some 63) (v := ?_) (a' := ?_) #[true, true, true, true, true, true, true, true, true, true, true, true, true, true, false, false, false, false, false, false, false, false, false] rfl rfl (by kernel_rfl) (fun _ _ _ h => h) (Or.inl ⟨by rfl, ?_⟩) hHeld ?_ ?_
        rotate_left
        · rintro w' ⟨s0, s1⟩
          go_simp
          with_reducible rfl
        rotate_left
        · simp only [Act.put, List.setIfInBounds_toArray, List.set_cons_zero, List.set_cons_succ, i64_w, i32_w]
          rfl
        refine pure_ (i := 14) (N := some 64) (v := ?_) (a' := ?_) #[true, true, true, true, true, true, true, true, true, true, true, true, true, true, true, false, false, false, false, false, false, false, false] rfl rfl (by kernel_rfl) (fun _ _ _ h => h) (Or.inl ⟨by rfl, ?_⟩) ?_ ?_
        rotate_left
        · intro w'
          go_simp
          with_reducible rfl
        rotate_left
        · simp only [Act.put, List.setIfInBounds_toArray, List.set_cons_zero, List.set_cons_succ, i64_w, i32_w]
          rfl
        refine pure_ (i := 15) (N := some 65) (v := ?_) (a' := ?_) #[true, true, true, true, true, true, true, true, true, true, true, true, true, true, true, true, false, false, false, false, false, false, false] rfl rfl (by kernel_rfl) (fun _ _ _ h => h) (Or.inl ⟨by rfl, ?_⟩) ?_ ?_
        rotate_left
        · intro w'
          go_simp
          with_reducible rfl
        rotate_left
        · simp only [Act.put, List.setIfInBounds_toArray, List.set_cons_zero, List.set_cons_succ, i64_w, i32_w]
          rfl
        refine pure_ (i := 16) (N := some 66) (v := ?_) (a' := ?_) #[true, true, true, true, true, true, true, true, true, true, true, true, true, true, true, true, true, false, false, false, false, false, false] rfl rfl (by kernel_rfl) (fun _ _ _ h => h) (Or.inl ⟨by rfl, ?_⟩) ?_ ?_
        rotate_left
        · intro w'
          go_simp
          with_reducible rfl
        rotate_left
        · simp only [Act.put, List.setIfInBounds_toArray, List.set_cons_zero, List.set_cons_succ, i64_w, i32_w]
          rfl
        refine pure_ (i := 17) (N := some 67) (v := ?_) (a' := ?_) #[true, true, true, true, true, true, true, true, true, true, true, true, true, true, true, true, true, true, false, false, false, false, false] rfl rfl (by kernel_rfl) (fun _ _ _ h => h) (Or.inl ⟨by rfl, ?_⟩) ?_ ?_
        rotate_left
        · intro w'
          go_simp
          with_reducible rfl
        rotate_left
        · simp only [Act.put, List.setIfInBounds_toArray, List.set_cons_zero, List.set_cons_succ, i64_w, i32_w]
          rfl
        refine pure_ (i := 19) (N := some 68) (v := ?_) (a' := ?_) #[true, true, true, true, true, true, true, true, true, true, true, true, true, true, true, true, true, true, false, true, false, false, false] rfl rfl (by kernel_rfl) (fun _ _ _ h => h) (Or.inl ⟨by rfl, ?_⟩) ?_ ?_
        rotate_left
        · intro w'
          go_simp
          with_reducible rfl
        rotate_left
        · simp only [Act.put, List.setIfInBounds_toArray, List.set_cons_zero, List.set_cons_succ, i64_w, i32_w]
          rfl
        refine pure_ (i := 20) (N := some 69) (v := ?_) (a' := ?_) #[true, true, true, true, true, true, true, true, true, true, true, true, true, true, true, true, true, true, false, true, true, false, false] rfl rfl (by kernel_rfl) (fun _ _ _ h => h) (Or.inl ⟨by rfl, ?_⟩) ?_ ?_
        rotate_left
        · intro w'
          go_simp
          with_reducible rfl
        rotate_left
        · simp only [Act.put, List.setIfInBounds_toArray, List.set_cons_zero, List.set_cons_succ, i64_w, i32_w]
          rfl
        refine one_ (i := 18) (N := none) #[true, true, true, true, true, true, true, true, true, true, true, true, true, true, true, true, true, true, true, true, true, false, false] rfl rfl (by kernel_rfl) (by decide) (fun K hK => ?_)
        refine skip_ (w1 := ?_) (by rfl) rfl ?_ ?_
        rotate_left
        · go_simp
          rfl
        refine hK.out _ _ ⟨?_, ?_⟩ (fun hHeld => ?_)
        · exact (cell_set_other _ _ _ _ _ (by omega)).trans hp1
        · exact (cell_set_other _ _ _ _ _ hdb).trans hp2
        clear hK K
        refine pure_ (i := 21) (N := some 70) (v := ?_) (a' := ?_) #[true, true, true, true, true, true, true, true, true, true, true, true, true, true, true, true, true, true, true, true, true, true, false] rfl rfl (by kernel_rfl) (fun _ _ _ h => h) (Or.inl ⟨by rfl, ?_⟩) ?_ ?_
        rotate_left
        · intro w'
          go_simp
          with_reducible rfl
        rotate_left
        · simp only [Act.put, List.setIfInBounds_toArray, List.set_cons_zero, List.set_cons_succ, i64_w, i32_w]
          rfl
        refine last_ (i := 22) (N := none) #[true, true, true, true, true, true, true, true, true, true, true, true, true, true, true, true, true, true, true, true, true, true, true] rfl rfl (by kernel_rfl) (by decide) (fun K hK => ?_)
        refine skip_ (w1 := ?_) (by rfl) rfl ?_ ?_
        rotate_left
        · go_simp
          rfl
        refine hK.out _ _ ?_
        clear hK K
        refine done_ (by kernel_rfl) ?_
        go_wp2
        go_roundg (m - (k + 1))
        case measure => omega
        case rel => exact ⟨k + 1, hkt, Nat.le_refl _, by go_num, hs3, hP2, hF2, hB2⟩
      · have hkz : ¬ (k : Int) < (m : Int) := by omega
        obtain rfl : k = m := by omega
        have hmy := hSi.many
        obtain ⟨hmc, hmf⟩ := hmy
        have hSf := hSi.set_many (L.length + 1)
        have hll : (lessK key L ++ (⟨key, val, k, nb⟩ : Nd) :: moreK key L).length = L.length + 1 := by
          have := congrArg List.length hlm
          rw [List.length_append] at this ⊢
          rw [List.length_cons]; omega
        have hF2 : Fr lb L w (wr.setCell ⟨lb, 15, none⟩ (.int .i64 ((L.length + 1 : Nat) : Int))) := fun i hi hm => (Below.heap_setCell _ _ _ _ (fun e => hm (by rw [e]; exact List.mem_cons_self))).trans (hFi i hi hm)
        have hB2 : Below n0 w (wr.setCell ⟨lb, 15, none⟩ (.int .i64 ((L.length + 1 : Nat) : Int))) := hBi.setCell (p := ⟨lb, 15, none⟩) (hn0 lb List.mem_cons_self) _
        rw [← hll] at hSf
        have hfin : SK (wr.setCell ⟨lb, 15, none⟩ (.int .i64 ((L.length + 1 : Nat) : Int))) lb (lessK key L ++ (⟨key, val, k, nb⟩ : Nd) :: moreK key L) := by
          rw [hll] at hSf
          exact ⟨_, by rw [hll]; exact hSf, hL.insert hG.nodup hlm.symm key val hnbL, hG.insert hfn hm12 hnbL⟩
        have e1 : ((L.length + 1 : Nat) : Int) = (L.length : Int) + 1 := by omega
        rw [e1] at hfin hF2 hB2
        clear hSi hPi hSf
        go_wp2
        go_ret
        exact ⟨nb, by have := hBwX.size; omega, by first | rfl | (rw [hfn]; rfl), by unfold putL; rw [hfn, hhg]; exact hfin, hF2, hB2⟩
  | some y =>
    rw [hm] at hl1
    simp only [Option.map_some, ptr_some] at hl1
    have hy := more_mem hm
    obtain ⟨hk, hv, _, hvf⟩ := hX.parts hy
    by_cases c : y.key.toList = key.toList
    · have hfn : findN key L = some y := by unfold findN; rw [hm]; simp only; rw [if_pos c]
      have cb : (y.key.toList == key.toList) = true := beq_iff_eq.2 c
      have hset := hX.set_val hy val
      have hyb : y.b ∈ blks lb L := List.mem_cons_of_mem _ (List.mem_map.2 ⟨y, hy, rfl⟩)
      have hF2 : Fr lb L w (X.setCell ⟨y.b, 1, none⟩ (.string val)) := fun i hi hm => (Below.heap_setCell _ _ _ _ (fun e => hm (by rw [e]; exact hyb))).trans (hBwX.block i hi)
      have hB2 : Below n0 w (X.setCell ⟨y.b, 1, none⟩ (.string val)) := (hBwX.mono hn0w).setCell (p := ⟨y.b, 1, none⟩) (hn0 _ hyb) _
      have hfin : SK (X.setCell ⟨y.b, 1, none⟩ (.string val)) lb (L.map (putVal y.b val)) := ⟨nx, by rw [List.length_map]; exact hset, hL.map, hG.map⟩
      clear c hset hX
      go_wp2
      go_ret
      exact ⟨w.heap.size, Nat.le_refl _, by first | rfl | (rw [hfn]; rfl), by unfold putL; rw [hfn]; exact hfin, hF2, hB2⟩
    · have hfn : findN key L = none := by unfold findN; rw [hm]; simp only; rw [if_neg c]
      have cb : (y.key.toList == key.toList) = false := beq_eq_false_iff_ne.2 c
      clear c
      go_upto_region 7 with (fail)
      obtain ⟨nb, hnbe⟩ : ∃ nb, X.heap.size = nb := ⟨_, rfl⟩
      have hnbL : nb ∉ blks lb L := fun hm => by have := hX.lt hm; omega
      have hgX := (Array.getElem?_eq_some_iff.1 hPX).1
      have hadd := hX.add (⟨key, val, m, nb⟩ : Nd) hnbe.symm (L' := lessK key L ++ (⟨key, val, m, nb⟩ : Nd) :: moreK key L) (fun y hy => by
        rcases List.mem_append.1 hy with hy | hy
        · exact .inl (by rw [← hlm]; exact List.mem_append_left _ hy)
        · rcases List.mem_cons.1 hy with hy | hy
          · exact .inr hy
          · exact .inl (by rw [← hlm]; exact List.mem_append_right _ hy))
      have hBa : Below X.heap.size X (X.alloc (.cells (ndC (⟨key, val, m, nb⟩ : Nd) (fun _ => none)) 49)) := (Below.refl _ X).alloc (Nat.le_refl _) _
      have hPa : PRow (X.alloc (.cells (ndC (⟨key, val, m, nb⟩ : Nd) (fun _ => none)) 49)) g (lastsF lb L key) := blk_below hPX hBa
      have hk0 : (fun b => if b = nb then fun _ => none else nx b) = nxK nx lb nb (lessK key L) 0 := by
        funext b j
        unfold nxK
        by_cases c : b = nb
        · rw [if_pos c, if_pos c, if_neg (Nat.not_lt_zero _)]
        · rw [if_neg c, if_neg c, if_neg (fun e => Nat.not_lt_zero _ e.1)]
      rw [show (⟨key, val, m, nb⟩ : Nd).b = nb from rfl, hk0] at hadd
      have hFa : Fr lb L w (X.alloc (.cells (ndC (⟨key, val, m, nb⟩ : Nd) (fun _ => none)) 49)) := fun k hk hm => (hBa.block k (Nat.lt_of_lt_of_le hk hBwX.size)).trans (hBwX.block k hk)
      have hBwa : Below n0 w (X.alloc (.cells (ndC (⟨key, val, m, nb⟩ : Nd) (fun _ => none)) 49)) := (hBwX.mono hn0w).trans (hBa.mono (Nat.le_trans hn0w hBwX.size))
      generalize hWa : X.alloc (.cells (ndC (⟨key, val, m, nb⟩ : Nd) (fun _ => none)) 49) = Wa at hadd hPa hFa hBwa
      refine wpW (fun Y => Y = Wa) hWa ?_
      rintro Y rfl
      clear hWa hBa hX
      rw [hnbe]
      obtain ⟨_, _, hhc, _⟩ := hadd.parts (x := (⟨key, val, m, nb⟩ : Nd)) (by simp)
      dsimp only at hhc
      go_wp2
      go_loopg [47] m (fun gg v47 Wi => ∃ (k : Nat), k ≤ m ∧ m - k ≤ gg ∧ v47 = .int .i64 k ∧ SH Wi lb L.length (lessK key L ++ (⟨key, val, m, nb⟩ : Nd) :: moreK key L) (nxK nx lb nb (lessK key L) k) ∧ PRow Wi g (lastsF lb L key) ∧ Fr lb L w Wi ∧ Below n0 w Wi)
      case atStart => exact ⟨0, Nat.zero_le _, Nat.le_refl _, rfl, hadd, hPa, hFa, hBwa⟩
      case round =>
        clear hadd hPa hFa hBwa hhc
        obtain ⟨k, hkm, hkg, rfl, hSi, hPi, hFi, hBi⟩ := hrel
        by_cases hkt : k < m
        · have hkz : (k : Int) < (m : Int) := by omega
          have hk12 : k < 12 := by omega
          have hk12z : (k : Int) < 12 := by omega
          obtain ⟨d, hd⟩ : ∃ d, lastAb k lb (lessK key L) = d := ⟨_, rfl⟩
          have hdL : d ∈ blks lb L := by rw [← hd]; have := last_blks k lb (lessK key L) (moreK key L); rwa [hlm] at this
          have hdb : d ≠ nb := fun e => hnbL (by rw [← e]; exact hdL)
          have hdL' : d ∈ blks lb (lessK key L ++ (⟨key, val, m, nb⟩ : Nd) :: moreK key L) := by
            rw [← hlm] at hdL
            unfold blks at hdL ⊢
            simp only [List.map_append, List.map_cons, List.mem_cons, List.mem_append] at hdL ⊢
            rcases hdL with h | h | h
            · exact .inl h
            · exact .inr (.inl h)
            · exact .inr (.inr (.inr h))
          have hnL' : nb ∈ blks lb (lessK key L ++ (⟨key, val, m, nb⟩ : Nd) :: moreK key L) := List.mem_cons_of_mem _ (List.mem_map.2 ⟨⟨key, val, m, nb⟩, by simp, rfl⟩)
          go_upto_region 10 with (fail)
          have hD : Below wr.heap.size wr wr.drew := below_drew1 (Below.refl _ _)
          have hSd : SH wr.drew lb L.length _ (nxK nx lb nb (lessK key L) k) := hSi.move (fun b hb => hD.block b (hSi.lt hb))
          have hPd : PRow wr.drew g (lastsF lb L key) := blk_below hPi hD
          have hFd : Fr lb L w wr.drew := fun i hi hm => (hD.block i (Nat.lt_of_lt_of_le hi hBi.size)).trans (hFi i hi hm)
          have hBd : Below n0 w wr.drew := hBi.trans (hD.mono (Nat.le_trans hn0w hBi.size))
          obtain ⟨hp1, hq1⟩ := hPd.cell k hk12
          rw [show lastsF lb L key k = some d by rw [← hd]; rfl, ptr_some] at hp1
          obtain ⟨hp2, hq2⟩ := hSd.lane hdL' k hk12
          obtain ⟨hp3, hq3⟩ := hSd.lane hnL' k hk12
          have hnd : nxK nx lb nb (lessK key L) k d k = nx d k := by unfold nxK; rw [if_neg hdb, if_neg (fun e => Nat.lt_irrefl _ e.1)]
          rw [hnd] at hp2
          obtain ⟨pa, hpa⟩ : ∃ pa, ptrV (nx d k) = .pointer pa := by cases nx d k <;> exact ⟨_, rfl⟩
          rw [hpa] at hp2
          have hgd : g ≠ d := fun e => by
            have h1 := hSd.lt hdL'
            rcases List.mem_cons.1 hdL' with h | h
            · have h2 := hSd.head
              rw [← h, ← e, hPd] at h2
              simp at h2
            · obtain ⟨z, hz, hzb⟩ := List.mem_map.1 h
              have h2 := hSd.node z hz
              rw [hzb, ← e, hPd] at h2
              simp at h2
          have hgn : g ≠ nb := by omega
          have hs1 := hSd.set hnL' k hk12 (nx d k)
          have hs2 := hs1.set hdL' k hk12 (some nb)
          have hfz := hs1.lane hdL' k hk12
          rw [hpa] at hs1 hs2 hfz
          rw [ptr_some] at hs2
          obtain ⟨hpf, hqf⟩ := hfz
          have hnk := nxK_step (nx := nx) hd hdb
          have hs3 := hnk ▸ hs2
          have hP1 : PRow (wr.drew.setCell ⟨nb, 3 + k, none⟩ (.pointer pa)) g (lastsF lb L key) := (Below.heap_setCell _ _ _ _ hgn).trans hPd
          have hP2 : PRow ((wr.drew.setCell ⟨nb, 3 + k, none⟩ (.pointer pa)).setCell ⟨d, 3 + k, none⟩ (.pointer (some ⟨nb, 0, none⟩))) g (lastsF lb L key) := (Below.heap_setCell _ _ _ _ hgd).trans hP1
          have hF2 : Fr lb L w ((wr.drew.setCell ⟨nb, 3 + k, none⟩ (.pointer pa)).setCell ⟨d, 3 + k, none⟩ (.pointer (some ⟨nb, 0, none⟩))) := fun i hi hm => (Below.heap_setCell _ _ _ _ (fun e => hm (by rw [e]; exact hdL))).trans ((Below.heap_setCell _ _ _ _ (fun e => by have : i = nb := e; have := hBwX.size; omega)).trans (hFd i hi hm))
          have hB2 : Below n0 w ((wr.drew.setCell ⟨nb, 3 + k, none⟩ (.pointer pa)).setCell ⟨d, 3 + k, none⟩ (.pointer (some ⟨nb, 0, none⟩))) := (hBd.setCell (p := ⟨nb, 3 + k, none⟩) (by have := hBwX.size; show n0 ≤ nb; omega) _).setCell (p := ⟨d, 3 + k, none⟩) (hn0 d hdL) _
          clear hs1 hs2 hnk hnd hpa hP1 hSi hPi hFi hBi hFd hBd hSd hPd
          refine start_ (S := fun w' => w'.cell? ⟨g, k, none⟩ = some (.pointer (some ⟨d, 0, none⟩)) ∧ w'.cell? ⟨d, 3 + k, none⟩ = some (.pointer pa)) (ds := [22]) #[false, false, false, false, false, false, false, false, false, false, false, false, false, false, false, false, false, false, false, false, false, false, false] (by kernel_rfl) rfl rfl ⟨hp1, hp2⟩ ?_
          intro hHeld
          generalize wr.drew = Wd at hp1 hp2 hp3 hpf hq1 hq2 hq3 hqf hs3 hP2 hF2 hB2 hHeld hD ⊢
          refine pure_ (i := 0) (N := some 50) (v := ?_) (a' := ?_) #[true, false, false, false, false, false, false, false, false, false, false, false, false, false, false, false, false, false, false, false, false, false, false] rfl rfl (by kernel_rfl) (fun _ _ _ h => h) (Or.inl ⟨by rfl, ?_⟩) ?_ ?_
          rotate_left
          · intro w'
            go_simp
            with_reducible rfl
          rotate_left
          · simp only [Act.put, List.setIfInBounds_toArray, List.set_cons_zero, List.set_cons_succ, i64_w, i32_w]
            rfl
          refine pure_ (i := 1) (N := some 51) (v := ?_) (a' := ?_) #[true, true, false, false, false, false, false, false, false, false, false, false, false, false, false, false, false, false, false, false, false, false, false] rfl rfl (by kernel_rfl) (fun _ _ _ h => h) (Or.inl ⟨by rfl, ?_⟩) ?_ ?_
          rotate_left
          · intro w'
            go_simp
            with_reducible rfl
          rotate_left
          · simp only [Act.put, List.setIfInBounds_toArray, List.set_cons_zero, List.set_cons_succ, i64_w, i32_w]
            rfl
          refine pure_ (i := 2) (N := some 52) (v := ?_) (a' := ?_) #[true, true, true, false, false, false, false, false, false, false, false, false, false, false, false, false, false, false, false, false, false, false, false] rfl rfl (by kernel_rfl) (fun _ _ _ h => h) (Or.inl ⟨by rfl, ?_⟩) ?_ ?_
          rotate_left
          · intro w'
            go_simp
            with_reducible rfl
          rotate_left
          · simp only [Act.put, List.setIfInBounds_toArray, List.set_cons_zero, List.set_cons_succ, i64_w, i32_w]
            rfl
          refine pure_ (i := 3) (N := some 53) (v := ?_) (a' := ?_) #[true, true, true, true, false, false, false, false, false, false, false, false, false, false, false, false, false, false, false, false, false, false, false] rfl rfl (by kernel_rfl) (fun _ _ _ h => h) (Or.inl ⟨by rfl, ?_⟩) ?_ ?_
          rotate_left
          · intro w'
            go_simp
            with_reducible rfl
          rotate_left
          · simp only [Act.put, List.setIfInBounds_toArray, List.set_cons_zero, List.set_cons_succ, i64_w, i32_w]
            rfl
          refine take_ (i := 4) (N := some 54) (v := ?_) (a' := ?_) #[true, true, true, true, true, false, false, false, false, false, false, false, false, false, false, false, false, false, false, false, false, false, false] rfl rfl (by kernel_rfl) (fun _ _ _ h => h) (Or.inl ⟨by rfl, ?_⟩) hHeld ?_ ?_
          rotate_left
          · rintro w' ⟨s0, s1⟩
            go_simp
            with_reducible rfl
          rotate_left
          · simp only [Act.put, List.setIfInBounds_toArray, List.set_cons_zero, List.set_cons_succ, i64_w, i32_w]
            rfl
          refine pure_ (i := 5) (N := some 55) (v := ?_) (a' := ?_) #[true, true, true, true, true, true, false, false, false, false, false, false, false, false, false, false, false, false, false, false, false, false, false] rfl rfl (by kernel_rfl) (fun _ _ _ h => h) (Or.inl ⟨by rfl, ?_⟩) ?_ ?_
          rotate_left
          · intro w'
            go_simp
            with_reducible rfl
          rotate_left
          · simp only [Act.put, List.setIfInBounds_toArray, List.set_cons_zero, List.set_cons_succ, i64_w, i32_w]
            rfl
          refine pure_ (i := 6) (N := some 56) (v := ?_) (a' := ?_) #[true, true, true, true, true, true, true, false, false, false, false, false, false, false, false, false, false, false, false, false, false, false, false] rfl rfl (by kernel_rfl) (fun _ _ _ h => h) (Or.inl ⟨by rfl, ?_⟩) ?_ ?_
          rotate_left
          · intro w'
            go_simp
            with_reducible rfl
          rotate_left
          · simp only [Act.put, List.setIfInBounds_toArray, List.set_cons_zero, List.set_cons_succ, i64_w, i32_w]
            rfl
          refine pure_ (i := 7) (N := some 57) (v := ?_) (a' := ?_) #[true, true, true, true, true, true, true, true, false, false, false, false, false, false, false, false, false, false, false, false, false, false, false] rfl rfl (by kernel_rfl) (fun _ _ _ h => h) (Or.inl ⟨by rfl, ?_⟩) ?_ ?_
          rotate_left
          · intro w'
            go_simp
            with_reducible rfl
          rotate_left
          · simp only [Act.put, List.setIfInBounds_toArray, List.set_cons_zero, List.set_cons_succ, i64_w, i32_w]
            rfl
          refine take_ (i := 8) (N := some 58) (v := ?_) (a' := ?_) #[true, true, true, true, true, true, true, true, true, false, false, false, false, false, false, false, false, false, false, false, false, false, false] rfl rfl (by kernel_rfl) (fun _ _ _ h => h) (Or.inl ⟨by rfl, ?_⟩) hHeld ?_ ?_
          rotate_left
          · rintro w' ⟨s0, s1⟩
            go_simp
            with_reducible rfl
          rotate_left
          · simp only [Act.put, List.setIfInBounds_toArray, List.set_cons_zero, List.set_cons_succ, i64_w, i32_w]
            rfl
          refine pure_ (i := 9) (N := some 59) (v := ?_) (a' := ?_) #[true, true, true, true, true, true, true, true, true, true, false, false, false, false, false, false, false, false, false, false, false, false, false] rfl rfl (by kernel_rfl) (fun _ _ _ h => h) (Or.inl ⟨by rfl, ?_⟩) ?_ ?_
          rotate_left
          · intro w'
            go_simp
            with_reducible rfl
          rotate_left
          · simp only [Act.put, List.setIfInBounds_toArray, List.set_cons_zero, List.set_cons_succ, i64_w, i32_w]
            rfl
          refine pure_ (i := 10) (N := some 60) (v := ?_) (a' := ?_) #[true, true, true, true, true, true, true, true, true, true, true, false, false, false, false, false, false, false, false, false, false, false, false] rfl rfl (by kernel_rfl) (fun _ _ _ h => h) (Or.inl ⟨by rfl, ?_⟩) ?_ ?_
          rotate_left
          · intro w'
            go_simp
            with_reducible rfl
          rotate_left
          · simp only [Act.put, List.setIfInBounds_toArray, List.set_cons_zero, List.set_cons_succ, i64_w, i32_w]
            rfl
          refine pure_ (i := 11) (N := some 61) (v := ?_) (a' := ?_) #[true, true, true, true, true, true, true, true, true, true, true, true, false, false, false, false, false, false, false, false, false, false, false] rfl rfl (by kernel_rfl) (fun _ _ _ h => h) (Or.inl ⟨by rfl, ?_⟩) ?_ ?_
          rotate_left
          · intro w'
            go_simp
            with_reducible rfl
          rotate_left
          · simp only [Act.put, List.setIfInBounds_toArray, List.set_cons_zero, List.set_cons_succ, i64_w, i32_w]
            rfl
          refine pure_ (i := 12) (N := some 62) (v := ?_) (a' := ?_) #[true, true, true, true, true, true, true, true, true, true, true, true, true, false, false, false, false, false, false, false, false, false, false] rfl rfl (by kernel_rfl) (fun _ _ _ h => h) (Or.inl ⟨by rfl, ?_⟩) ?_ ?_
          rotate_left
          · intro w'
            go_simp
            with_reducible rfl
          rotate_left
          · simp only [Act.put, List.setIfInBounds_toArray, List.set_cons_zero, List.set_cons_succ, i64_w, i32_w]
            rfl
          refine take_ (i := 13) (N := some 63) (v := ?_) (a' := ?_) #[true, true, true, true, true, true, true, true, true, true, true, true, true, true, false, false, false, false, false, false, false, false, false] rfl rfl (by kernel_rfl) (fun _ _ _ h => h) (Or.inl ⟨by rfl, ?_⟩) hHeld ?_ ?_
          rotate_left
          · rintro w' ⟨s0, s1⟩
            go_simp
            with_reducible rfl
          rotate_left
          · simp only [Act.put, List.setIfInBounds_toArray, List.set_cons_zero, List.set_cons_succ, i64_w, i32_w]
            rfl
          refine pure_ (i := 14) (N := some 64) (v := ?_) (a' := ?_) #[true, true, true, true, true, true, true, true, true, true, true, true, true, true, true, false, false, false, false, false, false, false, false] rfl rfl (by kernel_rfl) (fun _ _ _ h => h) (Or.inl ⟨by rfl, ?_⟩) ?_ ?_
          rotate_left
          · intro w'
            go_simp
            with_reducible rfl
          rotate_left
          · simp only [Act.put, List.setIfInBounds_toArray, List.set_cons_zero, List.set_cons_succ, i64_w, i32_w]
            rfl
          refine pure_ (i := 15) (N := some 65) (v := ?_) (a' := ?_) #[true, true, true, true, true, true, true, true, true, true, true, true, true, true, true, true, false, false, false, false, false, false, false] rfl rfl (by kernel_rfl) (fun _ _ _ h => h) (Or.inl ⟨by rfl, ?_⟩) ?_ ?_
          rotate_left
          · intro w'
            go_simp
            with_reducible rfl
          rotate_left
          · simp only [Act.put, List.setIfInBounds_toArray, List.set_cons_zero, List.set_cons_succ, i64_w, i32_w]
            rfl
          refine pure_ (i := 16) (N := some 66) (v := ?_) (a' := ?_) #[true, true, true, true, true, true, true, true, true, true, true, true, true, true, true, true, true, false, false, false, false, false, false] rfl rfl (by kernel_rfl) (fun _ _ _ h => h) (Or.inl ⟨by rfl, ?_⟩) ?_ ?_
          rotate_left
          · intro w'
            go_simp
            with_reducible rfl
          rotate_left
          · simp only [Act.put, List.setIfInBounds_toArray, List.set_cons_zero, List.set_cons_succ, i64_w, i32_w]
            rfl
          refine pure_ (i := 17) (N := some 67) (v := ?_) (a' := ?_) #[true, true, true, true, true, true, true, true, true, true, true, true, true, true, true, true, true, true, false, false, false, false, false] rfl rfl (by kernel_rfl) (fun _ _ _ h => h) (Or.inl ⟨by rfl, ?_⟩) ?_ ?_
          rotate_left
          · intro w'
            go_simp
            with_reducible rfl
          rotate_left
          · simp only [Act.put, List.setIfInBounds_toArray, List.set_cons_zero, List.set_cons_succ, i64_w, i32_w]
            rfl
          refine pure_ (i := 19) (N := some 68) (v := ?_) (a' := ?_) #[true, true, true, true, true, true, true, true, true, true, true, true, true, true, true, true, true, true, false, true, false, false, false] rfl rfl (by kernel_rfl) (fun _ _ _ h => h) (Or.inl ⟨by rfl, ?_⟩) ?_ ?_
          rotate_left
          · intro w'
            go_simp
            with_reducible rfl
          rotate_left
          · simp only [Act.put, List.setIfInBounds_toArray, List.set_cons_zero, List.set_cons_succ, i64_w, i32_w]
            rfl
          refine pure_ (i := 20) (N := some 69) (v := ?_) (a' := ?_) #[true, true, true, true, true, true, true, true, true, true, true, true, true, true, true, true, true, true, false, true, true, false, false] rfl rfl (by kernel_rfl) (fun _ _ _ h => h) (Or.inl ⟨by rfl, ?_⟩) ?_ ?_
          rotate_left
          · intro w'
            go_simp
            with_reducible rfl
          rotate_left
          · simp only [Act.put, List.setIfInBounds_toArray, List.set_cons_zero, List.set_cons_succ, i64_w, i32_w]
            rfl
          refine one_ (i := 18) (N := none) #[true, true, true, true, true, true, true, true, true, true, true, true, true, true, true, true, true, true, true, true, true, false, false] rfl rfl (by kernel_rfl) (by decide) (fun K hK => ?_)
          refine skip_ (w1 := ?_) (by rfl) rfl ?_ ?_
          rotate_left
          · go_simp
            rfl
          refine hK.out _ _ ⟨?_, ?_⟩ (fun hHeld => ?_)
          · exact (cell_set_other _ _ _ _ _ (by omega)).trans hp1
          · exact (cell_set_other _ _ _ _ _ hdb).trans hp2
          clear hK K
          refine pure_ (i := 21) (N := some 70) (v := ?_) (a' := ?_) #[true, true, true, true, true, true, true, true, true, true, true, true, true, true, true, true, true, true, true, true, true, true, false] rfl rfl (by kernel_rfl) (fun _ _ _ h => h) (Or.inl ⟨by rfl, ?_⟩) ?_ ?_
          rotate_left
          · intro w'
            go_simp
            with_reducible rfl
          rotate_left
          · simp only [Act.put, List.setIfInBounds_toArray, List.set_cons_zero, List.set_cons_succ, i64_w, i32_w]
            rfl
          refine last_ (i := 22) (N := none) #[true, true, true, true, true, true, true, true, true, true, true, true, true, true, true, true, true, true, true, true, true, true, true] rfl rfl (by kernel_rfl) (by decide) (fun K hK => ?_)
          refine skip_ (w1 := ?_) (by rfl) rfl ?_ ?_
          rotate_left
          · go_simp
            rfl
          refine hK.out _ _ ?_
          clear hK K
          refine done_ (by kernel_rfl) ?_
          go_wp2
          go_roundg (m - (k + 1))
          case measure => omega
          case rel => exact ⟨k + 1, hkt, Nat.le_refl _, by go_num, hs3, hP2, hF2, hB2⟩
        · have hkz : ¬ (k : Int) < (m : Int) := by omega
          obtain rfl : k = m := by omega
          have hmy := hSi.many
          obtain ⟨hmc, hmf⟩ := hmy
          have hSf := hSi.set_many (L.length + 1)
          have hll : (lessK key L ++ (⟨key, val, k, nb⟩ : Nd) :: moreK key L).length = L.length + 1 := by
            have := congrArg List.length hlm
            rw [List.length_append] at this ⊢
            rw [List.length_cons]; omega
          have hF2 : Fr lb L w (wr.setCell ⟨lb, 15, none⟩ (.int .i64 ((L.length + 1 : Nat) : Int))) := fun i hi hm => (Below.heap_setCell _ _ _ _ (fun e => hm (by rw [e]; exact List.mem_cons_self))).trans (hFi i hi hm)
          have hB2 : Below n0 w (wr.setCell ⟨lb, 15, none⟩ (.int .i64 ((L.length + 1 : Nat) : Int))) := hBi.setCell (p := ⟨lb, 15, none⟩) (hn0 lb List.mem_cons_self) _
          rw [← hll] at hSf
          have hfin : SK (wr.setCell ⟨lb, 15, none⟩ (.int .i64 ((L.length + 1 : Nat) : Int))) lb (lessK key L ++ (⟨key, val, k, nb⟩ : Nd) :: moreK key L) := by
            rw [hll] at hSf
            exact ⟨_, by rw [hll]; exact hSf, hL.insert hG.nodup hlm.symm key val hnbL, hG.insert hfn hm12 hnbL⟩
          have e1 : ((L.length + 1 : Nat) : Int) = (L.length : Int) + 1 := by omega
          rw [e1] at hfin hF2 hB2
          clear hSi hPi hSf
          go_wp2
          go_ret
          exact ⟨nb, by have := hBwX.size; omega, by first | rfl | (rw [hfn]; rfl), by unfold putL; rw [hfn, hhg]; exact hfin, hF2, hB2⟩
end Go.Proofs.Ytdeiaicplcpbeaa.Print
