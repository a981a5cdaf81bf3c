/- Contracts proved by hand: see the theorems' own lines. -/
import Derived.Test.YtbdkfmhkgeoeaaaPrint0
import Derived.Test.YtbdkfmhkgeoeaaaXArrayRow
namespace Go.Proofs.Ytbdkfmhkgeoeaaa.Print
open Go.RowKit Go.Proofs.YtbdkfmhkgeoeaaaW.PrintWords Go.Proofs.YtbdkfmhkgeoeaaaW.PrintLast Go.Proofs.YtbdkfmhkgeoeaaaX
set_option linter.unusedVariables false
set_option linter.unusedSimpArgs false

def fourL (v : Int) : List Int := [v / 16777216 % 256, v / 65536 % 256, v / 256 % 256, v % 256]
def frame_four.f (a0 : Int) : Option ByteArray := some (strOfNums (fourL a0))
set_option maxHeartbeats 4000000 in
set_option maxRecDepth 100000 in
theorem frame_four.calls (a0 : Int) (r : ByteArray) (w : World) (h : frame_four.f a0 = some r) :
    Calls Try.prog 44 #[.int .u32 a0] w fun e w' => e = .returned (.string r) ∧ Below w.heap.size w w' := by
  obtain rfl := Option.some.inj h
  have hut := Try.underlying105
  have kconv : ∀ (W : World) (g : Nat), W.heap[g]? = some (.cells #[.int .u8 (a0 / 16777216 % 256), .int .u8 (a0 / 65536 % 256), .int .u8 (a0 / 256 % 256), .int .u8 (a0 % 256)] 105 (0, 0)) →
      (convert 40 9 (.slice (some ⟨g, 0, none⟩) 4 4)).run Try.prog W = .ok (.string (strOfNums (fourL a0))) W := by
    intro W g hW
    refine string_of_reads Try.underlying40 Try.underlying5 Try.underlying9 ⟨rfl, by decide, fun _ => ⟨⟨g, 0, none⟩, rfl, fun j hj => ?_⟩⟩
    have hadd : (⟨g, 0, none⟩ : Addr).add j = ⟨g, j, none⟩ := by unfold Addr.add; split <;> simp_all
    rw [hadd, blk_cell hW]
    have h4 : j = 0 ∨ j = 1 ∨ j = 2 ∨ j = 3 := by omega
    rcases h4 with rfl | rfl | rfl | rfl <;> rfl
  have HKC := Aside0.mk kconv
  clear kconv
  have HB := Aside0.mk (Below.refl w.heap.size w)
  go_enter Try.func44, Try.ntmps44
  go_wp2_with (first | ((with_reducible refine gate_dst (N := 3) rfl ?_); refine box_event ?hg (N := 3) ?hd (cs := #[.int .u8 0, .int .u8 0, .int .u8 0, .int .u8 0]) (t := 105) ?hr ?_; (case hd => rfl); (case hg => rfl); (case hr => first | (go_simp; done) | (go_simp; kernel_rfl)); intro g hg w2 hbox hb; have n0_ := Aside0.mk (Yv HB hb); have BK := Aside0.mk hbox; have GE := Aside0.mk (Yg HB hg); clear HB; have HB := n0_; obtain ⟨⟨hc0, hc1, hc2, hc3⟩, hf0, hf1, hf2, hf3⟩ := Zk4 BK; clear n0_ hb hbox hg; have hk := HKC.out ((((w2.setCell ⟨g, 0, none⟩ (.int .u8 (a0 / 16777216 % 256))).setCell ⟨g, 1, none⟩ (.int .u8 (a0 / 65536 % 256))).setCell ⟨g, 2, none⟩ (.int .u8 (a0 / 256 % 256))).setCell ⟨g, 3, none⟩ (.int .u8 (a0 % 256))) g (Zp (Zp (Zp (Zp BK.out 0 _ rfl) 1 _ rfl) 2 _ rfl) 3 _ rfl)))
  go_ret
  exact ⟨rfl, Yr HB⟩
end Go.Proofs.Ytbdkfmhkgeoeaaa.Print
