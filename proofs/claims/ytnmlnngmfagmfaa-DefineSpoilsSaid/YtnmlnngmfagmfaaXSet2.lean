/- Words of this session's own. -/
import Derived.Test.YtnmlnngmfagmfaaWWords
namespace Go.Proofs.YtnmlnngmfagmfaaX
theorem cell_set2 (W : World) (p : Addr) (u v : Value) : ((W.setCell p u).setCell p v).cell? p = (W.setCell p v).cell? p := by
  simp only [World.setCell, World.cell?, Array.getElem?_modify, if_true]
  cases h : W.heap[p.block]? with
  | none => simp
  | some o => cases o <;> simp <;> split <;> simp
end Go.Proofs.YtnmlnngmfagmfaaX
