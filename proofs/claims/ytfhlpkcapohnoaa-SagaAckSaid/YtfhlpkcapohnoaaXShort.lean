/- Words of this session's own. -/
import Derived.Test.YtfhlpkcapohnoaaWWords
namespace Go.Proofs.YtfhlpkcapohnoaaX
open Go.RowKit Go.Proofs.YtfhlpkcapohnoaaW.PrintWords
/-! Short names of what the printed walks use most: a file of a claim has a bound. -/
abbrev Zn := @blk_drewN
abbrev Zd := @blk_drew
abbrev Za := @blk_alloc
abbrev Zf := @blk_frozen
abbrev Zc := @blk_cell
abbrev Zb := @blk_below
abbrev Zp := @blk_put
abbrev Zq := @blk_far
abbrev Ya := @below_alloc
abbrev Yn := @pw_below_drewN
abbrev Yd := @below_drew1
abbrev Ys := @below_set
abbrev Yt := @below_step
end Go.Proofs.YtfhlpkcapohnoaaX
