/-
  THE WALK of ratio.Make.
-/
import Derived.Test.YthldfijlcoobgaaGreatRat1
import Derived.Deep.RegionHeld3
import Derived.StillTailTactics
namespace Go.Proofs.YthldfijlcoobgaaGreat
open Go.RowKit Go.Shelf


theorem held_next {wr w1 w2 : World} (h : Below wr.heap.size wr w1) (h2 : Below w1.heap.size w1 w2) : Below wr.heap.size wr w2 := h.trans (h2.mono h.size)
end Go.Proofs.YthldfijlcoobgaaGreat
