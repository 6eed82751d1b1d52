/- Words of more than one text: whether a set has a line; what is in one of two sets, or in both; the reference's lines at a number that is named. -/
import Derived.Test.YtapojgbiboeaiaaGreatDoorSet
namespace Go.Proofs.YtapojgbiboeaiaaGreatDoor
set_option linter.unusedVariables false
set_option linter.unusedSimpArgs false
open Go.RowKit Rng
theorem blt {w : World} {b : Nat} {o : Obj} (h : w.heap[b]? = some o) : b < w.heap.size := (Array.getElem?_eq_some_iff.1 h).1
/-- And, or or. -/
def andOr (and x y : Bool) : Bool := if and then x && y else x || y
/-- Has of a set: whether line n is in one of its ranges. -/
def hasR (l : List (Int × Int)) (n : Int) : Bool := okR l && l.any fun r => decide (r.1 ≤ n) && decide (n < r.2)
end Go.Proofs.YtapojgbiboeaiaaGreatDoor
