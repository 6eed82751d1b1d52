/- Same says whether two lists of ranges are one. -/
import Derived.Test.YtapojgbiboeaiaaGreatDoorRv
import Derived.Test.YtapojgbiboeaiaaGreatDoorQl
namespace Go.Proofs.YtapojgbiboeaiaaGreatDoor
set_option linter.unusedVariables false
set_option linter.unusedSimpArgs false
open Go.RowKit Rng
theorem take_succ_eq {α : Type} {l m : List α} {k : Nat} {r q : α} (h : l.take k = m.take k) (hr : l[k]? = some r) (hq : m[k]? = some q) : l.take (k + 1) = m.take (k + 1) ↔ r = q := by
  rw [List.take_add_one, List.take_add_one, hr, hq, h]
  simp
end Go.Proofs.YtapojgbiboeaiaaGreatDoor
