/- Readable slices of ranges and of numbers in a world, and behind it; two slices of the same ranges are the same. -/
import Derived.Test.YtapojgbiboeaiaaGreatDoorLb
import Derived.Test.YtapojgbiboeaiaaGreatDoorSm
namespace Go.Proofs.YtapojgbiboeaiaaGreatDoor
set_option linter.unusedVariables false
set_option linter.unusedSimpArgs false
open Go.RowKit Rng
def In64 (z : Int) : Prop := -9223372036854775808 ≤ z ∧ z ≤ 9223372036854775807
theorem Rn.below {B n : Nat} {w w' : World} {v : Value} {l : List Int} (h : Rn B w v l) (hb : Below n w w') (hn : B ≤ n) : Rn B w' v l := by
  obtain ⟨ao, cap, hv, h1, h2, h3⟩ := h
  refine ⟨ao, cap, hv, h1, h2, fun i z hz => ?_⟩
  obtain ⟨b, o, hx, hB, c⟩ := h3 i z hz
  exact ⟨b, o, hx, hB, (World.cell?_of_block (w := w) (hb.block b (Nat.lt_of_lt_of_le hB hn))).trans c⟩
theorem Rn.mono {B C : Nat} {w : World} {v : Value} {l : List Int} (h : Rn B w v l) (hn : B ≤ C) : Rn C w v l := by
  obtain ⟨ao, cap, hv, h1, h2, h3⟩ := h
  exact ⟨ao, cap, hv, h1, h2, fun i r hr => by obtain ⟨b, o, hx, hB, c⟩ := h3 i r hr; exact ⟨b, o, hx, Nat.lt_of_lt_of_le hB hn, c⟩⟩
/-- A readable slice of the ranges in this world. -/
def RIn (w : World) (v : Value) (l : List (Int × Int)) : Prop := Rd w.heap.size w v l
def NIn (w : World) (v : Value) (l : List Int) : Prop := Rn w.heap.size w v l
theorem RIn.later {w w' : World} {v : Value} {l : List (Int × Int)} (h : RIn w v l) (hb : Below w.heap.size w w') : RIn w' v l := Rd.mono (Rd.below h hb (Nat.le_refl _)) hb.size
theorem NIn.later {w w' : World} {v : Value} {l : List Int} (h : NIn w v l) (hb : Below w.heap.size w w') : NIn w' v l := (Rn.below h hb (Nat.le_refl _)).mono hb.size
end Go.Proofs.YtapojgbiboeaiaaGreatDoor
