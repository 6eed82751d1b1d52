/- The reference's Set: the ranges of the marked lines, in their order. Condition: at most 65536 cells, in a block that was there. -/
import Derived.Test.YtapojgbiboeaiaaGreatDoorOw
namespace Go.Proofs.YtapojgbiboeaiaaGreatDoor
set_option linter.unusedVariables false
set_option linter.unusedSimpArgs false
open Go.RowKit Rng
/-- Line i is put behind the ranges. -/
def ext (l : List (Int × Int)) (i : Nat) : List (Int × Int) :=
  match l.getLast? with
  | some r => if r.2 = i then l.dropLast ++ [(r.1, (i : Int) + 1)] else l ++ [((i : Int), (i : Int) + 1)]
  | none => [((i : Int), (i : Int) + 1)]
/-- The ranges of the lines under n. -/
def setUp (f : Nat → Bool) : Nat → List (Int × Int)
  | 0 => []
  | n + 1 => if f n then ext (setUp f n) n else setUp f n
theorem ext_nil (i : Nat) : ext [] i = [((i : Int), (i : Int) + 1)] := rfl
theorem ext_snoc (l : List (Int × Int)) (r : Int × Int) (i : Nat) : ext (l ++ [r]) i = if r.2 = i then l ++ [(r.1, (i : Int) + 1)] else l ++ [r] ++ [((i : Int), (i : Int) + 1)] := by simp [ext]
theorem ext_length (l : List (Int × Int)) (i : Nat) : (ext l i).length ≤ l.length + 1 := by
  rcases List.eq_nil_or_concat l with rfl | ⟨l, r, rfl⟩
  · simp [ext_nil]
  · rw [List.concat_eq_append, ext_snoc]
    split <;> simp
theorem setUp_length (f : Nat → Bool) (n : Nat) : (setUp f n).length ≤ n := by
  induction n with
  | zero => simp [setUp]
  | succ n ih =>
    unfold setUp
    have := ext_length (setUp f n) n
    split <;> omega
end Go.Proofs.YtapojgbiboeaiaaGreatDoor
