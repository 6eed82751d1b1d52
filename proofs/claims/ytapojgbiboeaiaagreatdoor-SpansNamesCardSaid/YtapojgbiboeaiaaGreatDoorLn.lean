/- Lines marks just the lines that ranges have, one cell for each of 65536. Condition: the ranges are a set. -/
import Derived.Test.YtapojgbiboeaiaaGreatDoorSm
import Derived.Laws.MakeOwn
namespace Go.Proofs.YtapojgbiboeaiaaGreatDoor
set_option linter.unusedVariables false
set_option linter.unusedSimpArgs false
open Go.RowKit Rng
/-- n cells, each saying whether f holds of its number. -/
def marks (n : Nat) (f : Nat → Bool) : Array Value := ((List.range n).map fun i => Value.bool (f i)).toArray
theorem marks_size (n : Nat) (f : Nat → Bool) : (marks n f).size = n := by simp [marks]
theorem marks_get (n : Nat) (f : Nat → Bool) (i : Nat) (h : i < n) : (marks n f)[i]? = some (.bool (f i)) := by simp [marks, h]
theorem marks_set (n : Nat) (f : Nat → Bool) (i : Nat) (h : i < n) (b : Bool) : (marks n f).setIfInBounds i (.bool b) = marks n (fun j => if j = i then b else f j) := by
  apply Array.ext
  · simp [marks]
  · intro j h1 h2
    simp only [marks, List.size_toArray, List.length_map, List.length_range, Array.size_setIfInBounds] at h1 h2
    by_cases e : i = j
    · subst e; simp [marks, Array.getElem_setIfInBounds]
    · simp [marks, Array.getElem_setIfInBounds, e, Ne.symm e, show ¬ j = i from fun x => e x.symm]
theorem marks_none (n : Nat) : madeCells #[.bool false] n = marks n fun _ => false := by
  apply Array.ext
  · simp [madeCells, marks]
  · intro j h1 h2
    have e : ∀ k : Nat, (#[Value.bool false])[k % 1]! = Value.bool false := fun k => by rw [Nat.mod_one]; rfl
    simp only [madeCells, marks, Array.getElem_map, List.getElem_toArray, List.getElem_map]
    exact e _
theorem info_bool : ∃ i, Tryz.prog.info? 4 = some i ∧ i.zero = some (.bool false) ∧ i.size = 1 ∧ i.bytes = 1 := by
  have e1 : (Tryz.prog.info? 4).bind (·.zero) = some (.bool false) := by kernel_rfl
  have e2 : (Tryz.prog.info? 4).map (·.size) = some 1 := by kernel_rfl
  have e3 : (Tryz.prog.info? 4).map (·.bytes) = some 1 := by kernel_rfl
  cases h : Tryz.prog.info? 4 with
  | none => rw [h] at e2; cases e2
  | some i =>
    rw [h] at e1 e2 e3
    simp only [Option.bind_some, Option.map_some, Option.some.injEq] at e1 e2 e3
    exact ⟨i, rfl, e1, e2, e3⟩
/-- Is line i in one of the ranges? -/
def mem (l : List (Int × Int)) (i : Nat) : Bool := l.any fun r => decide (r.1 ≤ i) && decide ((i : Int) < r.2)
theorem mem_take_succ {l : List (Int × Int)} {k : Nat} {r : Int × Int} (hr : l[k]? = some r) (i : Nat) : mem (l.take (k + 1)) i = (mem (l.take k) i || (decide (r.1 ≤ i) && decide ((i : Int) < r.2))) := by
  unfold mem
  rw [List.take_add_one, hr, List.any_append]
  simp
theorem okFrom_get : ∀ {l : List (Int × Int)} {last : Int} {k : Nat} {r : Int × Int}, okFrom last l = true → l[k]? = some r → last < r.1 ∧ r.1 < r.2 ∧ r.2 ≤ 65536
  | [], last, k, r, _, hr => by simp at hr
  | q :: l, last, 0, r, h, hr => by
    simp only [List.getElem?_cons_zero, Option.some.injEq] at hr
    subst hr
    simp only [okFrom_cons, Bool.and_eq_true, Bool.not_eq_true', Bool.or_eq_false_iff, decide_eq_false_iff_not] at h
    omega
  | q :: l, last, k + 1, r, h, hr => by
    simp only [List.getElem?_cons_succ] at hr
    simp only [okFrom_cons, Bool.and_eq_true, Bool.not_eq_true', Bool.or_eq_false_iff, decide_eq_false_iff_not] at h
    have := okFrom_get h.2 hr
    omega
theorem marks_congr {n : Nat} {f g : Nat → Bool} (h : ∀ i, i < n → f i = g i) : marks n f = marks n g := by
  apply Array.ext
  · simp [marks]
  · intro i h1 h2
    simp only [marks, List.size_toArray, List.length_map, List.length_range] at h1
    simp [marks, h i h1]
end Go.Proofs.YtapojgbiboeaiaaGreatDoor
