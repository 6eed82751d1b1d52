/- SpansMeet's walk: whatever the ranges and lines, the law returns true. Conditions: the argument is a readable slice; the library's variables are as they are laid. -/
import Derived.Test.YtapojgbiboeaiaaGreatDoorAl
import Derived.Test.YtapojgbiboeaiaaGreatDoorLc
namespace Go.Proofs.YtapojgbiboeaiaaGreatDoor
set_option linter.unusedVariables false
set_option linter.unusedSimpArgs false
open Go.RowKit Rng
theorem setUp_pos (f : Nat → Bool) (h : ∃ i : Nat, i < 65536 ∧ f i = true) : 0 < (setUp f 65536).length := by
  obtain ⟨N, hN⟩ : ∃ N : Nat, 65536 = N := ⟨_, rfl⟩
  rw [hN] at h ⊢
  obtain ⟨i, hi, hf⟩ := h
  have := (setUp_ok f N (by omega)).2.2 i
  obtain ⟨r, hr, _⟩ := this.2 ⟨by omega, by omega, by simpa using hf⟩
  exact List.length_pos_of_mem hr
theorem setUp_zero (f : Nat → Bool) (h : ∀ i : Nat, i < 65536 → f i = false) : (setUp f 65536).length = 0 := by
  obtain ⟨N, hN⟩ : ∃ N : Nat, 65536 = N := ⟨_, rfl⟩
  rw [hN] at h ⊢
  have h1 := (setUp_ok f N (by omega)).1
  have h2 := (setUp_ok f N (by omega)).2.2
  cases hs : setUp f N with
  | nil => rfl
  | cons r l =>
    rw [hs] at h1 h2
    obtain ⟨_, b, c⟩ := (h2 r.1).1 ((Mem_cons r l r.1).2 (.inl ⟨Int.le_refl _, h1.2.1⟩))
    rw [h r.1.toNat (by omega)] at c
    cases c
theorem ok_one {x y : Int} (h0 : 0 ≤ x) (h1 : x < y) (h2 : y ≤ 65536) : okR [(x, y)] = true := (ok_iff _ _).2 ⟨by simp; omega, by simpa using h1, by simpa using h2, trivial⟩
theorem anyHas_iff (l : List (Int × Int)) (n : Int) (k : Nat) : anyHas l n k = true ↔ ∃ j : Nat, j < k ∧ hasR l (n + j) = true := by
  unfold anyHas
  rw [List.any_eq_true]
  constructor
  · rintro ⟨j, hj, h⟩; exact ⟨j, List.mem_range.1 hj, h⟩
  · rintro ⟨j, hj, h⟩; exact ⟨j, List.mem_range.2 hj, h⟩
theorem hasR_mem {l : List (Int × Int)} (hl : okR l = true) (i : Nat) : hasR l i = mem l i := by rw [hasR, hl]; rfl
/-- A set meets some lines just if it shares one with them. -/
theorem meet_law {l : List (Int × Int)} {x y : Int} (hl : okR l = true) (h0 : 0 ≤ x) (h1 : x < y) (h2 : y ≤ 65536) : decide (0 < (pairL true l [(x, y)]).length) = meetsR l x y := by
  have ho : (okR l && okR [(x, y)]) = true := by rw [hl, ok_one h0 h1 h2]; rfl
  rw [pairL_ok ho, meets_law (by omega)]
  cases hm : anyHas l x (y - x).toNat with
  | true =>
    obtain ⟨j, hj, hh⟩ := (anyHas_iff _ _ _).1 hm
    obtain ⟨i, hi⟩ : ∃ i : Nat, x + j = i := ⟨(x + j).toNat, by omega⟩
    rw [hi, hasR_mem hl] at hh
    refine decide_eq_true (setUp_pos _ ⟨i, by omega, ?_⟩)
    simp only [andOr, if_true, hh, Bool.true_and]
    exact (mem_iff _ _).2 ((Mem_one _ _).2 ⟨by simp; omega, by simp; omega⟩)
  | false =>
    refine decide_eq_false ?_
    rw [setUp_zero]
    · omega
    · intro i hi
      cases ha : andOr true (mem l i) (mem [(x, y)] i) with
      | false => rfl
      | true =>
        simp only [andOr, if_true, Bool.and_eq_true] at ha
        have hb := (Mem_one _ _).1 ((mem_iff _ _).1 ha.2)
        simp only at hb
        have := (anyHas_iff l x (y - x).toNat).2 ⟨(i - x).toNat, by omega, by
          have e : x + ((i - x).toNat : Int) = (i : Int) := by omega
          rw [e, hasR_mem hl]
          exact ha.1⟩
        rw [hm] at this
        cases this
theorem has_meets (l : List (Int × Int)) (x : Int) : hasR l x = meetsR l x (x + 1) := by
  rw [meets_law (by omega)]
  have e : (x + 1 - x).toNat = 0 + 1 := by omega
  rw [e, anyHas_succ]
  simp [anyHas]
theorem has_no {l : List (Int × Int)} (h : okR l = false) (x : Int) : hasR l x = false := by rw [hasR, h]; rfl
theorem meets_no {l : List (Int × Int)} (h : okR l = false) {x y : Int} (hxy : x ≠ y) : meetsR l x y = false := by unfold meetsR; rw [if_neg hxy, h]; rfl
theorem rd_one (w : World) (x y : Int) : RIn (w.alloc (.cells #[.int .i64 x, .int .i64 y] 28)) (.slice (some ⟨w.heap.size, 0, none⟩) 1 1) [(x, y)] := by
  have hb : (w.alloc (.cells #[.int .i64 x, .int .i64 y] 28)).heap[w.heap.size]? = some (.cells #[.int .i64 x, .int .i64 y] 28 (0, 0)) := World.alloc_heap_new w _
  refine ⟨some ⟨w.heap.size, 0, none⟩, 1, rfl, Nat.le_refl _, by unfold maxLen; omega, fun i r hr => ?_⟩
  match i, hr with
  | 0, hr =>
    simp only [List.getElem?_cons_zero, Option.some.injEq] at hr
    subst hr
    exact ⟨_, _, rfl, (Array.getElem?_eq_some_iff.1 hb).1, by rw [cell_of hb]; rfl, by rw [cell_of hb]; rfl⟩
  | k + 1, hr => simp at hr
end Go.Proofs.YtapojgbiboeaiaaGreatDoor
