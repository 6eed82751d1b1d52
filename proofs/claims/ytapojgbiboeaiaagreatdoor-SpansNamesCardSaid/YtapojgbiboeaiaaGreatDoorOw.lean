/- A list of ranges that grows in the call's own memory: its cells, its last range, an append, a last range made longer. -/
import Derived.Test.YtapojgbiboeaiaaGreatDoorLn
import Derived.Laws.OwnMore
import Derived.OwnWalk
namespace Go.Proofs.YtapojgbiboeaiaaGreatDoor
set_option linter.unusedVariables false
set_option linter.unusedSimpArgs false
open Go.RowKit Rng
/-- The value v is a slice of the ranges l in the call's own memory, from block 'base' on. -/
abbrev Own (w : World) (base : Nat) (v : Value) (l : List (Int × Int)) : Prop := w.ownsRow base 28 2 v l.length (rcells l)
theorem rcells_length (l : List (Int × Int)) : (rcells l).length = l.length * 2 := by
  induction l with
  | nil => rfl
  | cons r l ih => simp only [rcells, List.flatMap_cons, List.length_append, List.length_cons, List.length_nil] at *; omega
theorem rcells_append (l m : List (Int × Int)) : rcells (l ++ m) = rcells l ++ rcells m := by simp [rcells]
theorem rcells_get : ∀ (l : List (Int × Int)) (i : Nat) (r : Int × Int), l[i]? = some r → (rcells l)[i * 2]? = some (.int .i64 r.1) ∧ (rcells l)[i * 2 + 1]? = some (.int .i64 r.2)
  | [], i, r, h => by simp at h
  | q :: l, 0, r, h => by
    simp only [List.getElem?_cons_zero, Option.some.injEq] at h
    subst h
    exact ⟨rfl, rfl⟩
  | q :: l, i + 1, r, h => by
    simp only [List.getElem?_cons_succ] at h
    have := rcells_get l i r h
    have e1 : (i + 1) * 2 = i * 2 + 1 + 1 := by omega
    rw [e1]
    exact this
theorem own_form {w : World} {base : Nat} {v : Value} {l : List (Int × Int)} (h : Own w base v l) (hl : 0 < l.length) :
    ∃ g cap, v = .slice (some ⟨g, 0, none⟩) l.length cap ∧ base ≤ g ∧ g < w.heap.size ∧ l.length ≤ cap ∧ cap ≤ maxLen := by
  obtain ⟨_, ⟨_, h0⟩ | ⟨g, cap, cur, rfl, hb, hc, h1, h2, _⟩⟩ := h
  · omega
  · exact ⟨g, cap, rfl, hb, (Array.getElem?_eq_some_iff.1 hc).1, h1, h2⟩
theorem own_rd {w : World} {base : Nat} {v : Value} {l : List (Int × Int)} (h : Own w base v l) : Rd w.heap.size w v l := by
  have h' := h
  obtain ⟨_, ⟨rfl, h0⟩ | ⟨g, cap, cur, rfl, hb, hc, h1, h2, _⟩⟩ := h
  · have : l = [] := List.eq_nil_of_length_eq_zero h0
    subst this
    exact ⟨none, 0, rfl, Nat.le_refl _, by unfold maxLen; omega, fun i r hr => by simp at hr⟩
  · refine ⟨some ⟨g, 0, none⟩, cap, rfl, h1, h2, fun i r hr => ?_⟩
    have hi := (List.getElem?_eq_some_iff.1 hr).1
    have e := rcells_get l i r hr
    refine ⟨g, 0, rfl, (Array.getElem?_eq_some_iff.1 hc).1, ?_, ?_⟩
    · rw [Nat.zero_add, h'.cellAt (i * 2) (by omega)]; exact e.1
    · rw [Nat.zero_add, h'.cellAt (i * 2 + 1) (by omega)]; exact e.2
theorem info_rg : ∃ i, Tryz.prog.info? 28 = some i ∧ i.zero = some (.agg #[.int .i64 0, .int .i64 0]) ∧ i.size = 2 ∧ i.bytes = 16 := by
  have e1 : (Tryz.prog.info? 28).bind (·.zero) = some (.agg #[.int .i64 0, .int .i64 0]) := by kernel_rfl
  have e2 : (Tryz.prog.info? 28).map (·.size) = some 2 := by kernel_rfl
  have e3 : (Tryz.prog.info? 28).map (·.bytes) = some 16 := by kernel_rfl
  cases h : Tryz.prog.info? 28 with
  | none => rw [h] at e2; cases e2
  | some i =>
    rw [h] at e1 e2 e3
    simp only [Option.bind_some, Option.map_some, Option.some.injEq] at e1 e2 e3
    exact ⟨i, rfl, e1, e2, e3⟩
/-- The last range's end is written. -/
theorem own_last {w : World} {base g cap : Nat} {l : List (Int × Int)} {r : Int × Int} {n : Nat} (hn : n = (l ++ [r]).length) (h : Own w base (.slice (some ⟨g, 0, none⟩) n cap) (l ++ [r])) (z : Int) :
    Own (w.setCell ⟨g, l.length * 2 + 1, none⟩ (.int .i64 z)) base (.slice (some ⟨g, 0, none⟩) n cap) (l ++ [(r.1, z)]) := by
  subst hn
  have h1 := h.stored (l.length * 2 + 1) (.int .i64 z)
  have e : (rcells (l ++ [r])).set (l.length * 2 + 1) (.int .i64 z) = rcells (l ++ [(r.1, z)]) := by
    rw [rcells_append, rcells_append, List.set_append_right _ _ (by rw [rcells_length]; omega), rcells_length]
    have : l.length * 2 + 1 - l.length * 2 = 1 := by omega
    rw [this]
    rfl
  rw [e] at h1
  have e2 : (l ++ [r]).length = (l ++ [(r.1, z)]).length := by simp
  rw [e2] at h1 ⊢
  exact h1.1
/-- What an append of one range leaves. -/
theorem own_more {w : World} {base : Nat} {v : Value} {l : List (Int × Int)} {r : Int × Int} (h : w.ownsRow base 28 2 v (l.length + 1) (rcells l ++ [.int .i64 r.1, .int .i64 r.2])) : Own w base v (l ++ [r]) := by
  have e : (l ++ [r]).length = l.length + 1 := by simp
  have e2 : rcells (l ++ [r]) = rcells l ++ [.int .i64 r.1, .int .i64 r.2] := by rw [rcells_append]; rfl
  unfold Own
  rw [e, e2]
  exact h
theorem new2 (w : World) (x y : Value) (t : TypeId) : ∀ j u, [x, y][j]? = some u → (w.alloc (.cells #[x, y] t)).cell? ((⟨w.heap.size, 0, none⟩ : Addr).add j) = some u := by
  intro j u hu
  have hb : (w.alloc (.cells #[x, y] t)).heap[w.heap.size]? = some (.cells #[x, y] t (0, 0)) := World.alloc_heap_new w _
  rw [Addr.add_lit, Nat.zero_add, cell_of hb]
  simpa using hu
theorem own_mono {w : World} {b b' : Nat} {v : Value} {l : List (Int × Int)} (h : Own w b v l) (hb : b' ≤ b) : Own w b' v l := by
  obtain ⟨h1, h2 | ⟨g, cap, cur, h3, h4, h5⟩⟩ := h
  · exact ⟨h1, .inl h2⟩
  · exact ⟨h1, .inr ⟨g, cap, cur, h3, Nat.le_trans hb h4, h5⟩⟩
theorem own_below {w w' : World} {base n m : Nat} {v : Value} {xs : List Value} (h : w.ownsRow base 28 2 v m xs) (hb : Below n w w') (hn : w.heap.size ≤ n) : w'.ownsRow base 28 2 v m xs := by
  obtain ⟨h1, h2 | ⟨g, cap, cur, h3, h4, h5, h6⟩⟩ := h
  · exact ⟨h1, .inl h2⟩
  · exact ⟨h1, .inr ⟨g, cap, cur, h3, h4, (hb.block g (Nat.lt_of_lt_of_le (Array.getElem?_eq_some_iff.1 h5).1 hn)).trans h5, h6⟩⟩
end Go.Proofs.YtapojgbiboeaiaaGreatDoor
