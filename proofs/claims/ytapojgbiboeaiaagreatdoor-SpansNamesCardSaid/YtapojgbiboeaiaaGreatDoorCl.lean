/- slices.Clone of ranges: a new slice of the same ranges; nothing where there is none. Condition: the argument lies under the heap's size. -/
import Derived.Test.YtapojgbiboeaiaaGreatDoorOw
import Derived.WalkSpells
namespace Go.Proofs.YtapojgbiboeaiaaGreatDoor
set_option linter.unusedVariables false
set_option linter.unusedSimpArgs false
open Go.RowKit Rng
theorem rd_cells {B : Nat} {w : World} {x : Addr} {l : List (Int × Int)} (hx : x.spot = none) (h : ∀ (i : Nat) (r : Int × Int), l[i]? = some r → ∃ b o, some x = some ⟨b, o, none⟩ ∧ b < B ∧ w.cell? ⟨b, o + i * 2, none⟩ = some (.int .i64 r.1) ∧ w.cell? ⟨b, o + i * 2 + 1, none⟩ = some (.int .i64 r.2)) :
    ∀ j u, (rcells l)[j]? = some u → w.cell? (x.add j) = some u := by
  intro j u hu
  have hj : j < (rcells l).length := (List.getElem?_eq_some_iff.1 hu).1
  rw [rcells_length] at hj
  obtain ⟨r, hr⟩ : ∃ r, l[j / 2]? = some r := ⟨_, List.getElem?_eq_getElem (by omega)⟩
  obtain ⟨b, o, e, hb, c1, c2⟩ := h (j / 2) r hr
  obtain rfl := Option.some.inj e
  have g := rcells_get l (j / 2) r hr
  rw [Addr.add_lit]
  by_cases e2 : j % 2 = 0
  · have ej : j / 2 * 2 = j := by omega
    rw [ej] at c1 g
    rw [← Option.some.inj (g.1.symm.trans hu)]
    exact c1
  · have ej : j / 2 * 2 + 1 = j := by omega
    rw [ej] at g
    rw [Nat.add_assoc, ej] at c2
    rw [← Option.some.inj (g.2.symm.trans hu)]
    exact c2
set_option maxRecDepth 100000 in
set_option maxHeartbeats 1000000 in
theorem clone_calls {B : Nat} {v : Value} {l : List (Int × Int)} {w : World} (h : Rd B w v l) (hB : B ≤ w.heap.size) (hlen : l.length ≤ 65536) :
    Calls Tryz.prog 29 #[v] w fun e w' => ∃ x, e = .returned x ∧ Own w' w.heap.size x l ∧ Below w.heap.size w w' := by
  obtain ⟨ao, cap, rfl, h1, h2, h3⟩ := h
  obtain ⟨i0, hi, hz0, hz1, hz2⟩ := info_rg
  cases ao with
  | none =>
    have hl : l = [] := by
      cases l with
      | nil => rfl
      | cons r l => obtain ⟨b, o, e, _⟩ := h3 0 r rfl; cases e
    subst hl
    clear h3
    have he : ∀ W, (binOp .eql 22 (.slice none 0 cap) (.slice none 0 0)).run Tryz.prog W = .ok (.bool true) W := fun W => run_eql_nil_slice W _ _ none 0 0 0 cap Tryz.underlying22
    go_enter Tryz.func29, Tryz.ntmps29
    go_wp2
    go_ret
    exact ⟨_, rfl, World.ownsRow_nil _ _ _ _, Below.refl _ _⟩
  | some x =>
    have HX := Lib.hid (fun (W : World) (hb : Below w.heap.size w W) => show ∀ j u, (rcells l)[j]? = some u → W.cell? (x.add j) = some u by
      cases l with
      | nil => intro j u hu; simp [rcells] at hu
      | cons r l =>
        obtain ⟨b, o, e, _⟩ := h3 0 r rfl
        obtain rfl := Option.some.inj e
        refine rd_cells (B := B) rfl fun i r hr => ?_
        obtain ⟨b', o', e', hb', c1, c2⟩ := h3 i r hr
        have eb := hb.block b' (Nat.lt_of_lt_of_le hb' hB)
        exact ⟨b', o', e', hb', (World.cell?_of_block (w := w) eb).trans c1, (World.cell?_of_block (w := w) eb).trans c2⟩)
    clear h3
    have he : ∀ W, (binOp .eql 22 (.slice (some x) l.length cap) (.slice none 0 0)).run Tryz.prog W = .ok (.bool false) W := fun W => Lib.run_eql_slice_nil W _ _ (some x) l.length cap 0 0 Tryz.underlying22
    go_enter Tryz.func29, Tryz.ntmps29
    go_wp2_with (at_builtin; refine wpList_append_own _ rfl _ _ 22 rfl w.heap.size 28 i0 _ 2 16 Tryz.underlying22 hi hz0 hz1 hz2 rfl (by decide) _ 0 [] rfl ⟨rfl, .inr ⟨w.heap.size, 0, #[], rfl, Nat.le_refl _, World.alloc_heap_new w _, Nat.le_refl _, Nat.zero_le _, rfl, rfl⟩⟩ x l.length cap (rcells l) rfl (rcells_length l) (HX.out _ ((Below.refl _ w).alloc (Nat.le_refl _) _)) (by intro u hu; obtain ⟨r, _, hr⟩ := List.mem_flatMap.1 hu; simp at hr; rcases hr with rfl | rfl <;> rfl) (by unfold maxLen; omega) (by omega) (by simp) ?_; intro v' w1 hown' hgrow hnil')
    go_ret
    refine ⟨_, rfl, ?_, ((Below.refl _ w).alloc (Nat.le_refl _) _).grown hgrow (by simp) (fun k e => by cases e; exact Nat.le_refl _)⟩
    have h := hown'
    rw [Nat.zero_add, List.nil_append] at h
    exact h
end Go.Proofs.YtapojgbiboeaiaaGreatDoor
