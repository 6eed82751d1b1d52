/- The chapter's examples of sets of lines: what each call gives. Conditions: where one is made of readable ranges; the library's variables are as they are laid. -/
import Derived.Test.YtapojgbiboeaiaaGreatDoorAl
import Derived.Test.YtapojgbiboeaiaaGreatDoorMl
import Derived.Test.YtapojgbiboeaiaaGreatDoorAn
import Derived.Test.YtapojgbiboeaiaaGreatDoorHa
import Derived.Test.YtapojgbiboeaiaaGreatDoorMe
namespace Go.Proofs.YtapojgbiboeaiaaGreatDoor
set_option linter.unusedVariables false
set_option linter.unusedSimpArgs false
open Go.RowKit Rng
theorem parse_err {B : Nat} (s : ByteArray) (hs : s.size ≤ 1000) (h0 : s.size ≠ 0) (h : (partsOf s).all okP = false) (w : World) (hB : B ≤ w.heap.size) (ht : Env B w) :
    Calls Tryz.prog 4 #[.string s] w fun e w' => e = .returned (.tuple #[.slice none 0 0, .int .i64 190]) ∧ Below w.heap.size w w' :=
  (parse_calls s hs w hB ht).mono fun e w' ⟨⟨x, c, h1, h2⟩, h3⟩ => by
    rcases h2 with ⟨a, _⟩ | ⟨_, b, _⟩ | ⟨_, _, rfl, rfl⟩
    · exact absurd a h0
    · rw [h] at b; cases b
    · exact ⟨h1, h3⟩
theorem parse_one {B : Nat} (s : ByteArray) (hs : s.size ≤ 1000) (h0 : s.size ≠ 0) (h : (partsOf s).all okP = true) (r : Int × Int) (hr : (partsOf s).map rgP = [r]) (w : World) (hB : B ≤ w.heap.size) (ht : Env B w) :
    Calls Tryz.prog 4 #[.string s] w fun e w' => ∃ x, e = .returned (.tuple #[x, .int .i64 0]) ∧ Own w' w.heap.size x [r] ∧ Below w.heap.size w w' :=
  (parse_calls s hs w hB ht).mono fun e w' ⟨⟨x, c, h1, h2⟩, h3⟩ => by
    rcases h2 with ⟨a, _⟩ | ⟨_, _, rfl, m, hp, _, ho⟩ | ⟨_, b, _⟩
    · exact absurd a h0
    · rw [hr] at hp
      obtain rfl := List.perm_singleton.1 hp
      exact ⟨x, h1, ho, h3⟩
    · rw [h] at b; cases b
theorem not_ex {B : Nat} {v : Value} {w : World} (h : Rd B w v [(1, 2)]) (hB : B ≤ w.heap.size) :
    Calls Tryz.prog 5 #[v, .int .i64 3] w fun e w' => ∃ x, e = .returned (.tuple #[x, .int .i64 0]) ∧ Own w' w.heap.size x [(0, 1), (2, 3)] ∧ Below w.heap.size w w' := by
  have e : notR [(1, 2)] (3 : Nat) = [(0, 1), (2, 3)] := by decide +kernel
  have := snot_ok 3 h hB (by decide +kernel) (by omega) (by decide)
  rw [e] at this
  exact this
theorem and_ex {B C : Nat} {v u : Value} {w : World} (h : Rd B w v [(0, 3)]) (hB : B ≤ w.heap.size) (h' : Rd C w u [(2, 5)]) (hC : C ≤ w.heap.size) :
    Calls Tryz.prog 6 #[v, u] w fun e w' => ∃ x, e = .returned (.tuple #[x, .int .i64 0]) ∧ Own w' w.heap.size x [(2, 3)] ∧ Below w.heap.size w w' :=
  (sand_ok h hB h' hC (by decide +kernel) (by decide +kernel) (by decide) (by decide)).mono fun e w' ⟨x, mm, h1, h2, _, h4, h5⟩ => by
    rw [show bothN ([((0 : Int), (3 : Int))].length + [((2 : Int), (5 : Int))].length) [(0, 3)] [(2, 5)] = [(2, 3)] by decide +kernel] at h2
    obtain rfl := List.perm_singleton.1 h2
    exact ⟨x, h1, h4, h5⟩
theorem of_err {B : Nat} {v : Value} {w : World} (h : Rn B w v [-1]) (hB : B ≤ w.heap.size) :
    Calls Tryz.prog 9 #[v] w fun e w' => e = .returned (.tuple #[.slice none 0 0, .int .i64 2]) ∧ Below w.heap.size w w' :=
  (of_calls h hB (by decide)).mono fun e w' ⟨⟨x, c, h1, h2⟩, h3⟩ => by
    rcases h2 with ⟨a, _⟩ | ⟨_, rfl, rfl⟩
    · exact absurd a (by decide)
    · exact ⟨h1, h3⟩
theorem of_put {m : List (Int × Int)} (hp : m.Perm [(3, 4), (1, 2), (2, 3), (2, 3)]) (hr : Rises m) : putAll m = [(1, 4)] := by
  obtain ⟨k1, k2⟩ := putAll_ok m [] trivial (fun r hr => by
    have := hp.mem_iff.1 hr
    simp only [List.mem_cons, List.not_mem_nil, or_false] at this
    rcases this with rfl | rfl | rfl | rfl <;> (refine ⟨?_, ?_, ?_⟩ <;> simp)) (rises_pair hr) (fun l q e => by simp at e)
  refine Ok.unique (last := -1) (by omega) k1 ⟨by simp, by simp, by simp, trivial⟩ (fun i _ => ?_)
  have := k2 i
  rw [show putAll m = m.foldl put [] from rfl, this, Mem_perm hp]
  simp only [Mem_cons]
  constructor
  · rintro (h | h | h | h | h | h)
    · exact (Mem_nil _ h).elim
    · exact .inl (by omega)
    · exact .inl (by omega)
    · exact .inl (by omega)
    · exact .inl (by omega)
    · exact (Mem_nil _ h).elim
  · rintro (h | h)
    · by_cases c : i < 2
      · exact .inr (.inr (.inl (by omega)))
      · by_cases d : i < 3
        · exact .inr (.inr (.inr (.inl (by omega))))
        · exact .inr (.inl (by omega))
    · exact (Mem_nil _ h).elim
theorem of_ex {B : Nat} {v : Value} {w : World} (h : Rn B w v [3, 1, 2, 2]) (hB : B ≤ w.heap.size) :
    Calls Tryz.prog 9 #[v] w fun e w' => ∃ x, e = .returned (.tuple #[x, .int .i64 0]) ∧ Own w' w.heap.size x [(1, 4)] ∧ Below w.heap.size w w' :=
  (of_calls h hB (by decide)).mono fun e w' ⟨⟨x, c, h1, h2⟩, h3⟩ => by
    rcases h2 with ⟨_, rfl, m, hp, hr, ho⟩ | ⟨a, _⟩
    · rw [of_put hp hr] at ho
      exact ⟨x, h1, ho, h3⟩
    · exact absurd a (by decide)
theorem rd_two (w : World) (a b c d : Int) : RIn (w.alloc (.cells #[.int .i64 a, .int .i64 b, .int .i64 c, .int .i64 d] 28)) (.slice (some ⟨w.heap.size, 0, none⟩) 2 2) [(a, b), (c, d)] := by
  have hb : (w.alloc (.cells #[.int .i64 a, .int .i64 b, .int .i64 c, .int .i64 d] 28)).heap[w.heap.size]? = some (.cells #[.int .i64 a, .int .i64 b, .int .i64 c, .int .i64 d] 28 (0, 0)) := World.alloc_heap_new w _
  refine ⟨some ⟨w.heap.size, 0, none⟩, 2, rfl, Nat.le_refl _, by unfold maxLen; omega, fun i r hr => ?_⟩
  match i, hr with
  | 0, hr =>
    simp only [List.getElem?_cons_zero, Option.some.injEq] at hr
    subst hr
    exact ⟨_, _, rfl, (Array.getElem?_eq_some_iff.1 hb).1, by rw [cell_of hb]; rfl, by rw [cell_of hb]; rfl⟩
  | 1, hr =>
    simp only [List.getElem?_cons_succ, List.getElem?_cons_zero, Option.some.injEq] at hr
    subst hr
    exact ⟨_, _, rfl, (Array.getElem?_eq_some_iff.1 hb).1, by rw [cell_of hb]; rfl, by rw [cell_of hb]; rfl⟩
  | k + 2, hr => simp at hr
theorem rn_one (w : World) (a : Int) : Rn (w.alloc (.cells #[.int .i64 a] 3)).heap.size (w.alloc (.cells #[.int .i64 a] 3)) (.slice (some ⟨w.heap.size, 0, none⟩) 1 1) [a] := by
  have hb : (w.alloc (.cells #[.int .i64 a] 3)).heap[w.heap.size]? = some (.cells #[.int .i64 a] 3 (0, 0)) := World.alloc_heap_new w _
  refine ⟨some ⟨w.heap.size, 0, none⟩, 1, rfl, Nat.le_refl _, by unfold maxLen; omega, fun i r hr => ?_⟩
  match i, hr with
  | 0, hr =>
    simp only [List.getElem?_cons_zero, Option.some.injEq] at hr
    subst hr
    exact ⟨_, _, rfl, (Array.getElem?_eq_some_iff.1 hb).1, by rw [cell_of hb]; rfl⟩
  | k + 1, hr => simp at hr
theorem rn_four (w : World) (a b c d : Int) : Rn (w.alloc (.cells #[.int .i64 a, .int .i64 b, .int .i64 c, .int .i64 d] 3)).heap.size (w.alloc (.cells #[.int .i64 a, .int .i64 b, .int .i64 c, .int .i64 d] 3)) (.slice (some ⟨w.heap.size, 0, none⟩) 4 4) [a, b, c, d] := by
  have hb : (w.alloc (.cells #[.int .i64 a, .int .i64 b, .int .i64 c, .int .i64 d] 3)).heap[w.heap.size]? = some (.cells #[.int .i64 a, .int .i64 b, .int .i64 c, .int .i64 d] 3 (0, 0)) := World.alloc_heap_new w _
  refine ⟨some ⟨w.heap.size, 0, none⟩, 4, rfl, Nat.le_refl _, by unfold maxLen; omega, fun i r hr => ?_⟩
  match i, hr with
  | 0, hr =>
    simp only [List.getElem?_cons_zero, Option.some.injEq] at hr
    subst hr
    exact ⟨_, _, rfl, (Array.getElem?_eq_some_iff.1 hb).1, by rw [cell_of hb]; rfl⟩
  | 1, hr =>
    simp only [List.getElem?_cons_succ, List.getElem?_cons_zero, Option.some.injEq] at hr
    subst hr
    exact ⟨_, _, rfl, (Array.getElem?_eq_some_iff.1 hb).1, by rw [cell_of hb]; rfl⟩
  | 2, hr =>
    simp only [List.getElem?_cons_succ, List.getElem?_cons_zero, Option.some.injEq] at hr
    subst hr
    exact ⟨_, _, rfl, (Array.getElem?_eq_some_iff.1 hb).1, by rw [cell_of hb]; rfl⟩
  | 3, hr =>
    simp only [List.getElem?_cons_succ, List.getElem?_cons_zero, Option.some.injEq] at hr
    subst hr
    exact ⟨_, _, rfl, (Array.getElem?_eq_some_iff.1 hb).1, by rw [cell_of hb]; rfl⟩
  | k + 4, hr => simp at hr
end Go.Proofs.YtapojgbiboeaiaaGreatDoor
