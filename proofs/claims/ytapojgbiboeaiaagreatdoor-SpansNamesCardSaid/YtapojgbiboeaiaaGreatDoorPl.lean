/- Plain laws of sets of lines: a set is fixed by its lines; what setUp, putAll, bothN, notR have. No program in sight. -/
import Derived.Test.YtapojgbiboeaiaaGreatDoorAn
import Derived.Test.YtapojgbiboeaiaaGreatDoorOf
import Derived.Test.YtapojgbiboeaiaaGreatDoorMe
import Derived.Test.YtapojgbiboeaiaaGreatDoorHd
namespace Go.Proofs.YtapojgbiboeaiaaGreatDoor
set_option linter.unusedVariables false
set_option linter.unusedSimpArgs false
/-- Line i is in one of the ranges. -/
def Mem (l : List (Int × Int)) (i : Int) : Prop := ∃ r, r ∈ l ∧ r.1 ≤ i ∧ i < r.2
theorem mem_iff (l : List (Int × Int)) (i : Nat) : mem l i = true ↔ Mem l i := by
  unfold mem Mem
  rw [List.any_eq_true]
  constructor
  · rintro ⟨r, h1, h2⟩
    simp only [Bool.and_eq_true, decide_eq_true_eq] at h2
    exact ⟨r, h1, h2⟩
  · rintro ⟨r, h1, h2⟩
    exact ⟨r, h1, by simp only [Bool.and_eq_true, decide_eq_true_eq]; exact h2⟩
theorem Mem_nil (i : Int) : ¬ Mem [] i := by rintro ⟨r, h, _⟩; cases h
theorem Mem_cons (r : Int × Int) (l : List (Int × Int)) (i : Int) : Mem (r :: l) i ↔ (r.1 ≤ i ∧ i < r.2) ∨ Mem l i := by
  unfold Mem
  constructor
  · rintro ⟨q, h, h2⟩
    rcases List.mem_cons.1 h with rfl | h
    · exact .inl h2
    · exact .inr ⟨q, h, h2⟩
  · rintro (h | ⟨q, h, h2⟩)
    · exact ⟨r, by simp, h⟩
    · exact ⟨q, by simp [h], h2⟩
theorem Mem_append (l m : List (Int × Int)) (i : Int) : Mem (l ++ m) i ↔ Mem l i ∨ Mem m i := by
  unfold Mem
  constructor
  · rintro ⟨q, h, h2⟩
    rcases List.mem_append.1 h with h | h
    · exact .inl ⟨q, h, h2⟩
    · exact .inr ⟨q, h, h2⟩
  · rintro (⟨q, h, h2⟩ | ⟨q, h, h2⟩)
    · exact ⟨q, by simp [h], h2⟩
    · exact ⟨q, by simp [h], h2⟩
theorem Mem_one (r : Int × Int) (i : Int) : Mem [r] i ↔ r.1 ≤ i ∧ i < r.2 := by
  rw [Mem_cons]
  exact ⟨fun h => h.elim id (fun h => (Mem_nil i h).elim), .inl⟩
/-- The ranges are a set behind 'last'. -/
def Ok (last : Int) : List (Int × Int) → Prop
  | [] => True
  | r :: l => last < r.1 ∧ r.1 < r.2 ∧ r.2 ≤ 65536 ∧ Ok r.2 l
theorem ok_iff : ∀ (last : Int) (l : List (Int × Int)), okFrom last l = true ↔ Ok last l
  | last, [] => by simp [okFrom, Ok]
  | last, r :: l => by
    rw [okFrom_cons, Bool.and_eq_true, ok_iff r.2 l]
    simp only [Bool.not_eq_true', Bool.or_eq_false_iff, decide_eq_false_iff_not, Ok]
    constructor
    · rintro ⟨h, h4⟩; exact ⟨by omega, by omega, by omega, h4⟩
    · rintro ⟨h1, h2, h3, h4⟩; exact ⟨by omega, h4⟩
theorem Ok.mono {last last' : Int} (h : last' ≤ last) : ∀ {l : List (Int × Int)}, Ok last l → Ok last' l
  | [], _ => trivial
  | r :: l, ⟨h1, h2, h3, h4⟩ => ⟨by omega, h2, h3, h4⟩
theorem Ok.lt {i : Int} : ∀ {last : Int} {l : List (Int × Int)}, Ok last l → Mem l i → last < i
  | _, [], _, hm => (Mem_nil i hm).elim
  | last, r :: l, ⟨h1, h2, h3, h4⟩, hm => by
    rcases (Mem_cons r l i).1 hm with h | h
    · omega
    · have := Ok.lt h4 h; omega
theorem Ok.all {last : Int} {l : List (Int × Int)} (hl : -1 ≤ last) (h : Ok last l) : ∀ r ∈ l, 0 ≤ r.1 ∧ r.1 < r.2 ∧ r.2 ≤ 65536 := by
  induction l generalizing last with
  | nil => intro r hr; cases hr
  | cons q l ih =>
    obtain ⟨h1, h2, h3, h4⟩ := h
    intro r hr
    rcases List.mem_cons.1 hr with rfl | hr
    · exact ⟨by omega, h2, h3⟩
    · exact ih (last := q.2) (by omega) h4 r hr
/-- A set is fixed by its lines. -/
theorem Ok.unique : ∀ {last : Int} {l m : List (Int × Int)}, -1 ≤ last → Ok last l → Ok last m → (∀ i : Int, 0 ≤ i → (Mem l i ↔ Mem m i)) → l = m
  | last, [], [], _, _, _, _ => rfl
  | last, [], q :: m, hl, _, h, he => by
    have := (he q.1 (by have := h.1; omega)).2 ((Mem_cons q m q.1).2 (.inl ⟨Int.le_refl _, h.2.1⟩))
    exact (Mem_nil _ this).elim
  | last, r :: l, [], hl, h, _, he => by
    have := (he r.1 (by have := h.1; omega)).1 ((Mem_cons r l r.1).2 (.inl ⟨Int.le_refl _, h.2.1⟩))
    exact (Mem_nil _ this).elim
  | last, r :: l, q :: m, hl, h, k, he => by
    obtain ⟨h1, h2, h3, h4⟩ := h
    obtain ⟨k1, k2, k3, k4⟩ := k
    have a1 := (Mem_cons q m r.1).1 ((he r.1 (by omega)).1 ((Mem_cons r l r.1).2 (.inl ⟨Int.le_refl _, h2⟩)))
    have a2 := (Mem_cons r l q.1).1 ((he q.1 (by omega)).2 ((Mem_cons q m q.1).2 (.inl ⟨Int.le_refl _, k2⟩)))
    have e1 : r.1 = q.1 := by
      rcases a1 with a | a <;> rcases a2 with b | b
      · omega
      · have := h4.lt b; omega
      · have := k4.lt a; omega
      · have := h4.lt b; have := k4.lt a; omega
    have e2 : r.2 = q.2 := by
      rcases Int.lt_trichotomy r.2 q.2 with c | c | c
      · rcases (Mem_cons r l r.2).1 ((he r.2 (by omega)).2 ((Mem_cons q m r.2).2 (.inl ⟨by omega, c⟩))) with d | d
        · omega
        · have := h4.lt d; omega
      · exact c
      · rcases (Mem_cons q m q.2).1 ((he q.2 (by omega)).1 ((Mem_cons r l q.2).2 (.inl ⟨by omega, c⟩))) with d | d
        · omega
        · have := k4.lt d; omega
    have er : r = q := Prod.ext e1 e2
    subst er
    have := Ok.unique (last := r.2) (l := l) (m := m) (by omega) h4 k4 (fun i hi => by
      constructor
      · intro a
        have := h4.lt a
        rcases (Mem_cons r m i).1 ((he i hi).1 ((Mem_cons r l i).2 (.inr a))) with d | d
        · omega
        · exact d
      · intro a
        have := k4.lt a
        rcases (Mem_cons r l i).1 ((he i hi).2 ((Mem_cons r m i).2 (.inr a))) with d | d
        · omega
        · exact d)
    rw [this]
/-- The last range's end. -/
def lastE (last : Int) : List (Int × Int) → Int
  | [] => last
  | r :: l => lastE r.2 l
theorem lastE_snoc : ∀ (last : Int) (l : List (Int × Int)) (r : Int × Int), lastE last (l ++ [r]) = r.2
  | _, [], _ => rfl
  | _, q :: l, r => lastE_snoc q.2 l r
theorem ok_append : ∀ (last : Int) (l m : List (Int × Int)), Ok last (l ++ m) ↔ Ok last l ∧ Ok (lastE last l) m
  | last, [], m => by simp [Ok, lastE]
  | last, r :: l, m => by
    have := ok_append r.2 l m
    simp only [List.cons_append, Ok, lastE, this]
    constructor
    · rintro ⟨a, b, c, d, e⟩; exact ⟨⟨a, b, c, d⟩, e⟩
    · rintro ⟨⟨a, b, c, d⟩, e⟩; exact ⟨a, b, c, d, e⟩
theorem ok_snoc (last : Int) (l : List (Int × Int)) (r : Int × Int) : Ok last (l ++ [r]) ↔ Ok last l ∧ lastE last l < r.1 ∧ r.1 < r.2 ∧ r.2 ≤ 65536 := by
  rw [ok_append]
  simp [Ok]
/-- setUp makes a set, of just the lines that were marked. -/
theorem setUp_ok (f : Nat → Bool) : ∀ n, n ≤ 65536 → Ok (-1) (setUp f n) ∧ lastE (-1) (setUp f n) ≤ n ∧ ∀ i : Int, Mem (setUp f n) i ↔ (0 ≤ i ∧ i < n ∧ f i.toNat = true)
  | 0, _ => ⟨trivial, by simp [setUp, lastE], fun i => ⟨fun h => (Mem_nil i h).elim, fun h => by omega⟩⟩
  | n + 1, hn => by
    obtain ⟨h1, h2, h3⟩ := setUp_ok f n (by omega)
    unfold setUp
    by_cases hf : f n = true
    · rw [if_pos hf]
      have key : ∀ i : Int, (0 ≤ i ∧ i < (n + 1 : Nat) ∧ f i.toNat = true) ↔ ((0 ≤ i ∧ i < n ∧ f i.toNat = true) ∨ i = n) := by
        intro i
        constructor
        · rintro ⟨a, b, c⟩
          by_cases e : i = n
          · exact .inr e
          · exact .inl ⟨a, by omega, c⟩
        · rintro (⟨a, b, c⟩ | rfl)
          · exact ⟨a, by omega, c⟩
          · exact ⟨by omega, by omega, by simpa using hf⟩
      rcases List.eq_nil_or_concat (setUp f n) with hnil | ⟨l, r, hl⟩
      · rw [hnil] at h3 ⊢
        rw [ext_nil]
        refine ⟨⟨by simp; omega, by simp; omega, by simp; omega, trivial⟩, by simp [lastE], fun i => ?_⟩
        rw [key, ← h3, Mem_one]
        constructor
        · intro h; exact .inr (by simp at h; omega)
        · rintro (h | h)
          · exact (Mem_nil _ h).elim
          · simp; omega
      · rw [List.concat_eq_append] at hl
        rw [hl] at h1 h2 h3 ⊢
        rw [ext_snoc]
        rw [lastE_snoc] at h2
        rw [ok_snoc] at h1
        obtain ⟨o1, o2, o3, o4⟩ := h1
        by_cases e : r.2 = n
        · rw [if_pos e]
          refine ⟨(ok_snoc _ _ _).2 ⟨o1, o2, by simp; omega, by simp; omega⟩, by rw [lastE_snoc]; simp, fun i => ?_⟩
          rw [key, ← h3, Mem_append, Mem_append, Mem_one, Mem_one]
          constructor
          · rintro (h | h)
            · exact .inl (.inl h)
            · by_cases e2 : i = n
              · exact .inr e2
              · exact .inl (.inr (by simp at h; omega))
          · rintro ((h | h) | h)
            · exact .inl h
            · exact .inr (by simp; omega)
            · exact .inr (by simp; omega)
        · rw [if_neg e]
          refine ⟨(ok_snoc _ _ _).2 ⟨(ok_snoc _ _ _).2 ⟨o1, o2, o3, o4⟩, by rw [lastE_snoc]; simp; omega, by simp; omega, by simp; omega⟩, by rw [lastE_snoc]; simp, fun i => ?_⟩
          rw [key, ← h3, Mem_append (l ++ [r]), Mem_one]
          constructor
          · rintro (h | h)
            · exact .inl h
            · exact .inr (by simp at h; omega)
          · rintro (h | h)
            · exact .inl h
            · exact .inr (by simp; omega)
    · rw [if_neg hf]
      refine ⟨h1, by omega, fun i => ?_⟩
      rw [h3]
      constructor
      · rintro ⟨a, b, c⟩; exact ⟨a, by omega, c⟩
      · rintro ⟨a, b, c⟩
        refine ⟨a, ?_, c⟩
        by_cases e : i = n
        · subst e
          simp at c
          exact absurd c hf
        · omega
/-- A set is what setUp makes of its lines. -/
theorem eq_setUp {l : List (Int × Int)} {f : Nat → Bool} (hl : Ok (-1) l) (h : ∀ i : Nat, i < 65536 → (Mem l i ↔ f i = true)) : l = setUp f 65536 := by
  obtain ⟨N, hN⟩ : ∃ N : Nat, 65536 = N := ⟨_, rfl⟩
  rw [hN] at h ⊢
  obtain ⟨h1, h2, h3⟩ := setUp_ok f N (by omega)
  refine Ok.unique (last := -1) (by omega) hl h1 (fun i hi => ?_)
  rw [h3]
  have hb : Mem l i → i < N := by
    rintro ⟨r, hr, a, b⟩
    have := (Ok.all (by omega) hl r hr).2.2
    omega
  obtain ⟨j, rfl⟩ : ∃ j : Nat, i = j := ⟨i.toNat, by omega⟩
  constructor
  · intro hm
    have := hb hm
    exact ⟨hi, this, by simpa using (h j (by omega)).1 hm⟩
  · rintro ⟨a, b, c⟩
    exact (h j (by omega)).2 (by simpa using c)
end Go.Proofs.YtapojgbiboeaiaaGreatDoor
