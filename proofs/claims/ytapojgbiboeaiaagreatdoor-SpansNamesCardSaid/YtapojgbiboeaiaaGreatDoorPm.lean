/- Plain laws: what Or, And, Not, Of and Meets give is what the marked lines say. No program in sight. -/
import Derived.Test.YtapojgbiboeaiaaGreatDoorPl
namespace Go.Proofs.YtapojgbiboeaiaaGreatDoor
set_option linter.unusedVariables false
set_option linter.unusedSimpArgs false
/-- A range of lines. -/
def Fit (r : Int × Int) : Prop := 0 ≤ r.1 ∧ r.1 < r.2 ∧ r.2 ≤ 65536
theorem putAll_ok : ∀ (rest out : List (Int × Int)), Ok (-1) out → (∀ r ∈ rest, Fit r) → rest.Pairwise (fun p q => p.1 ≤ q.1) → (∀ l q, out = l ++ [q] → ∀ r ∈ rest, q.1 ≤ r.1) →
    Ok (-1) (rest.foldl put out) ∧ ∀ i, Mem (rest.foldl put out) i ↔ Mem out i ∨ Mem rest i
  | [], out, h, _, _, _ => ⟨h, fun i => ⟨.inl, fun h => h.elim id (fun h => (Mem_nil i h).elim)⟩⟩
  | r :: rest, out, h, hf, hs, hl => by
    obtain ⟨f1, f2, f3⟩ := hf r (by simp)
    obtain ⟨s1, s2⟩ := List.pairwise_cons.1 hs
    rw [List.foldl_cons]
    rcases List.eq_nil_or_concat out with rfl | ⟨l, q, hq⟩
    · rw [put_nil]
      obtain ⟨k1, k2⟩ := putAll_ok rest [r] ⟨by omega, f2, f3, trivial⟩ (fun x hx => hf x (by simp [hx])) s2 (fun l q e x hx => by
        have : q = r := by
          cases l with
          | nil => simpa using e.symm
          | cons y l => simp at e
        subst this
        exact s1 x hx)
      refine ⟨k1, fun i => ?_⟩
      rw [k2, Mem_one, Mem_cons]
      constructor
      · rintro (a | a)
        · exact .inr (.inl a)
        · exact .inr (.inr a)
      · rintro (a | a | a)
        · exact (Mem_nil i a).elim
        · exact .inl a
        · exact .inr a
    · rw [List.concat_eq_append] at hq
      subst hq
      have hqr := hl l q rfl r (by simp)
      obtain ⟨o1, o2, o3, o4⟩ := (ok_snoc _ _ _).1 h
      rw [put_snoc]
      by_cases hc : r.1 ≤ q.2
      · rw [if_pos hc]
        obtain ⟨k1, k2⟩ := putAll_ok rest (l ++ [(q.1, max q.2 r.2)]) ((ok_snoc _ _ _).2 ⟨o1, o2, by simp; omega, by simp; omega⟩) (fun x hx => hf x (by simp [hx])) s2 (fun l' q' e x hx => by
          have := (List.append_inj_right' e (by simp))
          have : q' = (q.1, max q.2 r.2) := by simpa using this.symm
          subst this
          have := s1 x hx
          simp
          omega)
        refine ⟨k1, fun i => ?_⟩
        rw [k2, Mem_append, Mem_append, Mem_one, Mem_one, Mem_cons]
        have e : (q.1 ≤ i ∧ i < max q.2 r.2) ↔ ((q.1 ≤ i ∧ i < q.2) ∨ (r.1 ≤ i ∧ i < r.2)) := by omega
        simp only [e]
        constructor
        · rintro ((a | a | a) | a)
          · exact .inl (.inl a)
          · exact .inl (.inr a)
          · exact .inr (.inl a)
          · exact .inr (.inr a)
        · rintro ((a | a) | a | a)
          · exact .inl (.inl a)
          · exact .inl (.inr (.inl a))
          · exact .inl (.inr (.inr a))
          · exact .inr a
      · rw [if_neg hc]
        obtain ⟨k1, k2⟩ := putAll_ok rest (l ++ [q] ++ [r]) ((ok_snoc _ _ _).2 ⟨h, by rw [lastE_snoc]; omega, f2, f3⟩) (fun x hx => hf x (by simp [hx])) s2 (fun l' q' e x hx => by
          have := (List.append_inj_right' e (by simp))
          have : q' = r := by simpa using this.symm
          subst this
          exact s1 x hx)
        refine ⟨k1, fun i => ?_⟩
        rw [k2, Mem_append (l ++ [q]), Mem_one, Mem_cons]
        constructor
        · rintro ((a | a) | a)
          · exact .inl a
          · exact .inr (.inl a)
          · exact .inr (.inr a)
        · rintro (a | a | a)
          · exact .inl (.inl a)
          · exact .inl (.inr a)
          · exact .inr a
theorem rises_pair {l : List (Int × Int)} (h : Rises l) : l.Pairwise (fun p q => p.1 ≤ q.1) := by
  rw [List.pairwise_iff_getElem]
  intro i j hi hj hij
  exact h i j _ _ hij (List.getElem?_eq_getElem hi) (List.getElem?_eq_getElem hj)
theorem Mem_perm {l m : List (Int × Int)} (h : l.Perm m) (i : Int) : Mem l i ↔ Mem m i := by
  unfold Mem
  constructor
  · rintro ⟨r, a, b⟩; exact ⟨r, h.mem_iff.1 a, b⟩
  · rintro ⟨r, a, b⟩; exact ⟨r, h.mem_iff.2 a, b⟩
/-- Sorted ranges, put together, are the set of their lines. -/
theorem joined_law {l m : List (Int × Int)} (hp : m.Perm l) (hr : Rises m) (hf : ∀ r ∈ l, Fit r) {f : Nat → Bool} (h : ∀ i : Nat, i < 65536 → (Mem l i ↔ f i = true)) : putAll m = setUp f 65536 := by
  obtain ⟨k1, k2⟩ := putAll_ok m [] trivial (fun r hr => hf r (hp.mem_iff.1 hr)) (rises_pair hr) (fun l q e => by simp at e)
  refine eq_setUp k1 (fun i hi => ?_)
  have := k2 i
  rw [show putAll m = m.foldl put [] from rfl, this, Mem_perm hp, ← h i hi]
  exact ⟨fun a => a.elim (fun a => (Mem_nil _ a).elim) id, .inr⟩
theorem okR_ok {l : List (Int × Int)} (h : okR l = true) : Ok (-1) l := (ok_iff _ _).1 h
theorem or_law {l m mm : List (Int × Int)} (hl : okR l = true) (hm : okR m = true) (hp : mm.Perm (l ++ m)) (hr : Rises mm) : putAll mm = setUp (fun i => andOr false (mem l i) (mem m i)) 65536 := by
  refine joined_law hp hr (fun r hr => ?_) (fun i _ => ?_)
  · rcases List.mem_append.1 hr with h | h
    · exact (okR_ok hl).all (by omega) r h
    · exact (okR_ok hm).all (by omega) r h
  · rw [Mem_append, ← mem_iff, ← mem_iff]
    simp [andOr]
theorem bothN_ok : ∀ (n : Nat) (l m : List (Int × Int)) (a b : Int), Ok a l → Ok b m → l.length + m.length ≤ n → -1 ≤ a → -1 ≤ b → (∀ r ∈ bothN n l m, Fit r) ∧ ∀ i, Mem (bothN n l m) i ↔ (Mem l i ∧ Mem m i)
  | n, [], m, a, b, _, _, _, _, _ => by
    rw [bothN_nil]
    exact ⟨(fun r h => by cases h), fun i => ⟨fun h => (Mem_nil i h).elim, fun h => (Mem_nil i h.1).elim⟩⟩
  | n, _ :: _, [], a, b, _, _, _, _, _ => by
    rw [bothN_nil2]
    exact ⟨(fun r h => by cases h), fun i => ⟨fun h => (Mem_nil i h).elim, fun h => (Mem_nil i h.2).elim⟩⟩
  | 0, _ :: _, _ :: _, _, _, _, _, h, _, _ => by simp at h
  | n + 1, r :: l, q :: m, a, b, hl, hm, hn, ha, hb => by
    have hl' := hl
    have hm' := hm
    obtain ⟨l1, l2, l3, l4⟩ := hl
    obtain ⟨m1, m2, m3, m4⟩ := hm
    simp only [List.length_cons] at hn
    have tail : (∀ x ∈ (if r.2 < q.2 then bothN n l (q :: m) else bothN n (r :: l) m), Fit x) ∧ ∀ i, Mem (if r.2 < q.2 then bothN n l (q :: m) else bothN n (r :: l) m) i ↔ (if r.2 < q.2 then Mem l i ∧ Mem (q :: m) i else Mem (r :: l) i ∧ Mem m i) := by
      by_cases h : r.2 < q.2
      · simp only [if_pos h]
        exact bothN_ok n l (q :: m) r.2 b l4 hm' (by simp only [List.length_cons]; omega) (by omega) hb
      · simp only [if_neg h]
        exact bothN_ok n (r :: l) m a q.2 hl' m4 (by simp only [List.length_cons]; omega) ha (by omega)
    unfold bothN
    constructor
    · intro x hx
      rcases List.mem_append.1 hx with h | h
      · by_cases hc : max r.1 q.1 < min r.2 q.2
        · rw [if_pos hc] at h
          have : x = (max r.1 q.1, min r.2 q.2) := by simpa using h
          subst this
          exact ⟨by simp; omega, by simp; omega, by simp; omega⟩
        · rw [if_neg hc] at h; cases h
      · exact tail.1 x h
    · intro i
      rw [Mem_append, tail.2 i]
      have hd : Mem (if max r.1 q.1 < min r.2 q.2 then [(max r.1 q.1, min r.2 q.2)] else []) i ↔ ((r.1 ≤ i ∧ i < r.2) ∧ (q.1 ≤ i ∧ i < q.2)) := by
        by_cases hc : max r.1 q.1 < min r.2 q.2
        · rw [if_pos hc, Mem_one]
          simp only
          omega
        · rw [if_neg hc]
          constructor
          · intro h; exact (Mem_nil i h).elim
          · intro h; omega
      rw [hd, Mem_cons, Mem_cons]
      by_cases h : r.2 < q.2
      · rw [if_pos h]
        constructor
        · rintro (⟨x, y⟩ | ⟨x, y⟩)
          · exact ⟨.inl x, .inl y⟩
          · exact ⟨.inr x, y⟩
        · rintro ⟨x | x, y⟩
          · rcases y with y | y
            · exact .inl ⟨x, y⟩
            · have := m4.lt y; omega
          · exact .inr ⟨x, y⟩
      · rw [if_neg h]
        constructor
        · rintro (⟨x, y⟩ | ⟨x, y⟩)
          · exact ⟨.inl x, .inl y⟩
          · exact ⟨x, .inr y⟩
        · rintro ⟨x, y | y⟩
          · rcases x with x | x
            · exact .inl ⟨x, y⟩
            · have := l4.lt x; omega
          · exact .inr ⟨x, y⟩
theorem and_law {l m mm : List (Int × Int)} (hl : okR l = true) (hm : okR m = true) (hp : mm.Perm (bothN (l.length + m.length) l m)) (hr : Rises mm) : putAll mm = setUp (fun i => andOr true (mem l i) (mem m i)) 65536 := by
  obtain ⟨h1, h2⟩ := bothN_ok (l.length + m.length) l m (-1) (-1) (okR_ok hl) (okR_ok hm) (Nat.le_refl _) (by omega) (by omega)
  refine joined_law hp hr h1 (fun i _ => ?_)
  rw [h2, ← mem_iff, ← mem_iff]
  simp [andOr]
theorem addR_law (out : List (Int × Int)) (fr z n : Int) (hn : n ≤ 65536) (ho : Ok (-1) out) (hl : lastE (-1) out < fr) : Ok (-1) (addR out fr z n) ∧ (lastE (-1) (addR out fr z n) ≤ max (lastE (-1) out) z) ∧ ∀ i, Mem (addR out fr z n) i ↔ Mem out i ∨ (fr ≤ i ∧ i < z ∧ i < n) := by
  unfold addR
  by_cases h : fr < min z n
  · rw [if_pos h]
    refine ⟨(ok_snoc _ _ _).2 ⟨ho, hl, h, by simp; omega⟩, by rw [lastE_snoc]; simp; omega, fun i => ?_⟩
    rw [Mem_append, Mem_one]
    simp only
    constructor
    · rintro (a | a)
      · exact .inl a
      · exact .inr (by omega)
    · rintro (a | a)
      · exact .inl a
      · exact .inr (by omega)
  · rw [if_neg h]
    refine ⟨ho, by omega, fun i => ⟨.inl, ?_⟩⟩
    rintro (a | a)
    · exact a
    · omega
theorem not_fold (n : Int) (hn : n ≤ 65536) : ∀ (rest out : List (Int × Int)) (last fr : Int), Ok last rest → (last = fr ∨ (last = -1 ∧ fr = 0)) → 0 ≤ fr → Ok (-1) out → lastE (-1) out < fr →
    let s := rest.foldl (notStep n) (out, fr)
    Ok (-1) (addR s.1 s.2 n n) ∧ ∀ i, Mem (addR s.1 s.2 n n) i ↔ Mem out i ∨ (fr ≤ i ∧ i < n ∧ ¬ Mem rest i)
  | [], out, last, fr, _, _, _, ho, hl => by
    obtain ⟨k1, _, k3⟩ := addR_law out fr n n hn ho hl
    refine ⟨k1, fun i => ?_⟩
    simp only [List.foldl_nil]
    rw [k3]
    constructor
    · rintro (a | a)
      · exact .inl a
      · exact .inr ⟨a.1, a.2.1, Mem_nil i⟩
    · rintro (a | a)
      · exact .inl a
      · exact .inr ⟨a.1, a.2.1, a.2.1⟩
  | r :: rest, out, last, fr, hr, hlf, hf, ho, hl => by
    obtain ⟨r1, r2, r3, r4⟩ := hr
    obtain ⟨k1, k2, k3⟩ := addR_law out fr r.1 n hn ho hl
    have ih := not_fold n hn rest (addR out fr r.1 n) r.2 r.2 r4 (.inl rfl) (by omega) k1 (by omega)
    simp only [List.foldl_cons]
    refine ⟨ih.1, fun i => ?_⟩
    have e : notStep n (out, fr) r = (addR out fr r.1 n, r.2) := rfl
    rw [e, ih.2 i, k3, Mem_cons]
    constructor
    · rintro ((a | a) | a)
      · exact .inl a
      · refine .inr ⟨a.1, a.2.2, ?_⟩
        rintro (b | b)
        · omega
        · have := r4.lt b; omega
      · refine .inr ⟨by omega, a.2.1, ?_⟩
        rintro (b | b)
        · omega
        · exact a.2.2 b
    · rintro (a | ⟨a, b, c⟩)
      · exact .inl (.inl a)
      · by_cases h : i < r.1
        · exact .inl (.inr ⟨a, h, b⟩)
        · refine .inr ⟨?_, b, fun d => c (.inr d)⟩
          by_cases h2 : i < r.2
          · exact absurd (.inl ⟨by omega, h2⟩) c
          · omega
theorem not_law {l : List (Int × Int)} {n : Nat} (hl : okR l = true) (hn : n ≤ 65536) : notR l n = setUp (fun i => decide (i < n) && !mem l i) 65536 := by
  obtain ⟨h1, h2⟩ := not_fold (n : Int) (by omega) l [] (-1) 0 (okR_ok hl) (.inr ⟨rfl, rfl⟩) (by omega) trivial (by simp [lastE])
  refine eq_setUp h1 (fun i hi => ?_)
  have h3 := h2 i
  rw [show notR l n = addR (l.foldl (notStep n) ([], 0)).1 (l.foldl (notStep n) ([], 0)).2 n n from rfl, h3]
  simp only [Bool.and_eq_true, decide_eq_true_eq, Bool.not_eq_true']
  constructor
  · rintro (a | a)
    · exact (Mem_nil _ a).elim
    · exact ⟨by omega, Bool.eq_false_iff.2 (fun h => a.2.2 ((mem_iff l i).1 h))⟩
  · rintro ⟨a, b⟩
    exact .inr ⟨by omega, by omega, fun h => by rw [(mem_iff l i).2 h] at b; cases b⟩
/-- Line i is one of the numbers. -/
def isIn (l : List Int) (i : Nat) : Bool := l.any fun z => decide (z = i)
theorem of_law {l : List Int} {mm : List (Int × Int)} (hl : l.all isLine = true) (hp : mm.Perm (l.map lineR)) (hr : Rises mm) : putAll mm = setUp (isIn l) 65536 := by
  have hz : ∀ z ∈ l, 0 ≤ z ∧ z < 65536 := fun z hz => by
    have := List.all_eq_true.1 hl z hz
    simpa [isLine] using this
  refine joined_law hp hr (fun r hr => ?_) (fun i _ => ?_)
  · obtain ⟨z, h, rfl⟩ := List.mem_map.1 hr
    have := hz z h
    exact ⟨by simp [lineR]; omega, by simp [lineR]; omega, by simp [lineR]; omega⟩
  · unfold isIn Mem
    rw [List.any_eq_true]
    constructor
    · rintro ⟨r, h, a, b⟩
      obtain ⟨z, hz', rfl⟩ := List.mem_map.1 h
      simp only [lineR] at a b
      exact ⟨z, hz', by simp; omega⟩
    · rintro ⟨z, h, a⟩
      simp only [decide_eq_true_eq] at a
      exact ⟨lineR z, List.mem_map.2 ⟨z, h, rfl⟩, by simp [lineR]; omega, by simp [lineR]; omega⟩
/-- A set has one of the k lines from n on. -/
def anyHas (l : List (Int × Int)) (n : Int) (k : Nat) : Bool := (List.range k).any fun j => hasR l (n + j)
theorem anyHas_succ (l : List (Int × Int)) (n : Int) (k : Nat) : anyHas l n (k + 1) = (anyHas l n k || hasR l (n + k)) := by
  unfold anyHas
  rw [List.range_succ, List.any_append]
  simp
theorem meets_law {l : List (Int × Int)} {n z : Int} (h : n ≠ z) : meetsR l n z = anyHas l n (z - n).toNat := by
  rw [meetsR, if_neg h]
  cases hl : okR l with
  | false =>
    have : ∀ k, anyHas l n k = false := fun k => by
      unfold anyHas
      rw [List.any_eq_false]
      intro j _
      simp [hasR, hl]
    rw [this]
    rfl
  | true =>
    rw [Bool.true_and, Bool.eq_iff_iff]
    unfold anyHas
    rw [List.any_eq_true, List.any_eq_true]
    constructor
    · rintro ⟨r, hr, hc⟩
      simp only [cuts, decide_eq_true_eq] at hc
      have hc2 : max r.1 n < r.2 ∧ max r.1 n < z := by omega
      refine ⟨(max r.1 n - n).toNat, by rw [List.mem_range]; omega, ?_⟩
      rw [hasR, hl, Bool.true_and, List.any_eq_true]
      exact ⟨r, hr, by simp only [Bool.and_eq_true, decide_eq_true_eq]; omega⟩
    · rintro ⟨j, hj, hh⟩
      rw [List.mem_range] at hj
      rw [hasR, hl, Bool.true_and, List.any_eq_true] at hh
      obtain ⟨r, hr, hc⟩ := hh
      simp only [Bool.and_eq_true, decide_eq_true_eq] at hc
      exact ⟨r, hr, by simp only [cuts, decide_eq_true_eq]; omega⟩
end Go.Proofs.YtapojgbiboeaiaaGreatDoor
