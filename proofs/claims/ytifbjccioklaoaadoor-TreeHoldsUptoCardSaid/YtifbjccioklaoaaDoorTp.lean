/- Plain law of the tree: the files that would hold for a path, from its own folder's up; the longest that is there; the names, sorted, each once. No condition. -/
import Derived.Sort.KeysCollected
import Derived.Lib.LastIndexByte
namespace Go.Proofs.YtifbjccioklaoaaDoor
set_option linter.unusedVariables false
set_option linter.unusedSimpArgs false
open Go
/-- A style's file's last name. -/
def dotL : List UInt8 := [46, 99, 102, 109, 116]
/-- The files that would hold, of the first k bytes of a path. -/
def fol (p : List UInt8) : Nat → List (List UInt8)
  | 0 => [dotL]
  | k + 1 => if p[k]? = some 47 then (p.take (k + 1) ++ dotL) :: fol p k else fol p k
theorem mem_fol (p x : List UInt8) : ∀ k, x ∈ fol p k ↔ x = dotL ∨ ∃ j, j < k ∧ p[j]? = some 47 ∧ x = p.take (j + 1) ++ dotL
  | 0 => by simp [fol]
  | k + 1 => by
    have ih := mem_fol p x k
    unfold fol
    split
    · next h =>
      rw [List.mem_cons, ih]
      constructor
      · rintro (rfl | rfl | ⟨j, a, b, c⟩)
        · exact .inr ⟨k, by omega, h, rfl⟩
        · exact .inl rfl
        · exact .inr ⟨j, by omega, b, c⟩
      · rintro (rfl | ⟨j, a, b, c⟩)
        · exact .inr (.inl rfl)
        · by_cases e : j = k
          · subst e; exact .inl c
          · exact .inr (.inr ⟨j, by omega, b, c⟩)
    · next h =>
      rw [ih]
      constructor
      · rintro (rfl | ⟨j, a, b, c⟩)
        · exact .inl rfl
        · exact .inr ⟨j, by omega, b, c⟩
      · rintro (rfl | ⟨j, a, b, c⟩)
        · exact .inl rfl
        · by_cases e : j = k
          · subst e; exact absurd b h
          · exact .inr ⟨j, by omega, b, c⟩
theorem fol_len {p x : List UInt8} {k : Nat} (h : x ∈ fol p k) : x.length ≤ k + 5 := by
  rcases (mem_fol p x k).1 h with rfl | ⟨j, a, b, rfl⟩
  · simp [dotL]
  · simp only [List.length_append, List.length_take, dotL, List.length_cons, List.length_nil]; omega
theorem fol_falls (p : List UInt8) : ∀ k, k ≤ p.length → (fol p k).Pairwise (fun x y => y.length < x.length)
  | 0, _ => by simp [fol]
  | k + 1, hk => by
    have ih := fol_falls p k (by omega)
    unfold fol
    split
    · refine List.pairwise_cons.2 ⟨fun y hy => ?_, ih⟩
      have := fol_len hy
      simp only [List.length_append, List.length_take, dotL, List.length_cons, List.length_nil]
      omega
    · exact ih
/-- Does the name hold for the path, as the law asks it? -/
def cand (p x : List UInt8) : Bool :=
  decide (5 ≤ x.length) && (x.drop (x.length - 5) == dotL) && (decide (x.length = 5) || x[x.length - 6]? == some 47) && (x.take (x.length - 5)).isPrefixOf p
theorem cand_iff (p x : List UInt8) : cand p x = true ↔ x ∈ fol p p.length := by
  rw [mem_fol]
  simp only [cand, Bool.and_eq_true, Bool.or_eq_true, decide_eq_true_eq, beq_iff_eq, List.isPrefixOf_iff_prefix]
  constructor
  · rintro ⟨⟨⟨h1, h2⟩, h3⟩, h4⟩
    have hx : x = x.take (x.length - 5) ++ dotL := by rw [← h2]; exact (List.take_append_drop _ _).symm
    have hl : (x.take (x.length - 5)).length = x.length - 5 := by simp
    rcases h3 with h3 | h3
    · left
      have : x.take (x.length - 5) = [] := List.eq_nil_of_length_eq_zero (by omega)
      rw [hx, this]; rfl
    · right
      obtain ⟨n6, _⟩ := List.getElem?_eq_some_iff.1 h3
      by_cases h5 : x.length = 5
      · exfalso
        have h30 : x[0]? = some 47 := by rw [show x.length - 6 = 0 by omega] at h3; exact h3
        have h20 : x = dotL := by rw [← h2, show x.length - 5 = 0 by omega]; rfl
        rw [h20] at h30
        simp [dotL] at h30
      have e1 : p.take (x.length - 5) = x.take (x.length - 5) := by
        have := List.prefix_iff_eq_take.1 h4
        rw [hl] at this
        exact this.symm
      have hpl : x.length - 5 ≤ p.length := by have := h4.length_le; omega
      refine ⟨x.length - 6, by omega, ?_, ?_⟩
      · have e2 : (p.take (x.length - 5))[x.length - 6]? = (x.take (x.length - 5))[x.length - 6]? := by rw [e1]
        rw [List.getElem?_take, List.getElem?_take, if_pos (by omega), if_pos (by omega)] at e2
        rw [e2, h3]
      · rw [show x.length - 6 + 1 = x.length - 5 by omega, e1]
        exact hx
  · rintro (rfl | ⟨j, h1, h2, rfl⟩)
    · simp [dotL]
    · have hl : (p.take (j + 1)).length = j + 1 := by rw [List.length_take]; omega
      have hx : (p.take (j + 1) ++ dotL).length = j + 6 := by rw [List.length_append, hl]; rfl
      rw [hx]
      refine ⟨⟨⟨by omega, ?_⟩, .inr ?_⟩, ?_⟩
      · rw [show j + 6 - 5 = (p.take (j + 1)).length by omega]
        exact List.drop_left
      · rw [show j + 6 - 6 = j by omega, List.getElem?_append_left (by omega), List.getElem?_take, if_pos (by omega)]
        exact h2
      · rw [show j + 6 - 5 = (p.take (j + 1)).length by omega, List.take_left]
        exact List.take_prefix _ _
/-- The longest so far. -/
def bestStep (p : List UInt8) (b : Option (List UInt8)) (x : List UInt8) : Option (List UInt8) :=
  if cand p x && (match b with | none => true | some y => decide (y.length < x.length)) then some x else b
def bestOf (p : List UInt8) (ns : List (List UInt8)) : Option (List UInt8) := ns.foldl (bestStep p) none
theorem bestOf_snoc (p : List UInt8) (ns : List (List UInt8)) (x : List UInt8) : bestOf p (ns ++ [x]) = bestStep p (bestOf p ns) x := by simp [bestOf]
/-- The nearest that is there. -/
def nearOf (p : List UInt8) (ns : List (List UInt8)) : Option (List UInt8) := (fol p p.length).find? fun x => ns.contains x
theorem take_snoc_ind {α : Type} {C : List α → Prop} (l : List α) (h0 : C []) (h1 : ∀ pre x suf, l = pre ++ x :: suf → C pre → C (pre ++ [x])) : C l := by
  have : ∀ k, k ≤ l.length → C (l.take k) := by
    intro k
    induction k with
    | zero => intro _; simpa using h0
    | succ k ih =>
      intro hk
      have hx : l[k]? = some (l[k]'(by omega)) := List.getElem?_eq_getElem _
      have := h1 (l.take k) (l[k]'(by omega)) (l.drop (k + 1)) (by rw [← List.drop_eq_getElem_cons (by omega), List.take_append_drop]) (ih (by omega))
      rw [List.take_add_one, hx]
      exact this
  have := this l.length (Nat.le_refl _)
  rwa [List.take_length] at this
theorem bestOf_spec (p : List UInt8) (ns : List (List UInt8)) : match bestOf p ns with
    | none => ∀ z ∈ ns, cand p z = false
    | some y => y ∈ ns ∧ cand p y = true ∧ ∀ z ∈ ns, cand p z = true → z.length ≤ y.length := by
  refine take_snoc_ind (C := fun ns => match bestOf p ns with | none => ∀ z ∈ ns, cand p z = false | some y => y ∈ ns ∧ cand p y = true ∧ ∀ z ∈ ns, cand p z = true → z.length ≤ y.length) ns (by show ∀ z ∈ ([] : List (List UInt8)), _; intro z hz; cases hz) fun pre x suf _ ih => ?_
  rw [bestOf_snoc]
  unfold bestStep
  cases hb : bestOf p pre with
  | none =>
    rw [hb] at ih
    cases hc : cand p x with
    | false =>
      simp only [Bool.false_and, Bool.false_eq_true, if_false]
      intro z hz
      rcases List.mem_append.1 hz with h | h
      · exact ih z h
      · obtain rfl : z = x := by simpa using h
        exact hc
    | true =>
      simp only [Bool.true_and, if_true]
      refine ⟨by simp, hc, fun z hz hcz => ?_⟩
      rcases List.mem_append.1 hz with h | h
      · rw [ih z h] at hcz; cases hcz
      · obtain rfl : z = x := by simpa using h
        exact Nat.le_refl _
  | some y =>
    rw [hb] at ih
    obtain ⟨i1, i2, i3⟩ := ih
    cases hc : cand p x with
    | false =>
      simp only [Bool.false_and, Bool.false_eq_true, if_false]
      refine ⟨List.mem_append_left _ i1, i2, fun z hz hcz => ?_⟩
      rcases List.mem_append.1 hz with h | h
      · exact i3 z h hcz
      · obtain rfl : z = x := by simpa using h
        rw [hc] at hcz; cases hcz
    | true =>
      by_cases hl : y.length < x.length
      · simp only [Bool.true_and, decide_eq_true hl, if_true]
        refine ⟨by simp, hc, fun z hz hcz => ?_⟩
        rcases List.mem_append.1 hz with h | h
        · exact Nat.le_trans (i3 z h hcz) (by omega)
        · obtain rfl : z = x := by simpa using h
          exact Nat.le_refl _
      · simp only [Bool.true_and, decide_eq_false hl, Bool.false_eq_true, if_false]
        refine ⟨List.mem_append_left _ i1, i2, fun z hz hcz => ?_⟩
        rcases List.mem_append.1 hz with h | h
        · exact i3 z h hcz
        · obtain rfl : z = x := by simpa using h
          omega
theorem find_first {α : Type} {q : α → Bool} {x : α} : ∀ {l : List α}, l.find? q = some x → ∃ a b, l = a ++ x :: b ∧ q x = true ∧ ∀ y ∈ a, q y = false
  | [], h => by simp at h
  | y :: l, h => by
    rw [List.find?_cons] at h
    cases hy : q y with
    | true =>
      rw [hy] at h
      simp only [Option.some.injEq] at h
      subst h
      exact ⟨[], l, rfl, hy, fun _ h => by cases h⟩
    | false =>
      rw [hy] at h
      obtain ⟨a, b, rfl, h2, h3⟩ := find_first h
      exact ⟨y :: a, b, rfl, h2, fun z hz => (List.mem_cons.1 hz).elim (fun e => by rw [e]; exact hy) (h3 z)⟩
/-- The longest is the nearest. -/
theorem best_near (p : List UInt8) (ns : List (List UInt8)) : bestOf p ns = nearOf p ns := by
  have hs := bestOf_spec p ns
  unfold nearOf
  cases hn : (fol p p.length).find? fun x => ns.contains x with
  | none =>
    cases hb : bestOf p ns with
    | none => rfl
    | some y =>
      rw [hb] at hs
      have := List.find?_eq_none.1 hn y ((cand_iff p y).1 hs.2.1)
      simp [hs.1] at this
  | some x =>
    obtain ⟨a, b, hab, hx, ha⟩ := find_first hn
    have hxn : x ∈ ns := by simpa using hx
    have hxf : x ∈ fol p p.length := by rw [hab]; simp
    cases hb : bestOf p ns with
    | none =>
      rw [hb] at hs
      have := hs x hxn
      rw [(cand_iff p x).2 hxf] at this
      cases this
    | some y =>
      rw [hb] at hs
      have hyf := (cand_iff p y).1 hs.2.1
      have h1 := hs.2.2 x hxn ((cand_iff p x).2 hxf)
      rw [hab] at hyf
      have hp := fol_falls p p.length (Nat.le_refl _)
      rw [hab] at hp
      rcases List.mem_append.1 hyf with h | h
      · have := ha y h
        simp [hs.1] at this
      · rcases List.mem_cons.1 h with rfl | h
        · rfl
        · have := (List.pairwise_cons.1 (List.pairwise_append.1 hp).2.1).1 y h
          omega
/-! ### The names, sorted, each once -/
def keysF (ok : List UInt8 → Bool) : List (List UInt8) → List (List UInt8)
  | [] => []
  | x :: l => if ok x && !(keysF ok l).contains x then x :: keysF ok l else keysF ok l
theorem mem_keysF (ok : List UInt8 → Bool) (x : List UInt8) : ∀ l, x ∈ keysF ok l ↔ x ∈ l ∧ ok x = true
  | [] => by simp [keysF]
  | y :: l => by
    have ih := mem_keysF ok x l
    unfold keysF
    split
    · next h =>
      simp only [Bool.and_eq_true] at h
      rw [List.mem_cons, List.mem_cons, ih]
      constructor
      · rintro (rfl | ⟨a, b⟩)
        · exact ⟨.inl rfl, h.1⟩
        · exact ⟨.inr a, b⟩
      · rintro ⟨rfl | a, b⟩
        · exact .inl rfl
        · exact .inr ⟨a, b⟩
    · next h =>
      rw [List.mem_cons, ih]
      constructor
      · rintro ⟨a, b⟩; exact ⟨.inr a, b⟩
      · rintro ⟨rfl | a, b⟩
        · have : x ∈ keysF ok l := by simpa [b] using h
          exact ih.1 this
        · exact ⟨a, b⟩
theorem nodup_keysF (ok : List UInt8 → Bool) : ∀ l, (keysF ok l).Nodup
  | [] => List.nodup_nil
  | y :: l => by
    have ih := nodup_keysF ok l
    unfold keysF
    split
    · next h =>
      simp only [Bool.and_eq_true, Bool.not_eq_true', List.contains_eq_mem, decide_eq_false_iff_not] at h
      exact List.nodup_cons.2 ⟨h.2, ih⟩
    · exact ih
theorem keysF_le (ok : List UInt8 → Bool) : ∀ l, (keysF ok l).length ≤ l.length
  | [] => Nat.le_refl _
  | y :: l => by
    have ih := keysF_le ok l
    unfold keysF
    split <;> simp only [List.length_cons] <;> omega
def namesOf (ok : List UInt8 → Bool) (l : List (List UInt8)) : List (List UInt8) := (keysF ok l).mergeSort leB
theorem mem_names {ok : List UInt8 → Bool} {l : List (List UInt8)} {x : List UInt8} : x ∈ namesOf ok l ↔ x ∈ l ∧ ok x = true := by
  unfold namesOf
  rw [(List.mergeSort_perm _ _).mem_iff, mem_keysF]
theorem names_perm {ok : List UInt8 → Bool} {l ss : List (List UInt8)} (hn : ss.Nodup) (hm : ∀ x, x ∈ ss ↔ x ∈ l ∧ ok x = true) : ss.mergeSort leB = namesOf ok l :=
  mergeSort_of_perm ((List.perm_ext_iff_of_nodup hn (nodup_keysF ok l)).2 fun x => by rw [hm, mem_keysF])
theorem names_rise (ok : List UInt8 → Bool) (l : List (List UInt8)) : (namesOf ok l).Pairwise fun x y => ¬ y ≤ x := by
  have tr : ∀ a b c : List UInt8, leB a b = true → leB b c = true → leB a c = true := fun a b c h1 h2 => by simp only [leB, decide_eq_true_eq] at *; exact List.le_trans h1 h2
  have to : ∀ a b : List UInt8, (leB a b || leB b a) = true := fun a b => by simp only [leB, Bool.or_eq_true, decide_eq_true_eq]; exact List.le_total a b
  have h1 : (namesOf ok l).Pairwise (fun a b => leB a b = true) := List.pairwise_mergeSort tr to _
  have h2 : (namesOf ok l).Nodup := (List.mergeSort_perm _ _).nodup_iff.2 (nodup_keysF ok l)
  refine (h1.and h2).imp fun {a b} ⟨hab, hne⟩ hba => hne ?_
  simp only [leB, decide_eq_true_eq] at hab
  exact List.le_antisymm hab hba
theorem names_step {ok : List UInt8 → Bool} {l : List (List UInt8)} {k : Nat} {x y : List UInt8} (hx : (namesOf ok l)[k]? = some x) (hy : (namesOf ok l)[k + 1]? = some y) : ¬ y ≤ x := by
  have := List.pairwise_iff_getElem.1 (names_rise ok l) k (k + 1) (List.getElem?_eq_some_iff.1 hx).1 (List.getElem?_eq_some_iff.1 hy).1 (by omega)
  rw [(List.getElem?_eq_some_iff.1 hx).2, (List.getElem?_eq_some_iff.1 hy).2] at this
  exact this
theorem names_length (ok : List UInt8 → Bool) (l : List (List UInt8)) : (namesOf ok l).length ≤ l.length := by
  unfold namesOf
  rw [(List.mergeSort_perm _ _).length_eq]
  exact keysF_le ok l
/-! ### In a folder -/
/-- What the folder's text begins its files with. -/
def foldP (f : List UInt8) : List UInt8 := if f = [] then [] else f ++ [47]
def inF (f x : List UInt8) : Bool := (foldP f).isPrefixOf x
theorem inF_nil (x : List UInt8) : inF [] x = true := by simp [inF, foldP]
theorem inF_iff {f x : List UInt8} (hf : f ≠ []) : inF f x = true ↔ f.length < x.length ∧ x.take (f.length + 1) = f ++ [47] := by
  unfold inF foldP
  rw [if_neg hf, List.isPrefixOf_iff_prefix, List.prefix_iff_eq_take]
  simp only [List.length_append, List.length_cons, List.length_nil, Nat.zero_add]
  constructor
  · intro h
    have hl := congrArg List.length h
    simp only [List.length_append, List.length_cons, List.length_nil, List.length_take] at hl
    exact ⟨by omega, h.symm⟩
  · rintro ⟨_, h⟩; exact h.symm
/-! ### The last place of a byte, and the files of the path cut there -/
theorem last_cut (s : ByteArray) (k : Nat) (hk : k ≤ s.size) : ∀ j, j ≤ k → Lib.lastIdx (s.extract 0 k) 47 j = Lib.lastIdx s 47 j
  | 0, _ => rfl
  | j + 1, hj => by
    have ih := last_cut s k hk j (by omega)
    have e : (s.extract 0 k).data[j]! = s.data[j]! := by
      have h1 : j < (s.extract 0 k).data.size := by simp; omega
      have h2 : j < s.data.size := by simp; omega
      rw [getElem!_pos _ j h1, getElem!_pos _ j h2]
      simp [ByteArray.data_extract]
    simp only [Lib.lastIdx, e, ih]
theorem fol_last (s : ByteArray) : ∀ k, k ≤ s.size → (Lib.lastIdx s 47 k = -1 ∧ fol s.data.toList k = [dotL]) ∨ ∃ j : Nat, Lib.lastIdx s 47 k = j ∧ j < k ∧ fol s.data.toList k = (s.data.toList.take (j + 1) ++ dotL) :: fol s.data.toList j
  | 0, _ => .inl ⟨rfl, rfl⟩
  | k + 1, hk => by
    have ih := fol_last s k (by omega)
    have h2 : k < s.data.size := by simp; omega
    have h3 : s.data.toList[k]? = some (s.data[k]!) := by rw [getElem!_pos _ k h2]; simp
    by_cases hc : s.data[k]! = 47
    · refine .inr ⟨k, ?_, by omega, ?_⟩
      · exact Lib.lastIdx_hit s 47 k (by rw [hc]; rfl)
      · rw [fol, h3, hc, if_pos rfl]
    · have hm : Lib.lastIdx s 47 (k + 1) = Lib.lastIdx s 47 k := Lib.lastIdx_miss s 47 k (fun h => hc (by
        have h7 : (s.data[k]!).toNat = 47 := by omega
        exact UInt8.toNat_inj.1 (by rw [h7]; rfl)))
      have hf : fol s.data.toList (k + 1) = fol s.data.toList k := by rw [fol, h3, if_neg (by simpa using hc)]
      rw [hm, hf]
      rcases ih with h | ⟨j, a, b, c⟩
      · exact .inl h
      · exact .inr ⟨j, a, by omega, c⟩
end Go.Proofs.YtifbjccioklaoaaDoor
