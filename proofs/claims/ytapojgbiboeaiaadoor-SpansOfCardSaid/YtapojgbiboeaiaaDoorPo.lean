/- Plain law of the set of some lines: named twice and turned about they make the same set; how many it has; which it has. -/
import Derived.Test.YtapojgbiboeaiaaDoorMl
import Derived.Test.YtapojgbiboeaiaaDoorPq
import Derived.Maps.OwnSet
namespace Go.Proofs.YtapojgbiboeaiaaDoor
set_option linter.unusedVariables false
set_option linter.unusedSimpArgs false
open Go.RowKit Rng Go.Maps
/-- Each number twice. -/
def dbl (l : List Int) : List Int := l.flatMap fun z => [z, z]
theorem dbl_snoc (l : List Int) (z : Int) : dbl (l ++ [z]) = dbl l ++ [z, z] := by simp [dbl]
theorem dbl_length (l : List Int) : (dbl l).length = 2 * l.length := by
  induction l with
  | nil => rfl
  | cons a l ih =>
    have : dbl (a :: l) = a :: a :: dbl l := rfl
    rw [this]
    simp only [List.length_cons, ih]
    omega
def twice (zs : List Int) : List Int := dbl zs.reverse
theorem mem_twice {zs : List Int} {z : Int} : z ∈ twice zs ↔ z ∈ zs := by simp [twice, dbl]
theorem all_twice (zs : List Int) : (twice zs).all isLine = zs.all isLine := by
  rw [Bool.eq_iff_iff, List.all_eq_true, List.all_eq_true]
  simp only [mem_twice]
theorem isIn_twice (zs : List Int) (i : Nat) : isIn (twice zs) i = isIn zs i := by
  unfold isIn
  rw [Bool.eq_iff_iff, List.any_eq_true, List.any_eq_true]
  simp only [mem_twice]
theorem ofL_twice (zs : List Int) : ofL (twice zs) = ofL zs := by
  unfold ofL
  rw [all_twice]
  split
  · exact setUp_ext fun i _ => isIn_twice zs i
  · rfl
theorem ofC_twice (zs : List Int) : ofC (twice zs) = ofC zs := by unfold ofC; rw [all_twice]
/-- Is the number named? -/
def named (zs : List Int) (n : Int) : Bool := zs.any fun y => y == n
theorem named_snoc (zs : List Int) (z n : Int) : named (zs ++ [z]) n = (named zs n || z == n) := by simp [named]
theorem isIn_named (zs : List Int) (i : Nat) : isIn zs i = named zs i := by
  unfold isIn named
  congr 1
theorem ofL_is {zs : List Int} (h : zs.all isLine = true) : ofL zs = setUp (isIn zs) 65536 := by unfold ofL; rw [h, if_pos rfl]
theorem has_of {zs : List Int} (h : zs.all isLine = true) (z : Int) : hasR (ofL zs) z = named zs z := by
  have hr : ∀ y ∈ zs, 0 ≤ y ∧ y < 65536 := fun y hy => by
    have := List.all_eq_true.1 h y hy
    simpa [isLine] using this
  rw [ofL_is h]
  by_cases hz : 0 ≤ z ∧ z < 65536
  · obtain ⟨i, rfl⟩ : ∃ i : Nat, z = i := ⟨z.toNat, by omega⟩
    rw [hasR_mem (ok_setUp _), mem_setUp _ _ (by omega), isIn_named]
  · have e : named zs z = false := by
      rw [named, List.any_eq_false]
      intro y hy
      have := hr y hy
      simp only [beq_iff_eq]
      omega
    rw [e]
    cases hh : hasR (setUp (isIn zs) 65536) z with
    | false => rfl
    | true =>
      exfalso
      have hok := ok_setUp (isIn zs)
      generalize setUp (isIn zs) 65536 = l at hok hh
      rw [hasR, hok, Bool.true_and, List.any_eq_true] at hh
      obtain ⟨r, hr, h2⟩ := hh
      rw [Bool.and_eq_true, decide_eq_true_eq, decide_eq_true_eq] at h2
      have := (okR_ok hok).all (by omega) r hr
      omega
/-- How many lines ranges name, as the loop reckons it. -/
def sumR (l : List (Int × Int)) : Int := l.foldl (fun s r => s + r.2 - r.1) 0
theorem sumR_snoc (l : List (Int × Int)) (r : Int × Int) : sumR (l ++ [r]) = sumR l + r.2 - r.1 := by simp [sumR]
theorem sum_add (l : List (Int × Int)) : ∀ a : Int, l.foldl (fun s r => s + r.2 - r.1) a = a + sumR l := by
  induction l with
  | nil => intro a; simp [sumR]
  | cons r l ih =>
    intro a
    simp only [sumR, List.foldl_cons]
    rw [ih, ih (0 + r.2 - r.1)]
    omega
theorem sum_bound : ∀ (l : List (Int × Int)) (last : Int), Ok last l → 0 ≤ sumR l ∧ sumR l ≤ lastE last l - last
  | [], last, _ => by simp [sumR, lastE]
  | r :: l, last, ⟨h1, h2, h3, h4⟩ => by
    have ih := sum_bound l r.2 h4
    have e : sumR (r :: l) = r.2 - r.1 + sumR l := by
      show (r :: l).foldl _ 0 = _
      rw [List.foldl_cons, sum_add]
      omega
    rw [e]
    simp only [lastE]
    omega
theorem sum_ext (l : List (Int × Int)) (i : Nat) : sumR (ext l i) = sumR l + 1 := by
  rcases List.eq_nil_or_concat l with rfl | ⟨l', r, rfl⟩
  · rw [ext_nil]; simp [sumR]; omega
  · rw [List.concat_eq_append, ext_snoc]
    split
    · next h =>
      rw [sumR_snoc, sumR_snoc]
      simp only
      omega
    · rw [sumR_snoc]
      simp only
      omega
theorem sum_setUp (f : Nat → Bool) : ∀ n : Nat, sumR (setUp f n) = ((List.range n).countP f : Nat)
  | 0 => rfl
  | n + 1 => by
    have ih := sum_setUp f n
    unfold setUp
    rw [List.range_succ, List.countP_append, List.countP_singleton]
    split
    · next h => rw [sum_ext, ih]; simp
    · next h => rw [ih]; simp
theorem count_or (f : Nat → Bool) (x : Nat) : ∀ n : Nat, (List.range n).countP (fun i => f i || decide (x = i)) = (List.range n).countP f + if x < n ∧ f x = false then 1 else 0
  | 0 => by simp
  | n + 1 => by
    rw [List.range_succ, List.countP_append, List.countP_append, List.countP_singleton, List.countP_singleton, count_or f x n]
    by_cases e : x = n
    · subst e
      cases h : f x <;> simp
    · have h1 : (x < n + 1 ∧ f x = false) ↔ (x < n ∧ f x = false) := by
        constructor
        · rintro ⟨a, b⟩; exact ⟨by omega, b⟩
        · rintro ⟨a, b⟩; exact ⟨by omega, b⟩
      simp only [h1, decide_eq_false e, Bool.or_false]
      omega
/-- How many different numbers, of the lines under N. -/
def cnt (N : Nat) (zs : List Int) : Nat := (List.range N).countP (isIn zs)
theorem cnt_snoc (N : Nat) (zs : List Int) (x : Nat) (hx : x < N) : cnt N (zs ++ [(x : Int)]) = if isIn zs x then cnt N zs else cnt N zs + 1 := by
  have e : isIn (zs ++ [(x : Int)]) = fun i => isIn zs i || decide (x = i) := by
    funext i
    simp only [isIn, List.any_append, List.any_cons, List.any_nil, Bool.or_false]
    congr 1
    rw [decide_eq_decide]
    omega
  unfold cnt
  rw [e, count_or]
  cases isIn zs x <;> simp [hx]
theorem cnt_nil (N : Nat) : cnt N [] = 0 := by
  unfold cnt
  rw [List.countP_eq_zero]
  intro a _
  simp [isIn]
/-- The block is the map of the numbers so far. -/
def MapAt (w : World) (b k N : Nat) (zs : List Int) (D : DataW Unit) : Prop :=
  w.ownsMap Tryd.prog 3 (plainElem Tryd.prog 3) b k D ∧ Maps.size D = cnt N zs ∧ ∀ x : Nat, x < N → Maps.has D (.int .i64 x) = isIn zs x
theorem keyInt : Keyed Tryd.prog 3 := int_keyed Tryd.underlying3
theorem zeroInt (w : World) : (zeroValue 3).run Tryd.prog w = .ok (.int .i64 0) w := by kernel_rfl
theorem MapAt.later {w w' : World} {b k N : Nat} {zs : List Int} {D : DataW Unit} (h : MapAt w b k N zs D) (hb : Below w.heap.size w w') : MapAt w' b k N zs D := by
  obtain ⟨⟨es, clock, h1, h2⟩, h3⟩ := h
  exact ⟨⟨es, clock, (hb.block b (Array.getElem?_eq_some_iff.1 h1).1).trans h1, h2⟩, h3⟩
theorem MapAt.start (w : World) (N : Nat) : MapAt (w.alloc (.map #[] 0)) w.heap.size 0 N [] (.map []) :=
  ⟨World.ownsMap_made _ _ _ _, (cnt_nil N).symm, fun x _ => rfl⟩
theorem MapAt.step {w w' : World} {b k N x : Nat} {zs : List Int} {D d : DataW Unit} (h : MapAt w b k N zs D) (hx : x < N) (h' : w'.ownsMap Tryd.prog 3 (plainElem Tryd.prog 3) b (k + 1) (D.put (.int .i64 x) d)) : MapAt w' b (k + 1) N (zs ++ [(x : Int)]) (D.put (.int .i64 x) d) := by
  obtain ⟨h1, h2, h3⟩ := h
  refine ⟨h', ?_, fun y hy => ?_⟩
  · rw [size_put (h1.tidy keyInt), h3 x hx, h2, cnt_snoc N zs x hx]
  · by_cases e : y = x
    · subst e
      rw [has_put_same h1.isMap (by simp [Go.WideAt.IsKeyLit])]
      simp [isIn]
    · rw [has_put_other (by simp; omega), h3 y hy]
      simp only [isIn, List.any_append, List.any_cons, List.any_nil, Bool.or_false]
      rw [decide_eq_false (show ¬ (x : Int) = y by omega), Bool.or_false]
/-- Own numbers. -/
def OwnI (w : World) (base : Nat) (v : Value) (l : List Int) : Prop := w.ownsRow base 3 1 v l.length (l.map (Value.int .i64))
theorem ownI_rn {w : World} {base : Nat} {v : Value} {l : List Int} (h : OwnI w base v l) : NIn w v l := by
  have h' := h
  obtain ⟨_, ⟨rfl, h0⟩ | ⟨g, cap, cur, rfl, hb, hc, h1, h2, _⟩⟩ := h
  · have : l = [] := List.eq_nil_of_length_eq_zero h0
    subst this
    exact ⟨none, 0, rfl, Nat.le_refl _, by unfold maxLen; omega, fun i r hr => by simp at hr⟩
  · refine ⟨some ⟨g, 0, none⟩, cap, rfl, h1, h2, fun i r hr => ?_⟩
    have hi := (List.getElem?_eq_some_iff.1 hr).1
    refine ⟨g, 0, rfl, (Array.getElem?_eq_some_iff.1 hc).1, ?_⟩
    rw [Nat.zero_add, World.ownsRow.cellAt h' i (by omega), List.getElem?_map, hr]
    rfl
theorem info_int : ∃ i, Tryd.prog.info? 3 = some i ∧ i.zero = some (.int .i64 0) ∧ i.size = 1 ∧ i.bytes = 8 := by
  have e1 : (Tryd.prog.info? 3).bind (·.zero) = some (.int .i64 0) := by kernel_rfl
  have e2 : (Tryd.prog.info? 3).map (·.size) = some 1 := by kernel_rfl
  have e3 : (Tryd.prog.info? 3).map (·.bytes) = some 8 := by kernel_rfl
  cases h : Tryd.prog.info? 3 with
  | none => rw [h] at e2; cases e2
  | some i =>
    rw [h] at e1 e2 e3
    simp only [Option.bind_some, Option.map_some, Option.some.injEq] at e1 e2 e3
    exact ⟨i, rfl, e1, e2, e3⟩
end Go.Proofs.YtapojgbiboeaiaaDoor
