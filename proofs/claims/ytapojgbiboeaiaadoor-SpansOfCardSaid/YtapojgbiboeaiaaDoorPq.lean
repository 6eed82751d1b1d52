/- Plain law of sets put together and cut: the order, a set with itself, three sets; how long what they give is. -/
import Derived.Test.YtapojgbiboeaiaaDoorLb
namespace Go.Proofs.YtapojgbiboeaiaaDoor
set_option linter.unusedVariables false
open Go.RowKit Rng
theorem setUpN_congr {f g : Nat → Bool} : ∀ {n : Nat}, (∀ i, i < n → g i = f i) → setUp g n = setUp f n
  | 0, _ => rfl
  | n + 1, h => by
    unfold setUp
    rw [h n (Nat.lt_succ_self n), setUpN_congr (fun i hi => h i (by omega))]
theorem setUp_ext {f g : Nat → Bool} (h : ∀ i, i < 65536 → g i = f i) : setUp g 65536 = setUp f 65536 := by
  obtain ⟨N, hN⟩ : ∃ N : Nat, 65536 = N := ⟨_, rfl⟩
  rw [hN] at h ⊢
  exact setUpN_congr h
theorem okR_of {l : List (Int × Int)} (h : Ok (-1) l) : okR l = true := (ok_iff _ _).2 h
theorem ok_setUp (f : Nat → Bool) : okR (setUp f 65536) = true := by
  obtain ⟨N, hN⟩ : ∃ N : Nat, 65536 = N := ⟨_, rfl⟩
  rw [hN]
  exact okR_of (setUp_ok f N (by omega)).1
theorem mem_setUp (f : Nat → Bool) (i : Nat) (hi : i < 65536) : mem (setUp f 65536) i = f i := by
  obtain ⟨N, hN⟩ : ∃ N : Nat, 65536 = N := ⟨_, rfl⟩
  rw [hN] at hi ⊢
  have h := (setUp_ok f N (by omega)).2.2 i
  rw [Int.toNat_natCast] at h
  rw [Bool.eq_iff_iff, mem_iff, h]
  exact ⟨fun h => h.2.2, fun h => ⟨by omega, by omega, h⟩⟩
theorem setUp_mem {l : List (Int × Int)} (h : okR l = true) : setUp (fun i => mem l i) 65536 = l := (eq_setUp (okR_ok h) fun i _ => (mem_iff l i).symm).symm
theorem pairC_comm (l m : List (Int × Int)) : pairC l m = pairC m l := by unfold pairC; rw [Bool.and_comm]
theorem andOr_comm (a x y : Bool) : andOr a x y = andOr a y x := by cases a <;> cases x <;> cases y <;> rfl
theorem pairL_comm (a : Bool) (l m : List (Int × Int)) : pairL a l m = pairL a m l := by
  unfold pairL
  rw [Bool.and_comm]
  split
  · exact setUp_ext fun i _ => andOr_comm _ _ _
  · rfl
theorem ok_pair (a : Bool) (l m : List (Int × Int)) : okR (pairL a l m) = true := by
  unfold pairL
  split
  · exact ok_setUp _
  · exact okR_of trivial
section
variable {l m k : List (Int × Int)}
theorem both_ok2 (hl : okR l = true) (hm : okR m = true) : (okR l && okR m) = true := by rw [hl, hm]; rfl
theorem pair_is (a : Bool) (hl : okR l = true) (hm : okR m = true) : pairL a l m = setUp (fun i => andOr a (mem l i) (mem m i)) 65536 := pairL_ok (both_ok2 hl hm)
theorem mem_pair (a : Bool) (hl : okR l = true) (hm : okR m = true) (i : Nat) (hi : i < 65536) : mem (pairL a l m) i = andOr a (mem l i) (mem m i) := by
  rw [pair_is a hl hm, mem_setUp _ _ hi]
theorem pair_self (a : Bool) (hl : okR l = true) : pairL a l l = l := by
  rw [pair_is a hl hl]
  exact (setUp_ext fun i _ => by cases a <;> cases mem l i <;> rfl).trans (setUp_mem hl)
theorem pair_assoc (a : Bool) (hl : okR l = true) (hm : okR m = true) (hk : okR k = true) : pairL a (pairL a l m) k = pairL a l (pairL a m k) := by
  rw [pair_is a (ok_pair _ _ _) hk, pair_is a hl (ok_pair _ _ _)]
  refine setUp_ext fun i hi => ?_
  rw [mem_pair a hl hm i hi, mem_pair a hm hk i hi]
  cases a <;> cases mem l i <;> cases mem m i <;> rfl
theorem cut_parts (hl : okR l = true) (hm : okR m = true) (hk : okR k = true) : pairL true l (pairL false m k) = pairL false (pairL true l m) (pairL true l k) := by
  rw [pair_is true hl (ok_pair _ _ _), pair_is false (ok_pair _ _ _) (ok_pair _ _ _)]
  refine setUp_ext fun i hi => ?_
  rw [mem_pair false hm hk i hi, mem_pair true hl hm i hi, mem_pair true hl hk i hi]
  cases mem l i <;> cases mem m i <;> cases mem k i <;> rfl
theorem sorted_of (l : List (Int × Int)) : ∃ m, m.Perm l ∧ Rises m := by
  refine ⟨l.mergeSort fun p q => decide (p.1 ≤ q.1), List.mergeSort_perm _ _, ?_⟩
  have h := List.pairwise_mergeSort (le := fun p q : Int × Int => decide (p.1 ≤ q.1)) (fun a b c h1 h2 => by simp only [decide_eq_true_eq] at *; omega) (fun a b => by simp only [Bool.or_eq_true, decide_eq_true_eq]; omega) l
  rw [List.pairwise_iff_getElem] at h
  intro i j p q hij hp hq
  obtain ⟨hi, rfl⟩ := List.getElem?_eq_some_iff.1 hp
  obtain ⟨hj, rfl⟩ := List.getElem?_eq_some_iff.1 hq
  simpa using h i j hi hj hij
theorem putAll_le (l : List (Int × Int)) : (putAll l).length ≤ l.length := by
  have := putAll_length l l.length
  rwa [List.take_length] at this
theorem pair_length (a : Bool) (l m : List (Int × Int)) : (pairL a l m).length ≤ l.length + m.length := by
  cases hok : okR l && okR m with
  | false => rw [pairL_no hok]; exact Nat.zero_le _
  | true =>
    have hk := hok
    rw [Bool.and_eq_true] at hk
    rw [pairL_ok hok]
    cases a with
    | false =>
      obtain ⟨mm, hp, hr⟩ := sorted_of (l ++ m)
      rw [← or_law hk.1 hk.2 hp hr]
      have := putAll_le mm
      rw [hp.length_eq, List.length_append] at this
      exact this
    | true =>
      obtain ⟨mm, hp, hr⟩ := sorted_of (bothN (l.length + m.length) l m)
      rw [← and_law hk.1 hk.2 hp hr]
      have := putAll_le mm
      have := bothN_length (l.length + m.length) l m
      rw [hp.length_eq] at *
      omega
theorem not_length (l : List (Int × Int)) (n : Int) : (notL l n).length ≤ l.length + 1 := by
  cases hok : notOk l n with
  | false => unfold notL; rw [hok]; exact Nat.zero_le _
  | true =>
    obtain ⟨hl, k, rfl, hk⟩ := notOk_ok hok
    have e2 : notL l (k : Int) = notR l k := by rw [not_law hl hk]; unfold notL; rw [hok, if_pos rfl, Int.toNat_natCast]
    rw [e2]
    have h := notStep_length l k l.length
    rw [List.take_length] at h
    unfold notR
    exact Nat.le_trans (addR_length _ _ _ _) (by simpa using h)
theorem ok_not (l : List (Int × Int)) (n : Int) : okR (notL l n) = true := by
  unfold notL
  split
  · exact ok_setUp _
  · exact okR_of trivial
theorem mem_not {n : Nat} (hl : okR l = true) (hn : n ≤ 65536) (i : Nat) (hi : i < 65536) : mem (notL l n) i = (decide (i < n) && !mem l i) := by
  have hok : notOk l (n : Int) = true := by unfold notOk; rw [hl]; simp; omega
  unfold notL
  rw [hok, if_pos rfl, mem_setUp _ _ hi, Int.toNat_natCast]
end
end Go.Proofs.YtapojgbiboeaiaaDoor
