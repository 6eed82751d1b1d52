/- Plain law of a rest's rest, and of what is in neither rest. -/
import Derived.Test.YtapojgbiboeaiaaDoorPq
import Derived.Test.YtapojgbiboeaiaaDoorMl
namespace Go.Proofs.YtapojgbiboeaiaaDoor
set_option linter.unusedVariables false
open Go.RowKit Rng
variable {l m : List (Int × Int)}
theorem notOk_of {n : Int} (hl : okR l = true) (h0 : 0 ≤ n) (h1 : n ≤ 65536) : notOk l n = true := by unfold notOk; rw [hl]; simp; omega
theorem notC_of {n : Int} (hl : okR l = true) (h0 : 0 ≤ n) (h1 : n ≤ 65536) : notC l n = 0 := by unfold notC; rw [notOk_of hl h0 h1, if_pos rfl]
theorem notC_bad {n : Int} (h : n < 0 ∨ 65536 < n) : notC l n = 2 := by
  have : notOk l n = false := by unfold notOk; rw [Bool.and_eq_false_iff, Bool.and_eq_false_iff, decide_eq_false_iff_not, decide_eq_false_iff_not]; omega
  unfold notC
  rw [this, if_neg (by simp)]
theorem notC_no {n : Int} (hl : okR l = false) : notC l n = 2 := by
  unfold notC notOk
  rw [hl]
  simp
theorem not_is {k : Nat} (hl : okR l = true) (hk : k ≤ 65536) : notL l k = setUp (fun i => decide (i < k) && !mem l i) 65536 := by
  unfold notL
  rw [notOk_of hl (by omega) (by omega), if_pos rfl, Int.toNat_natCast]
theorem rest_rest {k : Nat} (hl : okR l = true) (hk : k ≤ 65536) : notL (notL l k) k = setUp (fun i => decide (i < k) && mem l i) 65536 := by
  rw [not_is (ok_not l k) hk]
  refine setUp_ext fun i hi => ?_
  rw [mem_not hl hk i hi]
  cases decide (i < k) <;> cases mem l i <;> rfl
theorem all_is {n : Int} (hl : okR l = true) (h0 : 0 < n) (h1 : n ≤ 65536) : pairL true l [(0, n)] = notL (notL l n) n ∧ pairC l [(0, n)] = 0 := by
  obtain ⟨k, rfl⟩ : ∃ k : Nat, n = k := ⟨n.toNat, by omega⟩
  have ho : okR [((0 : Int), (k : Int))] = true := ok_one (by omega) h0 h1
  refine ⟨?_, pairC_ok (both_ok2 hl ho)⟩
  rw [rest_rest hl (by omega), pair_is true hl ho]
  refine setUp_ext fun i hi => ?_
  have e : mem [((0 : Int), (k : Int))] i = decide (i < k) := by
    rw [Bool.eq_iff_iff, mem_iff, Mem_one, decide_eq_true_eq]
    simp only
    omega
  rw [e]
  cases decide (i < k) <;> cases mem l i <;> rfl
theorem rest_zero (hl : okR l = true) : notL (notL l 0) 0 = [] := by
  have h := rest_rest (k := 0) hl (by omega)
  rw [show ((0 : Nat) : Int) = 0 from rfl] at h
  rw [h]
  exact List.eq_nil_of_length_eq_zero (setUp_zero _ fun i _ => by simp)
theorem neither {n : Int} (hl : okR l = true) (hm : okR m = true) (h0 : 0 ≤ n) (h1 : n ≤ 65536) : notL (pairL false (notL l n) (notL m n)) n = pairL true (notL (notL l n) n) m := by
  obtain ⟨k, rfl⟩ : ∃ k : Nat, n = k := ⟨n.toNat, by omega⟩
  rw [not_is (ok_pair _ _ _) (by omega), pair_is true (ok_not _ _) hm]
  refine setUp_ext fun i hi => ?_
  rw [mem_pair false (ok_not _ _) (ok_not _ _) i hi, mem_not hl (by omega) i hi, mem_not hm (by omega) i hi, mem_not (ok_not _ _) (by omega) i hi, mem_not hl (by omega) i hi]
  cases decide (i < k) <;> cases mem l i <;> cases mem m i <;> rfl
end Go.Proofs.YtapojgbiboeaiaaDoor
