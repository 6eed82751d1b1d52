/- The reference's one and numbers: a style's numbers in new memory. No condition. -/
import Derived.Test.YtjfpfmknngkgaaaDoorSSty
import Derived.StillTailTactics
import Derived.BigRegion
import Derived.Deep.QuietTactic
import Derived.BigQuiet
namespace Go.Proofs.YtjfpfmknngkgaaaDoor
set_option linter.unusedVariables false
set_option linter.unusedSimpArgs false
open Go.RowKit Rng
theorem one_calls (b : Bool) (w : World) : Calls Tryd.prog 37 #[.bool b] w fun e w' => e = .returned (.int .i64 (b2i b)) ∧ w' = w := by
  cases b
  all_goals
    go_enter Tryd.func37, Tryd.ntmps37
    go_wp2
    go_ret
    exact ⟨rfl, rfl⟩
def numsA (s : Sty) : Array Value := (s.nums.map (Value.int .i64)).toArray
set_option maxRecDepth 100000 in
set_option maxHeartbeats 2000000 in
theorem numbers_calls (s : Sty) (w : World) : Calls Tryd.prog 23 #[s.val] w fun e w' =>
    ∃ R : Nat, e = .returned (.slice (some ⟨R, 0, none⟩) 18 18) ∧ w.heap.size ≤ R ∧ w'.heap[R]? = some (.cells (numsA s) 3 (0, 0)) ∧ Below w.heap.size w w' := by
  go_enter Tryd.func23, Tryd.ntmps23
  go_upto_region 1 with fail
  obtain ⟨W0, hW0⟩ : ∃ W0, w.alloc (.cells s.cells.toArray 23) = W0 := ⟨_, rfl⟩
  have hS0 : StyAt W0 w.heap.size s := by rw [← hW0]; exact styAt_new w s 23
  have hB0 : Below w.heap.size w W0 := by rw [← hW0]; exact (Below.refl _ w).alloc (Nat.le_refl _) _
  change Code.wp _ _ _ _ (w.alloc (.cells s.cells.toArray 23))
  rw [hW0]
  clear hW0
  have c0 := hS0 0 _ rfl
  have c1 := hS0 1 _ rfl
  have c2 := hS0 2 _ rfl
  have c3 := hS0 3 _ rfl
  have c4 := hS0 4 _ rfl
  have c5 := hS0 5 _ rfl
  have c6 := hS0 6 _ rfl
  have c7 := hS0 7 _ rfl
  have c8 := hS0 8 _ rfl
  have c9 := hS0 9 _ rfl
  have c10 := hS0 10 _ rfl
  have c11 := hS0 11 _ rfl
  have c12 := hS0 12 _ rfl
  have c13 := hS0 13 _ rfl
  have c14 := hS0 14 _ rfl
  have c15 := hS0 15 _ rfl
  have c16 := hS0 16 _ rfl
  have c17 := hS0 17 _ rfl
  refine wp_region_still_tail 39 (by kernel_rfl) (by kernel_rfl) ?_
  simp only [List.take_succ_cons, List.take_zero, List.drop_succ_cons, List.drop_zero]
  repeat (first | still_step | still_call (one_calls _ _))
  refine wpStill_nil ?_
  change wpList _ _ _ _ _ W0.drew
  go_wp2
  go_ret
  refine ⟨W0.heap.size, rfl, hB0.size, World.alloc_heap_new W0 (.cells (numsA s) 3), ((hB0.alloc hB0.size (.cells (numsA s) 3))).drew⟩
end Go.Proofs.YtjfpfmknngkgaaaDoor
