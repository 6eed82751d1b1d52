/- joined's comparison of two ranges: by where they begin, then by where they end. -/
import Derived.Test.YtapojgbiboeaiaaGreatDoorOw
import Derived.Test.YtapojgbiboeaiaaGreatDoorShelf
import Derived.Deep.QuietTactic
import Derived.Lib.Small
namespace Go.Proofs.YtapojgbiboeaiaaGreatDoor
set_option linter.unusedVariables false
set_option linter.unusedSimpArgs false
open Go.RowKit Go.Shelf Go.Sort Rng
/-- The first number that is not 0. -/
def cmpR (x y : Int × Int) : Int := if Lib.compareInt x.1 y.1 = 0 then Lib.compareInt x.2 y.2 else Lib.compareInt x.1 y.1
set_option maxRecDepth 100000 in
set_option maxHeartbeats 1000000 in
theorem or_calls (p q : Int) (w : World) (b : Nat) (h0 : w.cell? ⟨b, 0, none⟩ = some (.int .i64 p)) (h1 : w.cell? ⟨b, 1, none⟩ = some (.int .i64 q)) :
    Calls Tryz.prog 32 #[.slice (some ⟨b, 0, none⟩) 2 2] w fun e w' => e = .returned (.int .i64 (if p = 0 then q else p)) ∧ w' = w := by
  have HR := Lib.hid (show ∀ z, (p = 0 → z = q) → (p ≠ 0 → z = p) → (if p = 0 then q else p) = z from fun z a b => by
    by_cases h : p = 0
    · rw [if_pos h, a h]
    · rw [if_neg h, b h])
  obtain ⟨z, hz⟩ : ∃ z, (if p = 0 then q else p) = z := ⟨_, rfl⟩
  have HZ := Lib.hid hz
  rw [hz]
  clear hz
  go_enter Tryz.func32, Tryz.ntmps32
  go_wp2
  go_loopw [8] (fun i wr => wr = w ∧ ∃ k : Nat, k ≤ 2 ∧ i = .int .i64 k ∧ (0 < k → p = 0) ∧ (1 < k → q = 0)) (fun i _ => 2 - (intOf i).toNat)
  case atStart => exact ⟨rfl, 0, by omega, rfl, fun h => by omega, fun h => by omega⟩
  case round =>
    obtain ⟨rfl, k, hk, rfl, hp, hq⟩ := hrel
    match k, hk with
    | 0, _ =>
      clear hp hq
      by_cases h : p = 0
      · subst h
        go_wp2
        exact ⟨⟨trivial, 1, by omega, rfl, by simp, by simp⟩, by simp [intOf]⟩
      · have HP := Lib.hid (HZ.out.symm.trans (if_neg h))
        go_wp2
        go_ret
        exact ⟨by rw [HP.out]; rfl, rfl⟩
    | 1, _ =>
      have h0' := hp (by omega)
      clear hp hq
      subst h0'
      have HP := Lib.hid (HZ.out.symm.trans (if_pos rfl))
      by_cases h : q = 0
      · subst h
        go_wp2
        exact ⟨⟨trivial, 2, by omega, rfl, by simp, by simp⟩, by simp [intOf]⟩
      · go_wp2
        go_ret
        exact ⟨by rw [HP.out]; rfl, rfl⟩
    | 2, _ =>
      have h0' := hp (by omega)
      have h1' := hq (by omega)
      clear hp hq
      have HP := Lib.hid (HZ.out.symm.trans ((if_pos h0').trans h1'))
      clear h0' h1'
      go_wp2
      go_ret
      exact ⟨by rw [HP.out]; rfl, rfl⟩
set_option maxRecDepth 100000 in
set_option maxHeartbeats 1000000 in
theorem cmp_calls (x y : Int × Int) (W : World) :
    Calls Tryz.prog 31 #[.agg #[.int .i64 x.1, .int .i64 x.2], .agg #[.int .i64 y.1, .int .i64 y.2]] W fun e w' => e = .returned (.int .i64 (cmpR x y)) ∧ ∃ q os', w' = grow (W.drewN q) os' := by
  have hcon := fun a b W' => Tryz.cmp_Compare_int a b W'
  go_enter Tryz.func31, Tryz.ntmps31
  go_upto_region 1 with fail
  obtain ⟨W1, hW1⟩ : ∃ W1, (W.alloc (.cells #[.int .i64 x.1, .int .i64 x.2] 28)).alloc (.cells #[.int .i64 y.1, .int .i64 y.2] 28) = W1 := ⟨_, rfl⟩
  have a0 : W1.cell? ⟨W.heap.size, 0, none⟩ = some (.int .i64 x.1) := by rw [← hW1]; simp [go_sem]
  have a1 : W1.cell? ⟨W.heap.size, 1, none⟩ = some (.int .i64 x.2) := by rw [← hW1]; simp [go_sem]
  have b0 : W1.cell? ⟨W.heap.size + 1, 0, none⟩ = some (.int .i64 y.1) := by rw [← hW1]; simp [go_sem]
  have b1 : W1.cell? ⟨W.heap.size + 1, 1, none⟩ = some (.int .i64 y.2) := by rw [← hW1]; simp [go_sem]
  have hG : ∃ os, W1 = grow W os := ⟨_, by rw [← hW1, alloc_eq_grow, alloc_eq_grow, grow_grow]⟩
  change Code.wp _ _ _ _ ((W.alloc (.cells #[.int .i64 x.1, .int .i64 x.2] 28)).alloc (.cells #[.int .i64 y.1, .int .i64 y.2] 28))
  rw [hW1]
  clear hW1
  refine region_tail_of (C := fun w' => ∃ n, w' = W1.drewN n) 10 (by kernel_rfl) ⟨1, rfl⟩ (by kernel_rfl) ?_
  simp only [List.take_succ_cons, List.take_zero, List.drop_succ_cons, List.drop_zero]
  repeat (quiet_step ((go_at_call 33; exact Calls.quiet_of_same (hcon _ _ _))))
  refine wpQuiet_nil ?_
  rintro _ ⟨n, rfl⟩
  obtain ⟨os, rfl⟩ := hG
  go_wp2_with (go_at_call 32; refine (or_calls (Lib.compareInt x.1 y.1) (Lib.compareInt x.2 y.2) _ _ (by simp [go_sem]) (by simp [go_sem])).mono ?_; rintro e w' ⟨he, rfl⟩; rw [show (if Lib.compareInt x.1 y.1 = 0 then Lib.compareInt x.2 y.2 else Lib.compareInt x.1 y.1) = cmpR x y from rfl] at he; subst he)
  go_ret
  exact ⟨rfl, n, os ++ #[.cells #[.int .i64 (Lib.compareInt x.1 y.1), .int .i64 (Lib.compareInt x.2 y.2)] 3], by rw [alloc_eq_grow, show (grow W os).drewN n = grow (W.drewN n) os from rfl, grow_grow]⟩
end Go.Proofs.YtapojgbiboeaiaaGreatDoor
