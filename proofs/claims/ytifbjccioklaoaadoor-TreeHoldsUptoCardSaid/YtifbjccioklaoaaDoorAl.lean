/- alive: the chapter's first example holds. Condition: the library's variable is there. -/
import Derived.Test.YtifbjccioklaoaaDoorUw
namespace Go.Proofs.YtifbjccioklaoaaDoor
set_option linter.unusedVariables false
set_option linter.unusedSimpArgs false
open Go.RowKit Rng Go.Maps
def fewL : List (ByteArray × ByteArray) := [(⟨#[97, 47, 46, 99, 102, 109, 116]⟩, ⟨#[]⟩), (⟨#[46, 99, 102, 109, 116]⟩, ⟨#[]⟩), (⟨#[97, 47, 98, 47, 120, 46, 99]⟩, ⟨#[]⟩)]
set_option maxRecDepth 100000 in
theorem few_calls (w : World) : Calls Tryd.prog 12 #[] w fun e w' => ∃ v, e = .returned v ∧ Rf w'.heap.size w' v fewL ∧ Below w.heap.size w w' ∧ ∃ a n c, v = .slice a n c := by
  go_enter Tryd.func12, Tryd.ntmps12
  go_wp2
  go_ret
  refine ⟨_, rfl, ?_, (Below.refl _ w).alloc (Nat.le_refl _) _, _, _, _, rfl⟩
  refine ⟨_, 3, rfl, Nat.le_refl _, by unfold maxLen; omega, fun i f hf => ?_⟩
  have hb : (w.alloc (.cells #[.string ⟨#[97, 47, 46, 99, 102, 109, 116]⟩, .string ⟨#[]⟩, .string ⟨#[46, 99, 102, 109, 116]⟩, .string ⟨#[]⟩, .string ⟨#[97, 47, 98, 47, 120, 46, 99]⟩, .string ⟨#[]⟩] 34)).heap[w.heap.size]? = some (.cells #[.string ⟨#[97, 47, 46, 99, 102, 109, 116]⟩, .string ⟨#[]⟩, .string ⟨#[46, 99, 102, 109, 116]⟩, .string ⟨#[]⟩, .string ⟨#[97, 47, 98, 47, 120, 46, 99]⟩, .string ⟨#[]⟩] 34 (0, 0)) := World.alloc_heap_new w _
  match i, hf with
  | 0, hf =>
    simp only [fewL, List.getElem?_cons_zero, Option.some.injEq] at hf
    subst hf
    exact ⟨_, _, rfl, by simp, (cell_of hb 0).trans rfl, (cell_of hb 1).trans rfl⟩
  | 1, hf =>
    simp only [fewL, List.getElem?_cons_succ, List.getElem?_cons_zero, Option.some.injEq] at hf
    subst hf
    exact ⟨_, _, rfl, by simp, (cell_of hb 2).trans rfl, (cell_of hb 3).trans rfl⟩
  | 2, hf =>
    simp only [fewL, List.getElem?_cons_succ, List.getElem?_cons_zero, Option.some.injEq] at hf
    subst hf
    exact ⟨_, _, rfl, by simp, (cell_of hb 4).trans rfl, (cell_of hb 5).trans rfl⟩
  | k + 3, hf => simp [fewL] at hf
def ex1 : ByteArray := ⟨#[97, 47, 98, 47, 120, 46, 99]⟩
def ex2 : ByteArray := ⟨#[98, 47, 121, 46, 99]⟩
theorem near_ex1 : nearT fewL ex1 = .tuple #[.string ⟨#[97, 47, 46, 99, 102, 109, 116]⟩, .bool true, .int .i64 0] := by
  have h1 : pathB ex1 = true := by decide +kernel
  have h2 : foundB fewL ex1 = ⟨#[97, 47, 46, 99, 102, 109, 116]⟩ := by decide +kernel
  have h3 : isB fewL ex1 = true := by decide +kernel
  unfold nearT
  rw [h1, h2, h3]
  rfl
theorem near_ex2 : nearT fewL ex2 = .tuple #[.string ⟨#[46, 99, 102, 109, 116]⟩, .bool true, .int .i64 0] := by
  have h1 : pathB ex2 = true := by decide +kernel
  have h2 : foundB fewL ex2 = ⟨#[46, 99, 102, 109, 116]⟩ := by decide +kernel
  have h3 : isB fewL ex2 = true := by decide +kernel
  unfold nearT
  rw [h1, h2, h3]
  rfl
set_option maxRecDepth 100000 in
set_option maxHeartbeats 1000000 in
theorem alive_calls {B : Nat} (w : World) (hB : B ≤ w.heap.size) (ht : EnvT B w) :
    Calls Tryd.prog 6 #[] w fun e w' => e = .returned (.bool true) ∧ Below w.heap.size w w' := by
  have HN := Lib.hid (fun (w1 : World) (hb : Below w.heap.size w w1) (v : Value) (hv : Rf w1.heap.size w1 v fewL) (s : ByteArray) (hs : s.size ≤ 1000) => nearest2_calls hv (Nat.le_refl _) (by decide) (ht.later (hb.mono hB)) (Nat.le_trans hB hb.size) s hs)
  clear ht hB
  have E1 := Lib.hid near_ex1
  have E2 := Lib.hid near_ex2
  go_enter Tryd.func6, Tryd.ntmps6
  go_upto_region 2 with (first
    | (go_at_call 12; refine (few_calls _).mono ?_; rintro e w1 ⟨v1, rfl, hR1, hB1, a1, n1, c1, rfl⟩)
    | (go_at_call 10; refine (HN.out _ hB1 _ hR1 ex1 (by decide)).mono ?_; rintro e w2 ⟨rfl, hB2⟩; rw [E1.out]))
  have HB2 := Lib.hid (hB1.trans (hB2.mono hB1.size))
  clear hB1 hB2 hR1
  go_upto_region 3 with (first
    | (go_at_call 12; refine (few_calls _).mono ?_; rintro e w3 ⟨v3, rfl, hR3, hB3, a3, n3, c3, rfl⟩; have HB3 := Lib.hid (HB2.out.trans (hB3.mono HB2.out.size)))
    | (go_at_call 10; refine (HN.out _ HB3.out _ hR3 ex2 (by decide)).mono ?_; rintro e w4 ⟨rfl, hB4⟩; rw [E2.out]))
  have HB4 := Lib.hid (HB3.out.trans (hB4.mono HB3.out.size))
  clear hB3 hB4 hR3
  go_wp2
  go_ret
  exact ⟨rfl, HB4.out⟩
end Go.Proofs.YtifbjccioklaoaaDoor
