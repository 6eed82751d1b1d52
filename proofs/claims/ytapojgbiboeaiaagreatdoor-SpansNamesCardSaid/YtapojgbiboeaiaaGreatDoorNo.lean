/- The closure of Not: a part of the lines under n is put behind what was found. Condition: the captured variables lie in blocks of their own. -/
import Derived.Test.YtapojgbiboeaiaaGreatDoorOw
namespace Go.Proofs.YtapojgbiboeaiaaGreatDoor
set_option linter.unusedVariables false
set_option linter.unusedSimpArgs false
open Go.RowKit Rng
/-- The lines from 'at' z 'z', as far as n, are put behind. -/
def addR (l : List (Int × Int)) (fr z n : Int) : List (Int × Int) := if fr < min z n then l ++ [(fr, min z n)] else l
theorem own_setCell {w : World} {base : Nat} {v : Value} {l : List (Int × Int)} (h : Own w base v l) {p : Addr} (hp : p.block < base) (u : Value) : Own (w.setCell p u) base v l := by
  obtain ⟨h1, h2 | ⟨g, cap, cur, h3, h4, h5, h6⟩⟩ := h
  · exact ⟨h1, .inl h2⟩
  · exact ⟨h1, .inr ⟨g, cap, cur, h3, h4, (Below.heap_setCell _ _ _ _ (by omega)).trans h5, h6⟩⟩
theorem own_slice {w : World} {base n : Nat} {v : Value} {xs : List Value} (h : w.ownsRow base 28 2 v n xs) : ∃ ao m c, v = .slice ao m c := by
  obtain ⟨_, ⟨rfl, _⟩ | ⟨g, cap, cur, rfl, _⟩⟩ := h
  · exact ⟨_, _, _, rfl⟩
  · exact ⟨_, _, _, rfl⟩
/-- What the closure leaves: the value of 'out'. -/
def NotEnds (base O : Nat) (v : Value) (W : World) (l : List (Int × Int)) (w' : World) : Prop :=
  ∃ v', w'.heap[O]? = some (.cells #[v'] 22 (0, 0)) ∧ Own w' base v' l ∧ (∀ k, k < W.heap.size → k ≠ O → v.ownBlock ≠ some k → w'.heap[k]? = W.heap[k]?) ∧ Below O W w'
set_option maxRecDepth 100000 in
set_option maxHeartbeats 1000000 in
theorem not1_calls {base A N O : Nat} {W : World} {v : Value} {l : List (Int × Int)} (fr z n : Int) (hA : W.heap[A]? = some (.cells #[.int .i64 fr] 3 (0, 0))) (hN : W.heap[N]? = some (.cells #[.int .i64 n] 3 (0, 0))) (hO : W.heap[O]? = some (.cells #[v] 22 (0, 0)))
    (hNO : N < O) (hOA : O < A) (hAb : A < base) (hb : base ≤ W.heap.size) (hown : Own W base v l) (hlen : l.length ≤ 1000) :
    Calls Tryz.prog 18 #[.int .i64 z, .pointer (some ⟨A, 0, none⟩), .pointer (some ⟨N, 0, none⟩), .pointer (some ⟨O, 0, none⟩)] W fun e w' => (∃ x, e = .returned x) ∧ NotEnds base O v W (addR l fr z n) w' := by
  have cA := cell_of hA 0
  have cN := cell_of hN 0
  have cO := cell_of hO 0
  have fO := frozen_of_row _ O 0 _ _ hO
  obtain ⟨i0, hi, hz0, hz1, hz2⟩ := info_rg
  have HA := Lib.hid hA
  have HN := Lib.hid hN
  have HO := Lib.hid hO
  have HW := Lib.hid hown
  have E1 := Lib.hid (show l.length + 1 ≤ maxLen by unfold maxLen; omega)
  have E2 := Lib.hid (show (l.length + 1) * 16 ≤ 140737488355328 by omega)
  clear hA hN hO hown hlen
  by_cases h1 : fr < z
  · by_cases h2 : fr < n
    · by_cases h3 : z ≤ n
      · have hr : addR l fr z n = l ++ [(fr, z)] := by unfold addR; rw [if_pos (by omega), Int.min_eq_left h3]
        rw [hr]
        clear hr
        go_enter Tryz.func18, Tryz.ntmps18
        go_upto_region 1 with fail
        go_wp2_with (at_builtin; refine wpList_append_own _ rfl _ _ 22 rfl base 28 i0 _ 2 16 Tryz.underlying22 hi hz0 hz1 hz2 rfl (by decide) _ _ _ rfl (HW.out.alloc _) ⟨W.heap.size, 0, none⟩ 1 1 [.int .i64 fr, .int .i64 z] rfl rfl (new2 W _ _ _) (by simp [Value.oneCell']) E1.out E2.out (by simpa using Nat.le_trans hb (Nat.le_succ _)) ?_; intro v' w1 hown' hgrow hnil'; obtain ⟨ao', n', c', hv'⟩ := own_slice hown'; have hB1 : Below base W w1 := ((Below.refl base W).alloc hb _).grown hgrow (by simpa using Nat.le_trans hb (Nat.le_succ _)) (fun j ej => (HW.out.lt j ej).1); have hO1 := (hB1.block O (Nat.lt_trans hOA hAb)).trans HO.out; have cO1 := cell_of hO1 0; have fO1 := frozen_of_row _ O 0 _ _ hO1; subst hv')
        refine bodyPost_end (results_none rfl _ _ _) rfl ?_
        refine ⟨⟨_, rfl⟩, _, (heap_setCell_same _ _ _ _ _ _ hO1).trans rfl, own_setCell (own_more (r := (fr, z)) hown') (Nat.lt_trans hOA hAb) _, fun k h4 h5 h6 => ?_, (hB1.mono (Nat.le_of_lt (Nat.lt_trans hOA hAb))).setCell (Nat.le_refl _) _⟩
        rw [Below.heap_setCell _ _ _ _ h5, hgrow.block k (by simp; omega) (fun e => h6 e.symm), Below.heap_alloc _ _ _ h4]
      · have hr : addR l fr z n = l ++ [(fr, n)] := by unfold addR; rw [if_pos (by omega), Int.min_eq_right (by omega)]
        rw [hr]
        clear hr
        go_enter Tryz.func18, Tryz.ntmps18
        go_upto_region 1 with fail
        go_wp2_with (at_builtin; refine wpList_append_own _ rfl _ _ 22 rfl base 28 i0 _ 2 16 Tryz.underlying22 hi hz0 hz1 hz2 rfl (by decide) _ _ _ rfl (HW.out.alloc _) ⟨W.heap.size, 0, none⟩ 1 1 [.int .i64 fr, .int .i64 n] rfl rfl (new2 W _ _ _) (by simp [Value.oneCell']) E1.out E2.out (by simpa using Nat.le_trans hb (Nat.le_succ _)) ?_; intro v' w1 hown' hgrow hnil'; obtain ⟨ao', n', c', hv'⟩ := own_slice hown'; have hB1 : Below base W w1 := ((Below.refl base W).alloc hb _).grown hgrow (by simpa using Nat.le_trans hb (Nat.le_succ _)) (fun j ej => (HW.out.lt j ej).1); have hO1 := (hB1.block O (Nat.lt_trans hOA hAb)).trans HO.out; have cO1 := cell_of hO1 0; have fO1 := frozen_of_row _ O 0 _ _ hO1; subst hv')
        refine bodyPost_end (results_none rfl _ _ _) rfl ?_
        refine ⟨⟨_, rfl⟩, _, (heap_setCell_same _ _ _ _ _ _ hO1).trans rfl, own_setCell (own_more (r := (fr, n)) hown') (Nat.lt_trans hOA hAb) _, fun k h4 h5 h6 => ?_, (hB1.mono (Nat.le_of_lt (Nat.lt_trans hOA hAb))).setCell (Nat.le_refl _) _⟩
        rw [Below.heap_setCell _ _ _ _ h5, hgrow.block k (by simp; omega) (fun e => h6 e.symm), Below.heap_alloc _ _ _ h4]
    · have hr : addR l fr z n = l := by unfold addR; rw [if_neg (by omega)]
      rw [hr]
      clear hr
      go_enter Tryz.func18, Tryz.ntmps18
      go_wp2
      all_goals
        refine bodyPost_end (results_none rfl _ _ _) rfl ?_
        exact ⟨⟨_, rfl⟩, v, HO.out, HW.out, fun _ _ _ _ => rfl, Below.refl _ _⟩
  · have hr : addR l fr z n = l := by unfold addR; rw [if_neg (by omega)]
    rw [hr]
    clear hr
    go_enter Tryz.func18, Tryz.ntmps18
    go_wp2
    all_goals
      refine bodyPost_end (results_none rfl _ _ _) rfl ?_
      exact ⟨⟨_, rfl⟩, v, HO.out, HW.out, fun _ _ _ _ => rfl, Below.refl _ _⟩
end Go.Proofs.YtapojgbiboeaiaaGreatDoor
