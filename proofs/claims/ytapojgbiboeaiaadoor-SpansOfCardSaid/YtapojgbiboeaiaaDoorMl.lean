/- SpansMeet's walk: whatever the ranges and lines, the law returns true. Conditions: the argument is a readable slice; the library's variables are as they are laid. -/
import Derived.Test.YtapojgbiboeaiaaDoorAl
import Derived.Test.YtapojgbiboeaiaaDoorLc
namespace Go.Proofs.YtapojgbiboeaiaaDoor
set_option linter.unusedVariables false
set_option linter.unusedSimpArgs false
open Go.RowKit Rng
theorem setUp_pos (f : Nat → Bool) (h : ∃ i : Nat, i < 65536 ∧ f i = true) : 0 < (setUp f 65536).length := by
  obtain ⟨N, hN⟩ : ∃ N : Nat, 65536 = N := ⟨_, rfl⟩
  rw [hN] at h ⊢
  obtain ⟨i, hi, hf⟩ := h
  have := (setUp_ok f N (by omega)).2.2 i
  obtain ⟨r, hr, _⟩ := this.2 ⟨by omega, by omega, by simpa using hf⟩
  exact List.length_pos_of_mem hr
theorem setUp_zero (f : Nat → Bool) (h : ∀ i : Nat, i < 65536 → f i = false) : (setUp f 65536).length = 0 := by
  obtain ⟨N, hN⟩ : ∃ N : Nat, 65536 = N := ⟨_, rfl⟩
  rw [hN] at h ⊢
  have h1 := (setUp_ok f N (by omega)).1
  have h2 := (setUp_ok f N (by omega)).2.2
  cases hs : setUp f N with
  | nil => rfl
  | cons r l =>
    rw [hs] at h1 h2
    obtain ⟨_, b, c⟩ := (h2 r.1).1 ((Mem_cons r l r.1).2 (.inl ⟨Int.le_refl _, h1.2.1⟩))
    rw [h r.1.toNat (by omega)] at c
    cases c
theorem ok_one {x y : Int} (h0 : 0 ≤ x) (h1 : x < y) (h2 : y ≤ 65536) : okR [(x, y)] = true := (ok_iff _ _).2 ⟨by simp; omega, by simpa using h1, by simpa using h2, trivial⟩
theorem anyHas_iff (l : List (Int × Int)) (n : Int) (k : Nat) : anyHas l n k = true ↔ ∃ j : Nat, j < k ∧ hasR l (n + j) = true := by
  unfold anyHas
  rw [List.any_eq_true]
  constructor
  · rintro ⟨j, hj, h⟩; exact ⟨j, List.mem_range.1 hj, h⟩
  · rintro ⟨j, hj, h⟩; exact ⟨j, List.mem_range.2 hj, h⟩
theorem hasR_mem {l : List (Int × Int)} (hl : okR l = true) (i : Nat) : hasR l i = mem l i := by rw [hasR, hl]; rfl
/-- A set meets some lines just if it shares one with them. -/
theorem meet_law {l : List (Int × Int)} {x y : Int} (hl : okR l = true) (h0 : 0 ≤ x) (h1 : x < y) (h2 : y ≤ 65536) : decide (0 < (pairL true l [(x, y)]).length) = meetsR l x y := by
  have ho : (okR l && okR [(x, y)]) = true := by rw [hl, ok_one h0 h1 h2]; rfl
  rw [pairL_ok ho, meets_law (by omega)]
  cases hm : anyHas l x (y - x).toNat with
  | true =>
    obtain ⟨j, hj, hh⟩ := (anyHas_iff _ _ _).1 hm
    obtain ⟨i, hi⟩ : ∃ i : Nat, x + j = i := ⟨(x + j).toNat, by omega⟩
    rw [hi, hasR_mem hl] at hh
    refine decide_eq_true (setUp_pos _ ⟨i, by omega, ?_⟩)
    simp only [andOr, if_true, hh, Bool.true_and]
    exact (mem_iff _ _).2 ((Mem_one _ _).2 ⟨by simp; omega, by simp; omega⟩)
  | false =>
    refine decide_eq_false ?_
    rw [setUp_zero]
    · omega
    · intro i hi
      cases ha : andOr true (mem l i) (mem [(x, y)] i) with
      | false => rfl
      | true =>
        simp only [andOr, if_true, Bool.and_eq_true] at ha
        have hb := (Mem_one _ _).1 ((mem_iff _ _).1 ha.2)
        simp only at hb
        have := (anyHas_iff l x (y - x).toNat).2 ⟨(i - x).toNat, by omega, by
          have e : x + ((i - x).toNat : Int) = (i : Int) := by omega
          rw [e, hasR_mem hl]
          exact ha.1⟩
        rw [hm] at this
        cases this
theorem has_meets (l : List (Int × Int)) (x : Int) : hasR l x = meetsR l x (x + 1) := by
  rw [meets_law (by omega)]
  have e : (x + 1 - x).toNat = 0 + 1 := by omega
  rw [e, anyHas_succ]
  simp [anyHas]
theorem has_no {l : List (Int × Int)} (h : okR l = false) (x : Int) : hasR l x = false := by rw [hasR, h]; rfl
theorem meets_no {l : List (Int × Int)} (h : okR l = false) {x y : Int} (hxy : x ≠ y) : meetsR l x y = false := by unfold meetsR; rw [if_neg hxy, h]; rfl
theorem rd_one (w : World) (x y : Int) : RIn (w.alloc (.cells #[.int .i64 x, .int .i64 y] 38)) (.slice (some ⟨w.heap.size, 0, none⟩) 1 1) [(x, y)] := by
  have hb : (w.alloc (.cells #[.int .i64 x, .int .i64 y] 38)).heap[w.heap.size]? = some (.cells #[.int .i64 x, .int .i64 y] 38 (0, 0)) := World.alloc_heap_new w _
  refine ⟨some ⟨w.heap.size, 0, none⟩, 1, rfl, Nat.le_refl _, by unfold maxLen; omega, fun i r hr => ?_⟩
  match i, hr with
  | 0, hr =>
    simp only [List.getElem?_cons_zero, Option.some.injEq] at hr
    subst hr
    exact ⟨_, _, rfl, (Array.getElem?_eq_some_iff.1 hb).1, by rw [cell_of hb]; rfl, by rw [cell_of hb]; rfl⟩
  | k + 1, hr => simp at hr
set_option maxRecDepth 100000 in
set_option maxHeartbeats 2000000 in
theorem meet_true {B : Nat} {va : Value} {l : List (Int × Int)} (x y : Int) {W : World} (ha : RIn W va l) (hB : B ≤ W.heap.size) (ht : Env B W) :
    Calls Tryd.prog 5 #[va, .int .i64 x, .int .i64 y] W fun e W' => e = .returned (.bool true) ∧ Below W.heap.size W W' := by
  have HL := Lib.hid (alive_calls W hB ht)
  have HA := Lib.hid ha
  obtain ⟨a1, c1, rfl, q1⟩ := ha
  obtain ⟨p, hp⟩ : ∃ p, l.length = p := ⟨_, rfl⟩
  rw [hp] at HA ⊢
  have HP := Lib.hid hp
  clear q1 hp ht
  go_enter Tryd.func5, Tryd.ntmps5
  go_upto_region 2 with (go_at_call 13; refine HL.out.mono ?_; rintro e w1 ⟨rfl, hB1⟩)
  by_cases g1 : 50 < p
  · have g1' : 50 < (p : Int) := by omega
    go_wp2
    go_ret
    exact ⟨rfl, hB1⟩
  have g1' : ¬ 50 < (p : Int) := by omega
  by_cases g2 : x < 0
  · go_wp2
    go_ret
    exact ⟨rfl, hB1⟩
  by_cases g3 : y ≤ x
  · go_wp2
    go_ret
    exact ⟨rfl, hB1⟩
  by_cases g4 : 65536 < y
  · go_wp2
    go_ret
    exact ⟨rfl, hB1⟩
  have HA1 := Lib.hid (HA.out.later hB1)
  have HAN := Lib.hid (show Calls Tryd.prog 16 _ _ _ from and_any (HA1.out.later ((Below.refl _ w1).alloc (Nat.le_refl _) (.cells #[.int .i64 x, .int .i64 y] 38))) (Nat.le_refl _) (rd_one w1 x y) (Nat.le_refl _) (by rw [HP.out]; omega) (by simp))
  go_upto_region 5 with (go_at_call 16; refine HAN.out.mono ?_; rintro e w2 ⟨v2, rfl, ho2, hB2⟩)
  have hBA : Below w1.heap.size w1 (w1.alloc (.cells #[.int .i64 x, .int .i64 y] 38)) := (Below.refl _ w1).alloc (Nat.le_refl _) _
  have hB3 := hBA.trans (hB2.mono hBA.size)
  have hB4 := hB1.trans (hB3.mono hB1.size)
  have HA2 := Lib.hid (HA1.out.later hB3)
  have hx1 : 0 < x → wrap64 (x - 1) = x - 1 := fun h => wrap_in _ (by omega)
  have HM := Lib.hid (fun (w' : World) (b : Below w2.heap.size w2 w') => meets_calls x y (HA2.out.later b) (Nat.le_refl _) hx1)
  have HM1 := Lib.hid (fun (w' : World) (b : Below w2.heap.size w2 w') => meets_calls x (x + 1) (HA2.out.later b) (Nat.le_refl _) hx1)
  have HH := Lib.hid (fun (w' : World) (b : Below w2.heap.size w2 w') => has_calls x (HA2.out.later b) (Nat.le_refl _))
  cases hl : okR l with
  | false =>
    have hc : pairC l [(x, y)] = 2 := pairC_no (by rw [hl]; rfl)
    rw [meets_no hl (by omega)] at HM
    rw [has_no hl] at HH
    rw [hc]
    clear HM1 ho2 hx1 hc g1 g1' g2 g3 g4 hBA
    go_wp2_with (first | (go_at_call 17; refine (HM.out _ (Below.refl _ _)).mono ?_; clear HM; rintro e w3 ⟨rfl, hB5⟩) | (go_at_call 15; refine (HH.out _ hB5).mono ?_; rintro e w4 ⟨rfl, hB6⟩))
    go_ret
    exact ⟨rfl, (hB4.trans (hB5.mono hB4.size)).trans (hB6.mono (Nat.le_trans hB4.size hB5.size))⟩
  | true =>
    have hok : (okR l && okR [(x, y)]) = true := by rw [hl, ok_one (by omega) (by omega) (by omega)]; rfl
    have hc : pairC l [(x, y)] = 0 := pairC_ok hok
    rw [← meet_law hl (by omega) (by omega) (by omega)] at HM
    rw [← has_meets l x] at HM1
    rw [hc]
    obtain ⟨ao, cp, hv, _⟩ := own_rd ho2
    rw [hv]
    obtain ⟨n, hn⟩ : ∃ n, (pairL true l [(x, y)]).length = n := ⟨_, rfl⟩
    rw [hn] at HM ⊢
    obtain ⟨u, hu⟩ : ∃ u, hasR l x = u := ⟨_, rfl⟩
    rw [hu] at HM1 HH
    have hw1 : wrap64 (x + 1) = x + 1 := wrap_in _ (by omega)
    have HX := Lib.hid hw1
    clear ho2 hx1 hc g1 g1' g2 g3 g4 hBA hv hn hu hok
    by_cases h0 : 0 < n
    · rw [decide_eq_true h0] at HM
      have h0' : 0 < (n : Int) := by omega
      cases u <;>
      · go_wp2_with (first | (go_at_call 17; refine (HM.out _ (Below.refl _ _)).mono ?_; clear HM; rintro e w3 ⟨rfl, hB5⟩) | (go_at_call 15; refine (HH.out _ hB5).mono ?_; rintro e w4 ⟨rfl, hB6⟩; have hB7 := hB5.trans (hB6.mono hB5.size)) | (go_at_call 17; refine (HM1.out _ hB7).mono ?_; rintro e w5 ⟨rfl, hB8⟩))
        go_ret
        exact ⟨rfl, (hB4.trans (hB7.mono hB4.size)).trans (hB8.mono (Nat.le_trans hB4.size hB7.size))⟩
    · rw [decide_eq_false h0] at HM
      have h0' : ¬ 0 < (n : Int) := by omega
      cases u <;>
      · go_wp2_with (first | (go_at_call 17; refine (HM.out _ (Below.refl _ _)).mono ?_; clear HM; rintro e w3 ⟨rfl, hB5⟩) | (go_at_call 15; refine (HH.out _ hB5).mono ?_; rintro e w4 ⟨rfl, hB6⟩; have hB7 := hB5.trans (hB6.mono hB5.size)) | (go_at_call 17; refine (HM1.out _ hB7).mono ?_; rintro e w5 ⟨rfl, hB8⟩))
        go_ret
        exact ⟨rfl, (hB4.trans (hB7.mono hB4.size)).trans (hB8.mono (Nat.le_trans hB4.size hB7.size))⟩
end Go.Proofs.YtapojgbiboeaiaaDoor
