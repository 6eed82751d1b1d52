/- Has says whether a set has a line. -/
import Derived.Test.YtapojgbiboeaiaaGreatDoorHd
namespace Go.Proofs.YtapojgbiboeaiaaGreatDoor
set_option linter.unusedVariables false
set_option linter.unusedSimpArgs false
open Go.RowKit Rng
set_option maxRecDepth 100000 in
set_option maxHeartbeats 1000000 in
theorem has1_calls (r : Int × Int) (n : Int) (C : Nat) (W : World) (hc : W.cell? ⟨C, 0, none⟩ = some (.int .i64 n)) (hC : C < W.heap.size) :
    Calls Tryz.prog 25 #[.agg #[.int .i64 r.1, .int .i64 r.2], .pointer (some ⟨C, 0, none⟩)] W fun e w' => e = .returned (.bool (decide (r.1 ≤ n) && decide (n < r.2))) ∧ Below W.heap.size W w' := by
  by_cases h1 : r.1 ≤ n
  · by_cases h2 : n < r.2
    · have hr : (decide (r.1 ≤ n) && decide (n < r.2)) = true := by rw [decide_eq_true h1, decide_eq_true h2]; rfl
      rw [hr]
      clear hr
      go_enter Tryz.func25, Tryz.ntmps25
      go_wp2
      go_ret
      exact ⟨rfl, (Below.refl _ W).alloc (Nat.le_refl _) _⟩
    · have hr : (decide (r.1 ≤ n) && decide (n < r.2)) = false := by rw [decide_eq_false h2, Bool.and_false]
      rw [hr]
      clear hr
      go_enter Tryz.func25, Tryz.ntmps25
      go_wp2
      go_ret
      exact ⟨rfl, (Below.refl _ W).alloc (Nat.le_refl _) _⟩
  · have hr : (decide (r.1 ≤ n) && decide (n < r.2)) = false := by rw [decide_eq_false h1, Bool.false_and]
    rw [hr]
    clear hr
    go_enter Tryz.func25, Tryz.ntmps25
    go_wp2
    go_ret
    exact ⟨rfl, (Below.refl _ W).alloc (Nat.le_refl _) _⟩
set_option maxRecDepth 100000 in
set_option maxHeartbeats 1000000 in
theorem index1_calls {B : Nat} {v : Value} {l : List (Int × Int)} {w : World} (n : Int) (C : Nat) (h : Rd B w v l) (hB : B ≤ w.heap.size) (hc : w.cell? ⟨C, 0, none⟩ = some (.int .i64 n)) (hC : C < w.heap.size) :
    Calls Tryz.prog 40 #[v, .func (.func 25) #[] #[.pointer (some ⟨C, 0, none⟩)]] w fun e w' => (∃ z : Int, e = .returned (.int .i64 z) ∧ decide (0 ≤ z) = l.any fun r => decide (r.1 ≤ n) && decide (n < r.2)) ∧ Below w.heap.size w w' := by
  obtain ⟨ao, cap, rfl, h1, h2, h3⟩ := h
  have H3 := Lib.hid h3
  have HC := Lib.hid (fun (W : World) (hb : Below w.heap.size w W) (r : Int × Int) => has1_calls r n C W ((World.cell?_of_block (hb.block C hC)).trans hc) (Nat.lt_of_lt_of_le hC hb.size))
  clear h3 hc
  go_enter Tryz.func40, Tryz.ntmps40
  go_wp2
  go_loopw [8] (fun i wr => ∃ k : Nat, k ≤ l.length ∧ i = .int .i64 k ∧ ((l.take k).any fun r => decide (r.1 ≤ n) && decide (n < r.2)) = false ∧ Below w.heap.size w wr) (fun i _ => l.length - (intOf i).toNat)
  case atStart => exact ⟨0, Nat.zero_le _, rfl, rfl, Below.refl _ _⟩
  case round =>
    obtain ⟨k, hk, rfl, hany, hBr⟩ := hrel
    by_cases hlt : k < l.length
    · obtain ⟨r, hr⟩ : ∃ r, l[k]? = some r := ⟨_, List.getElem?_eq_getElem hlt⟩
      obtain ⟨b, o, rfl, hb, c1, c2⟩ := H3.out k r hr
      have c1' := (World.cell?_of_block (hBr.block b (Nat.lt_of_lt_of_le hb hB))).trans c1
      have c2' := (World.cell?_of_block (hBr.block b (Nat.lt_of_lt_of_le hb hB))).trans c2
      have hlt' : (k : Int) < l.length := by omega
      have HN := Lib.hid (show ((l.take (k + 1)).any fun r => decide (r.1 ≤ n) && decide (n < r.2)) = (decide (r.1 ≤ n) && decide (n < r.2)) by
        rw [List.take_add_one, hr, List.any_append, hany]
        simp)
      have HM := Lib.hid (show (decide (r.1 ≤ n) && decide (n < r.2)) = true → (l.any fun r => decide (r.1 ≤ n) && decide (n < r.2)) = true from fun h => List.any_eq_true.2 ⟨r, List.mem_of_getElem? hr, h⟩)
      have HK := Lib.hid hlt
      have hw := wrap_succ hlt h1 h2
      have HW := Lib.hid hw
      have hcl := HC.out _ hBr r
      obtain ⟨z, hz⟩ : ∃ z, (decide (r.1 ≤ n) && decide (n < r.2)) = z := ⟨_, rfl⟩
      rw [hz] at HN HM hcl
      have HCL := Lib.hid hcl
      clear hany hr hlt c1 c2 hw hz hcl
      cases z
      · go_wp2_with (go_at_call 25; refine HCL.out.mono ?_; rintro e w2 ⟨rfl, hB2⟩)
        have hlt := HK.out
        go_roundw
        case rel => exact ⟨k + 1, hlt, by rw [HW.out], HN.out, hBr.trans (hB2.mono hBr.size)⟩
        case measure => rw [HW.out]; simp only [intOf]; omega
      · have HX := Lib.hid (HM.out rfl)
        go_wp2_with (go_at_call 25; refine HCL.out.mono ?_; rintro e w2 ⟨rfl, hB2⟩)
        go_ret
        exact ⟨⟨k, rfl, by rw [HX.out]; simp⟩, hBr.trans (hB2.mono hBr.size)⟩
    · have hlt' : ¬ (k : Int) < l.length := by omega
      rw [List.take_of_length_le (by omega)] at hany
      have HX := Lib.hid hany
      clear hany
      go_wp2
      go_ret
      exact ⟨⟨-1, rfl, by rw [HX.out]; rfl⟩, hBr⟩
set_option maxRecDepth 100000 in
set_option maxHeartbeats 1000000 in
theorem contains1_calls {B : Nat} {v : Value} {l : List (Int × Int)} {w : World} (n : Int) (C : Nat) (h : Rd B w v l) (hB : B ≤ w.heap.size) (hc : w.cell? ⟨C, 0, none⟩ = some (.int .i64 n)) (hC : C < w.heap.size) :
    Calls Tryz.prog 23 #[v, .func (.func 25) #[] #[.pointer (some ⟨C, 0, none⟩)]] w fun e w' => e = .returned (.bool (l.any fun r => decide (r.1 ≤ n) && decide (n < r.2))) ∧ Below w.heap.size w w' := by
  have HI := Lib.hid (index1_calls n C h hB hc hC)
  clear h hc
  obtain ⟨a, ha⟩ : ∃ a, (l.any fun r => decide (r.1 ≤ n) && decide (n < r.2)) = a := ⟨_, rfl⟩
  rw [ha] at HI ⊢
  clear ha
  go_enter Tryz.func23, Tryz.ntmps23
  go_wp2_with (go_at_call 40; refine HI.out.mono ?_; rintro e w1 ⟨⟨z, rfl, hz⟩, hB1⟩)
  go_ret
  exact ⟨by rw [← hz]; rfl, hB1⟩
set_option maxRecDepth 100000 in
set_option maxHeartbeats 1000000 in
theorem has_calls {B : Nat} {v : Value} {l : List (Int × Int)} {w : World} (n : Int) (h : Rd B w v l) (hB : B ≤ w.heap.size) :
    Calls Tryz.prog 11 #[v, .int .i64 n] w fun e w' => e = .returned (.bool (hasR l n)) ∧ Below w.heap.size w w' := by
  have HV := Lib.hid (fun (W : World) (hb : Below w.heap.size w W) => valid_calls (h.below hb hB) (Nat.le_trans hB hb.size))
  have HK := Lib.hid (fun (W : World) (C : Nat) (hb : Below w.heap.size w W) (hc : W.cell? ⟨C, 0, none⟩ = some (.int .i64 n)) (hC : C < W.heap.size) => contains1_calls n C (h.below hb hB) (Nat.le_trans hB hb.size) hc hC)
  clear h
  go_enter Tryz.func11, Tryz.ntmps11
  go_upto_region 1 with fail
  obtain ⟨W0, hW0⟩ : ∃ W0, w.alloc (.cells #[.int .i64 n] 3) = W0 := ⟨_, rfl⟩
  have hb0 : W0.heap[w.heap.size]? = some (.cells #[.int .i64 n] 3 (0, 0)) := by rw [← hW0]; exact World.alloc_heap_new w _
  have hB0 : Below w.heap.size w W0 := by rw [← hW0]; exact (Below.refl _ w).alloc (Nat.le_refl _) _
  change Code.wp _ _ _ _ (w.alloc (.cells #[.int .i64 n] 3))
  rw [hW0]
  clear hW0
  have HC := Lib.hid hb0
  clear hb0
  have HV0 := HV.out _ hB0
  cases hl : okR l with
  | false =>
    have hr : hasR l n = false := by rw [hasR, hl]; rfl
    rw [hl] at HV0
    have HR := Lib.hid hr
    have HV1 := Lib.hid HV0
    clear hl hr HV0
    go_wp2_with (go_at_call 17; refine HV1.out.mono ?_; rintro e w1 ⟨rfl, hB1⟩)
    go_ret
    exact ⟨by rw [HR.out]; rfl, hB0.trans (hB1.mono hB0.size)⟩
  | true =>
    have hr : hasR l n = l.any fun r => decide (r.1 ≤ n) && decide (n < r.2) := by rw [hasR, hl]; rfl
    rw [hl] at HV0
    have HR := Lib.hid hr
    have HV1 := Lib.hid HV0
    clear hl hr HV0
    obtain ⟨a, ha⟩ : ∃ a, (l.any fun r => decide (r.1 ≤ n) && decide (n < r.2)) = a := ⟨_, rfl⟩
    rw [ha] at HK HR
    clear ha
    go_wp2_with (first | (go_at_call 17; refine HV1.out.mono ?_; rintro e w1 ⟨rfl, hB1⟩) | (go_at_call 23; refine (HK.out w1 w.heap.size (hB0.trans (hB1.mono hB0.size)) ((cell_of ((hB1.block _ (Array.getElem?_eq_some_iff.1 HC.out).1).trans HC.out) 0).trans rfl) (Nat.lt_of_lt_of_le (Array.getElem?_eq_some_iff.1 HC.out).1 hB1.size)).mono ?_; rintro e w2 ⟨rfl, hB2⟩))
    go_ret
    exact ⟨by rw [HR.out]; rfl, (hB0.trans (hB1.mono hB0.size)).trans (hB2.mono (Nat.le_trans hB0.size hB1.size))⟩
end Go.Proofs.YtapojgbiboeaiaaGreatDoor
