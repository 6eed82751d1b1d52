/- The reference's Not and Has: the ranges of the lines under n that a set has not; whether a set has a line. Or an error, or false, where it is no set. -/
import Derived.Test.YtapojgbiboeaiaaBo
namespace Go.Proofs.Ytapojgbiboeaiaa
set_option linter.unusedVariables false
set_option linter.unusedSimpArgs false
open Go.RowKit Rng
set_option maxRecDepth 100000 in
set_option maxHeartbeats 2000000 in
theorem rnot_no {B : Nat} {v : Value} {l : List (Int × Int)} {w : World} (n : Int) (h : Rd B w v l) (hB : B ≤ w.heap.size) (hno : okR l = false ∨ n < 0 ∨ 65536 < n) :
    Calls Try.prog 8 #[v, .int .i64 n] w fun e w' => e = .returned (.tuple #[.slice none 0 0, .int .i64 2]) ∧ Below w.heap.size w w' := by
  have HA := Lib.hid (rvalid_calls h hB)
  go_enter Try.func8, Try.ntmps8
  cases hl : okR l with
  | false =>
    rw [hl] at HA
    clear hno
    go_wp2_with (go_at_call 18; refine HA.out.mono ?_; rintro e w1 ⟨rfl, hB1⟩)
    go_ret2
    exact ⟨rfl, hB1⟩
  | true =>
    rw [hl] at HA hno
    by_cases h1 : n < 0
    · clear hno
      go_wp2_with (go_at_call 18; refine HA.out.mono ?_; rintro e w1 ⟨rfl, hB1⟩)
      go_ret2
      exact ⟨rfl, hB1⟩
    · have h2 : 65536 < n := by rcases hno with h | h | h; cases h; exact absurd h h1; exact h
      clear hno
      go_wp2_with (go_at_call 18; refine HA.out.mono ?_; rintro e w1 ⟨rfl, hB1⟩)
      go_ret2
      exact ⟨rfl, hB1⟩
set_option maxRecDepth 100000 in
set_option maxHeartbeats 2000000 in
theorem rnot_ok {B : Nat} {v : Value} {l : List (Int × Int)} {w : World} (n : Nat) (h : Rd B w v l) (hB : B ≤ w.heap.size) (hl : okR l = true) (hn : n ≤ 65536) :
    Calls Try.prog 8 #[v, .int .i64 n] w fun e w' => ∃ x, e = .returned (.tuple #[x, .int .i64 0]) ∧ Own w' w.heap.size x (setUp (fun i => decide (i < n) && !mem l i) 65536) ∧ Below w.heap.size w w' := by
  obtain ⟨N, hN⟩ : ∃ N : Nat, 65536 = N := ⟨_, rfl⟩
  have HA := Lib.hid (rvalid_calls h hB)
  have HL := Lib.hid (fun (w1 : World) (hb : Below w.heap.size w w1) => lines_callsN N hN (h.below hb hB) (Nat.le_trans hB hb.size) hl)
  rw [hN]
  rw [hl] at HA
  have HN := Lib.hid hN
  have hn1 : ¬ (n : Int) < 0 := by omega
  have hn2 : ¬ 65536 < (n : Int) := by omega
  clear hl hN hn
  go_enter Try.func8, Try.ntmps8
  go_upto_region 4 with (go_at_call 18; refine HA.out.mono ?_; rintro e w1 ⟨rfl, hB3⟩)
  clear hn1 hn2
  go_wp2_with (go_at_call 19; refine (HL.out _ hB3).mono ?_; rintro e w3 ⟨b1, rfl, hb1, hc1', hB4⟩)
  have hB7 := hB3.trans (hB4.mono hB3.size)
  have hw1 : w.heap.size ≤ b1 := Nat.le_trans hB3.size hb1
  clear hB4 hB3 hb1
  have HE := Lib.hid (show ∀ k : Nat, (k : Int) < 65536 ↔ k < N from fun k => by have := HN.out; omega)
  go_loopw [8] (fun i wr => ∃ k : Nat, k ≤ N ∧ i = .int .i64 k ∧ wr.heap[b1]? = some (.cells (marks N (fun i => if i < k then decide (i < n) && !mem l i else mem l i)) 4 (0, 0)) ∧ Below w.heap.size w wr) (fun i _ => N - (intOf i).toNat)
  case atStart => exact ⟨0, Nat.zero_le _, rfl, by rw [hc1']; congr 2, hB7⟩
  case round =>
    obtain ⟨k, hk, rfl, hm1, hBr⟩ := hrel
    clear hc1' hB7
    by_cases hlt : (k : Int) < 65536
    · have hkN : k < N := (HE.out k).1 hlt
      have hkN' : (k : Int) < N := by omega
      have hcell1 := (cell_of hm1 k).trans (marks_get _ _ k hkN)
      rw [if_neg (Nat.lt_irrefl k)] at hcell1
      have hfz := frozen_of_row _ b1 k _ _ hm1
      have HK := Lib.hid hkN
      have HS : ∀ z : Bool, z = (decide (k < n) && !mem l k) → (wr.setCell ⟨b1, k, none⟩ (.bool z)).heap[b1]? = some (.cells (marks N (fun i => if i < k + 1 then decide (i < n) && !mem l i else mem l i)) 4 (0, 0)) := by
        intro z hz
        rw [heap_setCell_same _ _ _ _ _ _ hm1, marks_set _ _ _ hkN, hz]
        congr 2
        refine marks_congr fun i hi => ?_
        by_cases e : i = k
        · subst e
          rw [if_pos rfl, if_pos (Nat.lt_succ_self _)]
        · rw [if_neg e]
          by_cases h : i < k
          · rw [if_pos h, if_pos (by omega)]
          · rw [if_neg h, if_neg (by omega)]
      have hsb : ∀ z : Bool, Below w.heap.size w (wr.setCell ⟨b1, k, none⟩ (.bool z)) := fun z => hBr.setCell hw1 _
      have HSB := Lib.hid hsb
      have HS' := Lib.hid HS
      clear hm1 hkN hsb HS
      by_cases hkn : k < n
      · have hkn' : (k : Int) < n := by omega
        have HKN := Lib.hid hkn
        cases hx : mem l k <;> rw [hx] at hcell1
        all_goals
          rw [hx] at HS'
          clear hx
          go_wp2
          have hkN := HK.out
          have hkn := HKN.out
          refine ⟨⟨k + 1, hkN, by push_cast; rfl, HS'.out _ (by rw [decide_eq_true hkn]; rfl), HSB.out _⟩, ?_⟩
          simp only [intOf]; omega
      · have hkn' : ¬ (k : Int) < n := by omega
        have HKN := Lib.hid hkn
        go_wp2
        have hkN := HK.out
        have hkn := HKN.out
        refine ⟨⟨k + 1, hkN, by push_cast; rfl, HS'.out _ (by rw [decide_eq_false hkn]; rfl), HSB.out _⟩, ?_⟩
        simp only [intOf]; omega
    · have hkN : k = N := by
        have := HE.out k
        have h2 : ¬ k < N := fun h => hlt (this.2 h)
        omega
      subst hkN
      have HX := Lib.hid (show wr.heap[b1]? = some (.cells (marks k (fun i => decide (i < n) && !mem l i)) 4 (0, 0)) by
        rw [hm1]
        congr 2
        exact marks_congr fun i hi => by rw [if_pos hi])
      have HST := Lib.hid (set_calls (b := b1) (cap := k) HX.out (by have := HN.out; omega))
      clear hm1
      go_wp2_with (go_at_call 14; refine HST.out.mono ?_; rintro e w5 ⟨x, rfl, hO, hB8⟩)
      go_ret2
      exact ⟨x, rfl, own_mono hO hBr.size, hBr.trans (hB8.mono hBr.size)⟩
/-- Has of a set: whether line n is in one of its ranges. -/
def hasR (l : List (Int × Int)) (n : Int) : Bool := okR l && l.any fun r => decide (r.1 ≤ n) && decide (n < r.2)
set_option maxRecDepth 100000 in
set_option maxHeartbeats 2000000 in
theorem rhas_calls {B : Nat} {v : Value} {l : List (Int × Int)} {w : World} (n : Int) (h : Rd B w v l) (hB : B ≤ w.heap.size) :
    Calls Try.prog 11 #[v, .int .i64 n] w fun e w' => e = .returned (.bool (hasR l n)) ∧ Below w.heap.size w w' := by
  have HA := Lib.hid (rvalid_calls h hB)
  obtain ⟨ao, cap, rfl, h1, h2, h3⟩ := h
  have H3 := Lib.hid h3
  clear h3
  go_enter Try.func11, Try.ntmps11
  cases hl : okR l with
  | false =>
    rw [hl] at HA
    have HR := Lib.hid (show hasR l n = false by rw [hasR, hl]; rfl)
    clear hl
    go_wp2_with (go_at_call 18; refine HA.out.mono ?_; rintro e w1 ⟨rfl, hB1⟩)
    go_ret
    exact ⟨by rw [HR.out]; rfl, hB1⟩
  | true =>
    rw [hl] at HA
    have HR := Lib.hid (show hasR l n = l.any fun r => decide (r.1 ≤ n) && decide (n < r.2) by rw [hasR, hl]; rfl)
    clear hl
    go_wp2_with (go_at_call 18; refine HA.out.mono ?_; rintro e w1 ⟨rfl, hB1⟩)
    go_loopw [6] (fun i wr => ∃ k : Nat, k ≤ l.length ∧ i = .int .i64 k ∧ ((l.take k).any fun r => decide (r.1 ≤ n) && decide (n < r.2)) = false ∧ Below w.heap.size w wr) (fun i _ => l.length - (intOf i).toNat)
    case atStart => exact ⟨0, Nat.zero_le _, rfl, rfl, hB1⟩
    case round =>
      obtain ⟨k, hk, rfl, hany, hBr⟩ := hrel
      clear hB1
      by_cases hlt : k < l.length
      · obtain ⟨r, hr⟩ : ∃ r, l[k]? = some r := ⟨_, List.getElem?_eq_getElem hlt⟩
        obtain ⟨b, o, rfl, hb, c1, c2⟩ := H3.out k r hr
        have c1' := (World.cell?_of_block (hBr.block b (Nat.lt_of_lt_of_le hb hB))).trans c1
        have c2' := (World.cell?_of_block (hBr.block b (Nat.lt_of_lt_of_le hb hB))).trans c2
        have hlt' : (k : Int) < l.length := by omega
        have HN := Lib.hid (show ((l.take (k + 1)).any fun r => decide (r.1 ≤ n) && decide (n < r.2)) = (decide (r.1 ≤ n) && decide (n < r.2)) by
          rw [List.take_add_one, hr, List.any_append, hany]
          simp)
        have HM := Lib.hid (show (decide (r.1 ≤ n) && decide (n < r.2)) = true → (l.any fun r => decide (r.1 ≤ n) && decide (n < r.2)) = true from fun h => List.any_eq_true.2 ⟨r, List.mem_of_getElem? hr, h⟩)
        have HK := Lib.hid hlt
        have hw := wrap_succ hlt h1 h2
        have HW := Lib.hid hw
        clear hany hr hlt c1 c2 hw
        by_cases g1 : r.1 ≤ n
        · by_cases g2 : n < r.2
          · have HX := Lib.hid (HM.out (by rw [decide_eq_true g1, decide_eq_true g2]; rfl))
            go_wp2
            go_ret
            exact ⟨by rw [HR.out, HX.out]; rfl, hBr⟩
          · have HX := Lib.hid (HN.out.trans (by rw [decide_eq_false g2, Bool.and_false] : _ = false))
            go_wp2
            have hlt := HK.out
            refine ⟨⟨k + 1, hlt, by rw [HW.out], HX.out, hBr⟩, ?_⟩
            rw [HW.out]; simp only [intOf]; omega
        · have HX := Lib.hid (HN.out.trans (by rw [decide_eq_false g1, Bool.false_and] : _ = false))
          go_wp2
          have hlt := HK.out
          refine ⟨⟨k + 1, hlt, by rw [HW.out], HX.out, hBr⟩, ?_⟩
          rw [HW.out]; simp only [intOf]; omega
      · have hlt' : ¬ (k : Int) < l.length := by omega
        rw [List.take_of_length_le (by omega)] at hany
        have HX := Lib.hid hany
        clear hany
        go_wp2
        go_ret
        exact ⟨by rw [HR.out, HX.out]; rfl, hBr⟩
end Go.Proofs.Ytapojgbiboeaiaa
