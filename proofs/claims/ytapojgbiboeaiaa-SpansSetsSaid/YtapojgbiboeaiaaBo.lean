/- The reference's Both: the ranges of the lines that are in both of two sets, or in one of them; or an error where one is no set. -/
import Derived.Test.YtapojgbiboeaiaaSet
namespace Go.Proofs.Ytapojgbiboeaiaa
set_option linter.unusedVariables false
set_option linter.unusedSimpArgs false
open Go.RowKit Rng
theorem lines_callsN {B : Nat} {v : Value} {l : List (Int × Int)} {w : World} (N : Nat) (hN : 65536 = N) (h : Rd B w v l) (hB : B ≤ w.heap.size) (hok : okR l = true) :
    Calls Try.prog 19 #[v] w fun e w' => ∃ b, e = .returned (.slice (some ⟨b, 0, none⟩) N N) ∧ w.heap.size ≤ b ∧ w'.heap[b]? = some (.cells (marks N (mem l)) 4 (0, 0)) ∧ Below w.heap.size w w' := by
  subst hN
  exact lines_calls h hB hok
theorem blt {w : World} {b : Nat} {o : Obj} (h : w.heap[b]? = some o) : b < w.heap.size := (Array.getElem?_eq_some_iff.1 h).1
set_option maxRecDepth 100000 in
set_option maxHeartbeats 2000000 in
theorem both_no {B C : Nat} {v u : Value} {l m : List (Int × Int)} {w : World} (and : Bool) (h : Rd B w v l) (hB : B ≤ w.heap.size) (h' : Rd C w u m) (hC : C ≤ w.heap.size) (hno : (okR l && okR m) = false) :
    Calls Try.prog 5 #[v, u, .bool and] w fun e w' => e = .returned (.tuple #[.slice none 0 0, .int .i64 2]) ∧ Below w.heap.size w w' := by
  have HA := Lib.hid (rvalid_calls h hB)
  have HV := Lib.hid (fun (w1 : World) (hb : Below w.heap.size w w1) => rvalid_calls (h'.below hb hC) (Nat.le_trans hC hb.size))
  go_enter Try.func5, Try.ntmps5
  cases hl : okR l with
  | false =>
    rw [hl] at HA
    clear hno
    go_upto_region 2 with (go_at_call 18; refine HA.out.mono ?_; rintro e w1 ⟨rfl, hB1⟩)
    go_wp2_with (go_at_call 18; refine (HV.out _ hB1).mono ?_; rintro e w2 ⟨rfl, hB2⟩)
    go_ret2
    exact ⟨rfl, hB1.trans (hB2.mono hB1.size)⟩
  | true =>
    have hm : okR m = false := by rw [hl] at hno; simpa using hno
    rw [hl] at HA
    rw [hm] at HV
    clear hno
    go_upto_region 2 with (go_at_call 18; refine HA.out.mono ?_; rintro e w1 ⟨rfl, hB1⟩)
    go_wp2_with (go_at_call 18; refine (HV.out _ hB1).mono ?_; rintro e w2 ⟨rfl, hB2⟩)
    go_ret2
    exact ⟨rfl, hB1.trans (hB2.mono hB1.size)⟩
/-- And, or or. -/
def andOr (and x y : Bool) : Bool := if and then x && y else x || y
set_option maxRecDepth 100000 in
set_option maxHeartbeats 2000000 in
theorem both_ok {B C : Nat} {v u : Value} {l m : List (Int × Int)} {w : World} (and : Bool) (h : Rd B w v l) (hB : B ≤ w.heap.size) (h' : Rd C w u m) (hC : C ≤ w.heap.size) (hl : okR l = true) (hm : okR m = true) :
    Calls Try.prog 5 #[v, u, .bool and] w fun e w' => ∃ x, e = .returned (.tuple #[x, .int .i64 0]) ∧ Own w' w.heap.size x (setUp (fun i => andOr and (mem l i) (mem m i)) 65536) ∧ Below w.heap.size w w' := by
  obtain ⟨N, hN⟩ : ∃ N : Nat, 65536 = N := ⟨_, rfl⟩
  have HA := Lib.hid (rvalid_calls h hB)
  have HV := Lib.hid (fun (w1 : World) (hb : Below w.heap.size w w1) => rvalid_calls (h'.below hb hC) (Nat.le_trans hC hb.size))
  have HL := Lib.hid (fun (w1 : World) (hb : Below w.heap.size w w1) => lines_callsN N hN (h.below hb hB) (Nat.le_trans hB hb.size) hl)
  have HM := Lib.hid (fun (w1 : World) (hb : Below w.heap.size w w1) => lines_callsN N hN (h'.below hb hC) (Nat.le_trans hC hb.size) hm)
  rw [hN]
  rw [hl] at HA
  rw [hm] at HV
  have HN := Lib.hid hN
  clear hl hm hN
  go_enter Try.func5, Try.ntmps5
  go_upto_region 2 with (go_at_call 18; refine HA.out.mono ?_; rintro e w1 ⟨rfl, hB1⟩)
  go_upto_region 5 with (go_at_call 18; refine (HV.out _ hB1).mono ?_; rintro e w2 ⟨rfl, hB2⟩)
  have hB3 := hB1.trans (hB2.mono hB1.size)
  clear hB1 hB2
  go_upto_region 6 with (go_at_call 19; refine (HL.out _ hB3).mono ?_; rintro e w3 ⟨b1, rfl, hb1, hc1, hB4⟩)
  have hB5 := hB3.trans (hB4.mono hB3.size)
  have hs1 := hB3.size
  go_wp2_with (go_at_call 19; refine (HM.out _ hB5).mono ?_; rintro e w4 ⟨b2, rfl, hb2, hc2, hB6⟩)
  have hB7 := hB5.trans (hB6.mono hB5.size)
  have hc1' := (hB6.block b1 (blt hc1)).trans hc1
  have h12 : b1 < b2 := Nat.lt_of_lt_of_le (blt hc1) hb2
  have hw1 : w.heap.size ≤ b1 := Nat.le_trans hs1 hb1
  clear hB4 hB3 hB6 hc1 hs1 hb1 hB5
  have HE := Lib.hid (show ∀ k : Nat, (k : Int) < 65536 ↔ k < N from fun k => by have := HN.out; omega)
  go_loopw [12] (fun i wr => ∃ k : Nat, k ≤ N ∧ i = .int .i64 k ∧ wr.heap[b1]? = some (.cells (marks N (fun i => if i < k then andOr and (mem l i) (mem m i) else mem l i)) 4 (0, 0)) ∧ wr.heap[b2]? = some (.cells (marks N (mem m)) 4 (0, 0)) ∧ Below w.heap.size w wr) (fun i _ => N - (intOf i).toNat)
  case atStart => exact ⟨0, Nat.zero_le _, rfl, by rw [hc1']; congr 2, hc2, hB7⟩
  case round =>
    obtain ⟨k, hk, rfl, hm1, hm2, hBr⟩ := hrel
    clear hc1' hc2 hB7
    by_cases hlt : (k : Int) < 65536
    · have hkN : k < N := (HE.out k).1 hlt
      have hkN' : (k : Int) < N := by omega
      have hcell1 := (cell_of hm1 k).trans (marks_get _ _ k hkN)
      have hcell2 := (cell_of hm2 k).trans (marks_get _ _ k hkN)
      rw [if_neg (Nat.lt_irrefl k)] at hcell1
      have hfz := frozen_of_row _ b1 k _ _ hm1
      have HM1 := Lib.hid hm1
      have HM2 := Lib.hid hm2
      have HK := Lib.hid hkN
      have HS : ∀ z : Bool, z = andOr and (mem l k) (mem m k) → (wr.setCell ⟨b1, k, none⟩ (.bool z)).heap[b1]? = some (.cells (marks N (fun i => if i < k + 1 then andOr and (mem l i) (mem m i) else mem l i)) 4 (0, 0)) := by
        intro z hz
        rw [heap_setCell_same _ _ _ _ _ _ hm1, marks_set _ _ _ hkN, hz]
        congr 2
        refine marks_congr fun i hi => ?_
        by_cases e : i = k
        · subst e
          rw [if_pos rfl, if_pos (Nat.lt_succ_self _)]
        · rw [if_neg e]
          by_cases h : i < k
          · rw [if_pos h, if_pos (by omega)]
          · rw [if_neg h, if_neg (by omega)]
      have HS2 : ∀ z : Bool, (wr.setCell ⟨b1, k, none⟩ (.bool z)).heap[b2]? = some (.cells (marks N (mem m)) 4 (0, 0)) := fun z => (Below.heap_setCell _ _ _ _ (Nat.ne_of_gt h12)).trans hm2
      have hsb : Below w.heap.size w (wr.setCell ⟨b1, k, none⟩ (.bool (andOr and (mem l k) (mem m k)))) := hBr.setCell hw1 _
      have HSB := Lib.hid hsb
      have HS' := Lib.hid HS
      have HS2' := Lib.hid HS2
      clear hm1 hm2 hkN hsb HS HS2
      cases and <;> cases hx : mem l k <;> cases hy : mem m k <;> rw [hx] at hcell1 <;> rw [hy] at hcell2
      all_goals
        rw [hx, hy] at HS' HSB
        clear hx hy
        go_wp2
        have hkN := HK.out
        refine ⟨⟨k + 1, hkN, by push_cast; rfl, HS'.out _ rfl, HS2'.out _, HSB.out⟩, ?_⟩
        simp only [intOf]; omega
    · have hkN : k = N := by
        have := HE.out k
        have h2 : ¬ k < N := fun h => hlt (this.2 h)
        omega
      subst hkN
      have HX := Lib.hid (show wr.heap[b1]? = some (.cells (marks k (fun i => andOr and (mem l i) (mem m i))) 4 (0, 0)) by
        rw [hm1]
        congr 2
        exact marks_congr fun i hi => by rw [if_pos hi])
      have HST := Lib.hid (set_calls (b := b1) (cap := k) HX.out (by have := HN.out; omega))
      clear hm1 hm2
      go_wp2_with (go_at_call 14; refine HST.out.mono ?_; rintro e w5 ⟨x, rfl, hO, hB8⟩)
      go_ret2
      exact ⟨x, rfl, own_mono hO hBr.size, hBr.trans (hB8.mono hBr.size)⟩
end Go.Proofs.Ytapojgbiboeaiaa
