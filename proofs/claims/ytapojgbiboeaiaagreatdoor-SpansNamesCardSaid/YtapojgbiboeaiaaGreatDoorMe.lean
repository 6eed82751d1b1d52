/- Meets says whether a set has one of some lines. -/
import Derived.Test.YtapojgbiboeaiaaGreatDoorHa
namespace Go.Proofs.YtapojgbiboeaiaaGreatDoor
set_option linter.unusedVariables false
set_option linter.unusedSimpArgs false
open Go.RowKit Rng
/-- Range r and the lines from x to y share one. -/
def cuts (x y : Int) (r : Int × Int) : Bool := decide (max r.1 x < min r.2 y)
set_option maxRecDepth 100000 in
set_option maxHeartbeats 1000000 in
theorem meets1_calls (r : Int × Int) (x y : Int) (C D : Nat) (W : World) (hc : W.cell? ⟨C, 0, none⟩ = some (.int .i64 x)) (hd : W.cell? ⟨D, 0, none⟩ = some (.int .i64 y)) (hC : C < W.heap.size) (hD : D < W.heap.size) :
    Calls Tryz.prog 24 #[.agg #[.int .i64 r.1, .int .i64 r.2], .pointer (some ⟨C, 0, none⟩), .pointer (some ⟨D, 0, none⟩)] W fun e w' => e = .returned (.bool (cuts x y r)) ∧ Below W.heap.size W w' := by
  unfold cuts
  go_enter Tryz.func24, Tryz.ntmps24
  go_wp2
  all_goals
    go_ret
    refine ⟨?_, (Below.refl _ W).alloc (Nat.le_refl _) _⟩
    refine congrArg (fun b => Ending.returned (.bool b)) (decide_eq_decide.2 ?_)
    omega
def indexM (x y : Int) (l : List (Int × Int)) : Bool := l.any (cuts x y)
set_option maxRecDepth 100000 in
set_option maxHeartbeats 1000000 in
theorem indexm_calls {B : Nat} {v : Value} {l : List (Int × Int)} {w : World} (x y : Int) (C D : Nat) (h : Rd B w v l) (hB : B ≤ w.heap.size) (hc : w.cell? ⟨C, 0, none⟩ = some (.int .i64 x)) (hC : C < w.heap.size) (hd : w.cell? ⟨D, 0, none⟩ = some (.int .i64 y)) (hD : D < w.heap.size) :
    Calls Tryz.prog 40 #[v, .func (.func 24) #[] #[.pointer (some ⟨C, 0, none⟩), .pointer (some ⟨D, 0, none⟩)]] w fun e w' => (∃ z : Int, e = .returned (.int .i64 z) ∧ decide (0 ≤ z) = l.any (cuts x y)) ∧ Below w.heap.size w w' := by
  obtain ⟨ao, cap, rfl, h1, h2, h3⟩ := h
  have H3 := Lib.hid h3
  have HC := Lib.hid (fun (W : World) (hb : Below w.heap.size w W) (r : Int × Int) => meets1_calls r x y C D W ((World.cell?_of_block (hb.block C hC)).trans hc) ((World.cell?_of_block (hb.block D hD)).trans hd) (Nat.lt_of_lt_of_le hC hb.size) (Nat.lt_of_lt_of_le hD hb.size))
  clear h3 hc hd
  go_enter Tryz.func40, Tryz.ntmps40
  go_wp2
  go_loopw [8] (fun i wr => ∃ k : Nat, k ≤ l.length ∧ i = .int .i64 k ∧ ((l.take k).any (cuts x y)) = false ∧ Below w.heap.size w wr) (fun i _ => l.length - (intOf i).toNat)
  case atStart => exact ⟨0, Nat.zero_le _, rfl, rfl, Below.refl _ _⟩
  case round =>
    obtain ⟨k, hk, rfl, hany, hBr⟩ := hrel
    by_cases hlt : k < l.length
    · obtain ⟨r, hr⟩ : ∃ r, l[k]? = some r := ⟨_, List.getElem?_eq_getElem hlt⟩
      obtain ⟨b, o, rfl, hb, c1, c2⟩ := H3.out k r hr
      have c1' := (World.cell?_of_block (hBr.block b (Nat.lt_of_lt_of_le hb hB))).trans c1
      have c2' := (World.cell?_of_block (hBr.block b (Nat.lt_of_lt_of_le hb hB))).trans c2
      have hlt' : (k : Int) < l.length := by omega
      have HN := Lib.hid (show ((l.take (k + 1)).any (cuts x y)) = cuts x y r by
        rw [List.take_add_one, hr, List.any_append, hany]
        simp)
      have HM := Lib.hid (show cuts x y r = true → (l.any (cuts x y)) = true from fun h => List.any_eq_true.2 ⟨r, List.mem_of_getElem? hr, h⟩)
      have HK := Lib.hid hlt
      have hw := wrap_succ hlt h1 h2
      have HW := Lib.hid hw
      have hcl := HC.out _ hBr r
      obtain ⟨z, hz⟩ : ∃ z, cuts x y r = z := ⟨_, rfl⟩
      rw [hz] at HN HM hcl
      have HCL := Lib.hid hcl
      clear hany hr hlt c1 c2 hw hz hcl
      cases z
      · go_wp2_with (go_at_call 24; refine HCL.out.mono ?_; rintro e w2 ⟨rfl, hB2⟩)
        have hlt := HK.out
        go_roundw
        case rel => exact ⟨k + 1, hlt, by rw [HW.out], HN.out, hBr.trans (hB2.mono hBr.size)⟩
        case measure => rw [HW.out]; simp only [intOf]; omega
      · have HX := Lib.hid (HM.out rfl)
        go_wp2_with (go_at_call 24; refine HCL.out.mono ?_; rintro e w2 ⟨rfl, hB2⟩)
        go_ret
        exact ⟨⟨k, rfl, by rw [HX.out]; simp⟩, hBr.trans (hB2.mono hBr.size)⟩
    · have hlt' : ¬ (k : Int) < l.length := by omega
      rw [List.take_of_length_le (by omega)] at hany
      have HX := Lib.hid hany
      clear hany
      go_wp2
      go_ret
      exact ⟨⟨-1, rfl, by rw [HX.out]; rfl⟩, hBr⟩
set_option maxRecDepth 100000 in
set_option maxHeartbeats 1000000 in
theorem containsm_calls {B : Nat} {v : Value} {l : List (Int × Int)} {w : World} (x y : Int) (C D : Nat) (h : Rd B w v l) (hB : B ≤ w.heap.size) (hc : w.cell? ⟨C, 0, none⟩ = some (.int .i64 x)) (hC : C < w.heap.size) (hd : w.cell? ⟨D, 0, none⟩ = some (.int .i64 y)) (hD : D < w.heap.size) :
    Calls Tryz.prog 23 #[v, .func (.func 24) #[] #[.pointer (some ⟨C, 0, none⟩), .pointer (some ⟨D, 0, none⟩)]] w fun e w' => e = .returned (.bool (l.any (cuts x y))) ∧ Below w.heap.size w w' := by
  have HI := Lib.hid (indexm_calls x y C D h hB hc hC hd hD)
  clear h hc hd
  obtain ⟨a, ha⟩ : ∃ a, l.any (cuts x y) = a := ⟨_, rfl⟩
  rw [ha] at HI ⊢
  clear ha
  go_enter Tryz.func23, Tryz.ntmps23
  go_wp2_with (go_at_call 40; refine HI.out.mono ?_; rintro e w1 ⟨⟨z, rfl, hz⟩, hB1⟩)
  go_ret
  exact ⟨by rw [← hz]; rfl, hB1⟩
/-- Meets: from one line on to another. -/
def meetsR (l : List (Int × Int)) (x y : Int) : Bool := if x = y then hasR l x || (decide (0 < x) && hasR l (x - 1)) else okR l && l.any (cuts x y)
set_option maxRecDepth 100000 in
set_option maxHeartbeats 1000000 in
theorem meets_calls {B : Nat} {v : Value} {l : List (Int × Int)} {w : World} (x y : Int) (h : Rd B w v l) (hB : B ≤ w.heap.size) (hx : 0 < x → wrap64 (x - 1) = x - 1) :
    Calls Tryz.prog 10 #[v, .int .i64 x, .int .i64 y] w fun e w' => e = .returned (.bool (meetsR l x y)) ∧ Below w.heap.size w w' := by
  have HV := Lib.hid (fun (W : World) (hb : Below w.heap.size w W) => valid_calls (h.below hb hB) (Nat.le_trans hB hb.size))
  have HH := Lib.hid (fun (W : World) (hb : Below w.heap.size w W) => has_calls x (h.below hb hB) (Nat.le_trans hB hb.size))
  have HG := Lib.hid (fun (W : World) (hb : Below w.heap.size w W) => has_calls (x - 1) (h.below hb hB) (Nat.le_trans hB hb.size))
  have HK := Lib.hid (fun (W : World) (C D : Nat) (hb : Below w.heap.size w W) (hc : W.cell? ⟨C, 0, none⟩ = some (.int .i64 x)) (hC : C < W.heap.size) (hd : W.cell? ⟨D, 0, none⟩ = some (.int .i64 y)) (hD : D < W.heap.size) => containsm_calls x y C D (h.below hb hB) (Nat.le_trans hB hb.size) hc hC hd hD)
  have HWX := Lib.hid hx
  clear h hx
  go_enter Tryz.func10, Tryz.ntmps10
  go_upto_region 1 with fail
  obtain ⟨W0, hW0⟩ : ∃ W0, (w.alloc (.cells #[.int .i64 x] 3)).alloc (.cells #[.int .i64 y] 3) = W0 := ⟨_, rfl⟩
  have hb0 : W0.heap[w.heap.size]? = some (.cells #[.int .i64 x] 3 (0, 0)) := by rw [← hW0]; exact (Below.heap_alloc _ _ _ (by simp)).trans (World.alloc_heap_new w _)
  have hb1 : W0.heap[w.heap.size + 1]? = some (.cells #[.int .i64 y] 3 (0, 0)) := by rw [← hW0]; have := World.alloc_heap_new (w.alloc (.cells #[.int .i64 x] 3)) (.cells #[.int .i64 y] 3); rwa [World.size_alloc] at this
  have hB0 : Below w.heap.size w W0 := by rw [← hW0]; exact ((Below.refl _ w).alloc (Nat.le_refl _) _).alloc (by simp) _
  change Code.wp _ _ _ _ ((w.alloc (.cells #[.int .i64 x] 3)).alloc (.cells #[.int .i64 y] 3))
  rw [hW0]
  clear hW0
  have hc1 := cell_of hb0 0
  have hc2 := cell_of hb1 0
  have HC1 := Lib.hid hb0
  have HC2 := Lib.hid hb1
  clear hb0 hb1
  by_cases hxy : x = y
  · subst hxy
    have HR := Lib.hid (show meetsR l x x = (hasR l x || (decide (0 < x) && hasR l (x - 1))) by unfold meetsR; rw [if_pos rfl])
    have HH0 := HH.out _ hB0
    cases hl : hasR l x with
    | true =>
      rw [hl] at HH0 HR
      have HH1 := Lib.hid HH0
      clear hl HH0
      go_wp2_with (go_at_call 11; refine HH1.out.mono ?_; rintro e w1 ⟨rfl, hB1⟩)
      go_ret
      exact ⟨by rw [HR.out]; rfl, hB0.trans (hB1.mono hB0.size)⟩
    | false =>
      rw [hl] at HH0 HR
      have HH1 := Lib.hid HH0
      clear hl HH0
      by_cases hp : 0 < x
      · rw [decide_eq_true hp] at HR
        have hw := HWX.out hp
        obtain ⟨u, hu⟩ : ∃ u, x - 1 = u := ⟨_, rfl⟩
        have HW1 := Lib.hid hw
        rw [hu] at HR HG hw
        obtain ⟨z, hz⟩ : ∃ z, hasR l u = z := ⟨_, rfl⟩
        rw [hz] at HR HG
        clear hz HW1
        have hs0 := hB0.size
        go_wp2_with (first | (go_at_call 11; refine HH1.out.mono ?_; clear HH1; rintro e w1 ⟨rfl, hB1⟩; have hc3 := (hB1.cell (p := ⟨w.heap.size, 0, none⟩) (Array.getElem?_eq_some_iff.1 HC1.out).1).trans hc1) | (go_at_call 11; refine (HG.out w1 (hB0.trans (hB1.mono hs0))).mono ?_; rintro e w2 ⟨rfl, hB2⟩))
        go_ret
        exact ⟨by rw [HR.out]; rfl, (hB0.trans (hB1.mono hs0)).trans (hB2.mono (Nat.le_trans hs0 hB1.size))⟩
      · rw [decide_eq_false hp] at HR
        have hs0 := hB0.size
        clear HG
        go_wp2_with (go_at_call 11; refine HH1.out.mono ?_; clear HH1; rintro e w1 ⟨rfl, hB1⟩; have hc3 := (hB1.cell (p := ⟨w.heap.size, 0, none⟩) (Array.getElem?_eq_some_iff.1 HC1.out).1).trans hc1)
        go_ret
        exact ⟨by rw [HR.out]; rfl, hB0.trans (hB1.mono hs0)⟩
  · have HR := Lib.hid (show meetsR l x y = (okR l && l.any (cuts x y)) by unfold meetsR; rw [if_neg hxy])
    have hne : (x == y) = false := by simpa using hxy
    have HV0 := HV.out _ hB0
    cases hl : okR l with
    | false =>
      rw [hl] at HR HV0
      have HV1 := Lib.hid HV0
      clear hl HV0
      go_wp2_with (go_at_call 17; refine HV1.out.mono ?_; rintro e w1 ⟨rfl, hB1⟩)
      go_ret
      exact ⟨by rw [HR.out]; rfl, hB0.trans (hB1.mono hB0.size)⟩
    | true =>
      rw [hl] at HR HV0
      have HV1 := Lib.hid HV0
      clear hl HV0
      obtain ⟨a, ha⟩ : ∃ a, (l.any (cuts x y)) = a := ⟨_, rfl⟩
      rw [ha] at HK HR
      clear ha
      go_wp2_with (first | (go_at_call 17; refine HV1.out.mono ?_; rintro e w1 ⟨rfl, hB1⟩) | (go_at_call 23; refine (HK.out w1 w.heap.size (w.heap.size + 1) (hB0.trans (hB1.mono hB0.size)) ((cell_of ((hB1.block _ (Array.getElem?_eq_some_iff.1 HC1.out).1).trans HC1.out) 0).trans rfl) (Nat.lt_of_lt_of_le (Array.getElem?_eq_some_iff.1 HC1.out).1 hB1.size) ((cell_of ((hB1.block _ (Array.getElem?_eq_some_iff.1 HC2.out).1).trans HC2.out) 0).trans rfl) (Nat.lt_of_lt_of_le (Array.getElem?_eq_some_iff.1 HC2.out).1 hB1.size)).mono ?_; rintro e w2 ⟨rfl, hB2⟩))
      go_ret
      exact ⟨by rw [HR.out]; rfl, (hB0.trans (hB1.mono hB0.size)).trans (hB2.mono (Nat.le_trans hB0.size hB1.size))⟩
end Go.Proofs.YtapojgbiboeaiaaGreatDoor
