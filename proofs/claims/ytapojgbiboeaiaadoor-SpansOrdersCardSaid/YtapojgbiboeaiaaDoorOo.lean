/- SpansOrders' walk: whatever the ranges, the law returns true. Conditions: the arguments are readable slices; the library's variables are as they are laid. -/
import Derived.Test.YtapojgbiboeaiaaDoorAl
import Derived.Test.YtapojgbiboeaiaaDoorLc
import Derived.Test.YtapojgbiboeaiaaDoorPq
namespace Go.Proofs.YtapojgbiboeaiaaDoor
set_option linter.unusedVariables false
set_option linter.unusedSimpArgs false
open Go.RowKit Rng
theorem pairC_zero {l m : List (Int × Int)} (h : pairC l m = 0) : okR l = true ∧ okR m = true := by
  cases hok : okR l && okR m with
  | true => rwa [Bool.and_eq_true] at hok
  | false => rw [pairC_no hok] at h; omega
set_option maxRecDepth 100000 in
set_option maxHeartbeats 4000000 in
theorem orders_true {B : Nat} {va vb vc : Value} {l m k : List (Int × Int)} {W : World} (ha : RIn W va l) (hb : RIn W vb m) (hc : RIn W vc k) (hB : B ≤ W.heap.size) (ht : Env B W) :
    Calls Tryd.prog 6 #[va, vb, vc] W fun e W' => e = .returned (.bool true) ∧ Below W.heap.size W W' := by
  have HL := Lib.hid (alive_calls W hB ht)
  have HA := Lib.hid ha
  have HB := Lib.hid hb
  have HC := Lib.hid hc
  obtain ⟨a1, c1, rfl, q1⟩ := ha
  obtain ⟨a2, c2, rfl, q2⟩ := hb
  obtain ⟨a3, c3, rfl, q3⟩ := hc
  obtain ⟨p, hp⟩ : ∃ p, l.length = p := ⟨_, rfl⟩
  obtain ⟨q, hq⟩ : ∃ q, m.length = q := ⟨_, rfl⟩
  obtain ⟨s, hs⟩ : ∃ s, k.length = s := ⟨_, rfl⟩
  rw [hp] at HA ⊢
  rw [hq] at HB ⊢
  rw [hs] at HC ⊢
  have HP := Lib.hid hp
  have HQ := Lib.hid hq
  have HS := Lib.hid hs
  clear q1 q2 q3 hp hq hs ht hB
  go_enter Tryd.func6, Tryd.ntmps6
  go_upto_region 2 with (go_at_call 13; refine HL.out.mono ?_; rintro e w1 ⟨rfl, hB1⟩)
  by_cases g1 : 50 < p
  · have g1' : 50 < (p : Int) := by omega
    go_wp2
    go_ret
    exact ⟨rfl, hB1⟩
  have g1' : ¬ 50 < (p : Int) := by omega
  by_cases g2 : 50 < q
  · have g2' : 50 < (q : Int) := by omega
    go_wp2
    go_ret
    exact ⟨rfl, hB1⟩
  have g2' : ¬ 50 < (q : Int) := by omega
  by_cases g3 : 50 < s
  · have g3' : 50 < (s : Int) := by omega
    go_wp2
    go_ret
    exact ⟨rfl, hB1⟩
  have g3' : ¬ 50 < (s : Int) := by omega
  go_upto_region 4 with fail
  have LL := Lib.hid (show l.length ≤ 50 by rw [HP.out]; omega)
  have LM := Lib.hid (show m.length ≤ 50 by rw [HQ.out]; omega)
  have LK := Lib.hid (show k.length ≤ 50 by rw [HS.out]; omega)
  have HA := Lib.hid (HA.out.later hB1)
  have HB := Lib.hid (HB.out.later hB1)
  have HC := Lib.hid (HC.out.later hB1)
  have HW := Lib.hid hB1
  clear g1' g2' g3' g1 g2 g3 hB1 HL
  have K2 := Lib.hid (or_any HA.out (Nat.le_refl _) HB.out (Nat.le_refl _) (Nat.le_trans LL.out (by omega)) (Nat.le_trans LM.out (by omega)))
  go_upto_region 5 with (go_at_call 18; refine K2.out.mono ?_; rintro e w2 ⟨x2, rfl, o2, b2⟩)
  have HA := Lib.hid (HA.out.later b2)
  have HB := Lib.hid (HB.out.later b2)
  have HC := Lib.hid (HC.out.later b2)
  have R1 := Lib.hid (show RIn w2 x2 (pairL false (l) (m)) from own_rd o2)
  have HW := Lib.hid (HW.out.trans (b2.mono HW.out.size))
  clear K2 o2 b2
  have K3 := Lib.hid (or_any HB.out (Nat.le_refl _) HA.out (Nat.le_refl _) (Nat.le_trans LM.out (by omega)) (Nat.le_trans LL.out (by omega)))
  go_upto_region 6 with (go_at_call 18; refine K3.out.mono ?_; rintro e w3 ⟨x3, rfl, o3, b3⟩)
  have HA := Lib.hid (HA.out.later b3)
  have HB := Lib.hid (HB.out.later b3)
  have HC := Lib.hid (HC.out.later b3)
  have R1 := Lib.hid (R1.out.later b3)
  have R2 := Lib.hid (show RIn w3 x3 (pairL false l m) from by have h := own_rd o3; rwa [pairL_comm] at h)
  have HW := Lib.hid (HW.out.trans (b3.mono HW.out.size))
  clear K3 o3 b3
  have K4 := Lib.hid (and_any HA.out (Nat.le_refl _) HB.out (Nat.le_refl _) (Nat.le_trans LL.out (by omega)) (Nat.le_trans LM.out (by omega)))
  go_upto_region 7 with (go_at_call 16; refine K4.out.mono ?_; rintro e w4 ⟨x4, rfl, o4, b4⟩)
  have HA := Lib.hid (HA.out.later b4)
  have HB := Lib.hid (HB.out.later b4)
  have HC := Lib.hid (HC.out.later b4)
  have R1 := Lib.hid (R1.out.later b4)
  have R2 := Lib.hid (R2.out.later b4)
  have R3 := Lib.hid (show RIn w4 x4 (pairL true (l) (m)) from own_rd o4)
  have HW := Lib.hid (HW.out.trans (b4.mono HW.out.size))
  clear K4 o4 b4
  have K5 := Lib.hid (and_any HB.out (Nat.le_refl _) HA.out (Nat.le_refl _) (Nat.le_trans LM.out (by omega)) (Nat.le_trans LL.out (by omega)))
  go_upto_region 8 with (go_at_call 16; refine K5.out.mono ?_; rintro e w5 ⟨x5, rfl, o5, b5⟩)
  have HA := Lib.hid (HA.out.later b5)
  have HB := Lib.hid (HB.out.later b5)
  have HC := Lib.hid (HC.out.later b5)
  have R1 := Lib.hid (R1.out.later b5)
  have R2 := Lib.hid (R2.out.later b5)
  have R3 := Lib.hid (R3.out.later b5)
  have R4 := Lib.hid (show RIn w5 x5 (pairL true l m) from by have h := own_rd o5; rwa [pairL_comm] at h)
  have HW := Lib.hid (HW.out.trans (b5.mono HW.out.size))
  clear K5 o5 b5
  rw [pairC_comm m l]
  obtain ⟨c, hc⟩ : ∃ c, pairC l m = c := ⟨_, rfl⟩
  rw [hc]
  have HCC := Lib.hid hc
  clear hc
  have S1 := Lib.hid (same_in R1.out R2.out)
  have S2 := Lib.hid (fun (w' : World) (b : Below w5.heap.size w5 w') => same_in (R3.out.later b) (R4.out.later b))
  go_upto_region 10 with (first | (go_at_call 12; refine S1.out.mono ?_; clear S1; rintro e y1 ⟨rfl, d1⟩) | (go_at_call 12; refine (S2.out _ d1).mono ?_; clear S2; rintro e y2 ⟨rfl, e2⟩; have d2 := d1.trans (e2.mono d1.size)))
  clear R2 R4
  have HA := Lib.hid (HA.out.later d2)
  have HB := Lib.hid (HB.out.later d2)
  have HC := Lib.hid (HC.out.later d2)
  have R1 := Lib.hid (R1.out.later d2)
  have R3 := Lib.hid (R3.out.later d2)
  have HW := Lib.hid (HW.out.trans (d2.mono HW.out.size))
  clear d1 d2 e2
  have K6 := Lib.hid (or_any HB.out (Nat.le_refl _) HC.out (Nat.le_refl _) (Nat.le_trans LM.out (by omega)) (Nat.le_trans LK.out (by omega)))
  go_upto_region 11 with (go_at_call 18; refine K6.out.mono ?_; rintro e w6 ⟨x6, rfl, o6, b6⟩)
  have HA := Lib.hid (HA.out.later b6)
  have HB := Lib.hid (HB.out.later b6)
  have HC := Lib.hid (HC.out.later b6)
  have R1 := Lib.hid (R1.out.later b6)
  have R3 := Lib.hid (R3.out.later b6)
  have R5 := Lib.hid (show RIn w6 x6 (pairL false (m) (k)) from own_rd o6)
  have HW := Lib.hid (HW.out.trans (b6.mono HW.out.size))
  clear K6 o6 b6
  obtain ⟨c', hc⟩ : ∃ c, pairC m k = c := ⟨_, rfl⟩
  rw [hc]
  by_cases e1 : ¬ c = 0
  · clear hc
    go_wp2
    go_ret
    exact ⟨rfl, HW.out⟩
  have e1 := Decidable.not_not.1 e1
  by_cases e2 : ¬ c' = 0
  · clear hc
    go_wp2
    go_ret
    exact ⟨rfl, HW.out⟩
  have e2 := Decidable.not_not.1 e2
  subst e1 e2
  obtain ⟨hl, hm⟩ := pairC_zero HCC.out
  obtain ⟨_, hk⟩ := pairC_zero hc
  have OL := Lib.hid hl
  have OM := Lib.hid hm
  have OK := Lib.hid hk
  have LAB := Lib.hid (show (pairL false l m).length ≤ 100 from Nat.le_trans (pair_length _ _ _) (by have := LL.out; have := LM.out; omega))
  have LX := Lib.hid (show (pairL true l m).length ≤ 100 from Nat.le_trans (pair_length _ _ _) (by have := LL.out; have := LM.out; omega))
  have LBC := Lib.hid (show (pairL false m k).length ≤ 100 from Nat.le_trans (pair_length _ _ _) (by have := LM.out; have := LK.out; omega))
  have LAC := Lib.hid (show (pairL true l k).length ≤ 100 from Nat.le_trans (pair_length _ _ _) (by have := LL.out; have := LK.out; omega))
  clear hc hl hm hk HCC
  go_upto_region 13 with fail
  have K7 := Lib.hid (or_any HA.out (Nat.le_refl _) HA.out (Nat.le_refl _) (Nat.le_trans LL.out (by omega)) (Nat.le_trans LL.out (by omega)))
  go_upto_region 14 with (go_at_call 18; refine K7.out.mono ?_; rintro e w7 ⟨x7, rfl, o7, b7⟩)
  have HA := Lib.hid (HA.out.later b7)
  have HB := Lib.hid (HB.out.later b7)
  have HC := Lib.hid (HC.out.later b7)
  have R1 := Lib.hid (R1.out.later b7)
  have R3 := Lib.hid (R3.out.later b7)
  have R5 := Lib.hid (R5.out.later b7)
  have T1 := Lib.hid (show RIn w7 x7 (l) from by have h := own_rd o7; rwa [pair_self false OL.out] at h)
  have HW := Lib.hid (HW.out.trans (b7.mono HW.out.size))
  clear K7 o7 b7
  have K8 := Lib.hid (and_any HA.out (Nat.le_refl _) HA.out (Nat.le_refl _) (Nat.le_trans LL.out (by omega)) (Nat.le_trans LL.out (by omega)))
  go_upto_region 15 with (go_at_call 16; refine K8.out.mono ?_; rintro e w8 ⟨x8, rfl, o8, b8⟩)
  have HA := Lib.hid (HA.out.later b8)
  have HB := Lib.hid (HB.out.later b8)
  have HC := Lib.hid (HC.out.later b8)
  have R1 := Lib.hid (R1.out.later b8)
  have R3 := Lib.hid (R3.out.later b8)
  have R5 := Lib.hid (R5.out.later b8)
  have T1 := Lib.hid (T1.out.later b8)
  have T2 := Lib.hid (show RIn w8 x8 (l) from by have h := own_rd o8; rwa [pair_self true OL.out] at h)
  have HW := Lib.hid (HW.out.trans (b8.mono HW.out.size))
  clear K8 o8 b8
  have K9 := Lib.hid (or_any R1.out (Nat.le_refl _) HC.out (Nat.le_refl _) (Nat.le_trans LAB.out (by omega)) (Nat.le_trans LK.out (by omega)))
  go_upto_region 16 with (go_at_call 18; refine K9.out.mono ?_; rintro e w9 ⟨x9, rfl, o9, b9⟩)
  have HA := Lib.hid (HA.out.later b9)
  have HB := Lib.hid (HB.out.later b9)
  have HC := Lib.hid (HC.out.later b9)
  have R1 := Lib.hid (R1.out.later b9)
  have R3 := Lib.hid (R3.out.later b9)
  have R5 := Lib.hid (R5.out.later b9)
  have T1 := Lib.hid (T1.out.later b9)
  have T2 := Lib.hid (T2.out.later b9)
  have T3 := Lib.hid (show RIn w9 x9 (pairL false l (pairL false m k)) from by have h := own_rd o9; rwa [pair_assoc false OL.out OM.out OK.out] at h)
  have HW := Lib.hid (HW.out.trans (b9.mono HW.out.size))
  clear K9 o9 b9
  have K10 := Lib.hid (or_any HA.out (Nat.le_refl _) R5.out (Nat.le_refl _) (Nat.le_trans LL.out (by omega)) (Nat.le_trans LBC.out (by omega)))
  go_upto_region 17 with (go_at_call 18; refine K10.out.mono ?_; rintro e w10 ⟨x10, rfl, o10, b10⟩)
  have HA := Lib.hid (HA.out.later b10)
  have HB := Lib.hid (HB.out.later b10)
  have HC := Lib.hid (HC.out.later b10)
  have R1 := Lib.hid (R1.out.later b10)
  have R3 := Lib.hid (R3.out.later b10)
  have R5 := Lib.hid (R5.out.later b10)
  have T1 := Lib.hid (T1.out.later b10)
  have T2 := Lib.hid (T2.out.later b10)
  have T3 := Lib.hid (T3.out.later b10)
  have T4 := Lib.hid (show RIn w10 x10 (pairL false (l) (pairL false m k)) from own_rd o10)
  have HW := Lib.hid (HW.out.trans (b10.mono HW.out.size))
  clear K10 o10 b10
  have K11 := Lib.hid (and_any HA.out (Nat.le_refl _) R5.out (Nat.le_refl _) (Nat.le_trans LL.out (by omega)) (Nat.le_trans LBC.out (by omega)))
  go_upto_region 18 with (go_at_call 16; refine K11.out.mono ?_; rintro e w11 ⟨x11, rfl, o11, b11⟩)
  have HA := Lib.hid (HA.out.later b11)
  have HB := Lib.hid (HB.out.later b11)
  have HC := Lib.hid (HC.out.later b11)
  have R1 := Lib.hid (R1.out.later b11)
  have R3 := Lib.hid (R3.out.later b11)
  have R5 := Lib.hid (R5.out.later b11)
  have T1 := Lib.hid (T1.out.later b11)
  have T2 := Lib.hid (T2.out.later b11)
  have T3 := Lib.hid (T3.out.later b11)
  have T4 := Lib.hid (T4.out.later b11)
  have T5 := Lib.hid (show RIn w11 x11 (pairL false (pairL true l m) (pairL true l k)) from by have h := own_rd o11; rwa [cut_parts OL.out OM.out OK.out] at h)
  have HW := Lib.hid (HW.out.trans (b11.mono HW.out.size))
  clear K11 o11 b11
  have K12 := Lib.hid (and_any HA.out (Nat.le_refl _) HC.out (Nat.le_refl _) (Nat.le_trans LL.out (by omega)) (Nat.le_trans LK.out (by omega)))
  go_upto_region 19 with (go_at_call 16; refine K12.out.mono ?_; rintro e w12 ⟨x12, rfl, o12, b12⟩)
  have HA := Lib.hid (HA.out.later b12)
  have HB := Lib.hid (HB.out.later b12)
  have HC := Lib.hid (HC.out.later b12)
  have R1 := Lib.hid (R1.out.later b12)
  have R3 := Lib.hid (R3.out.later b12)
  have R5 := Lib.hid (R5.out.later b12)
  have T1 := Lib.hid (T1.out.later b12)
  have T2 := Lib.hid (T2.out.later b12)
  have T3 := Lib.hid (T3.out.later b12)
  have T4 := Lib.hid (T4.out.later b12)
  have T5 := Lib.hid (T5.out.later b12)
  have T6 := Lib.hid (show RIn w12 x12 (pairL true (l) (k)) from own_rd o12)
  have HW := Lib.hid (HW.out.trans (b12.mono HW.out.size))
  clear K12 o12 b12
  have K13 := Lib.hid (or_any R3.out (Nat.le_refl _) T6.out (Nat.le_refl _) (Nat.le_trans LX.out (by omega)) (Nat.le_trans LAC.out (by omega)))
  go_upto_region 20 with (go_at_call 18; refine K13.out.mono ?_; rintro e w13 ⟨x13, rfl, o13, b13⟩)
  have HA := Lib.hid (HA.out.later b13)
  have HB := Lib.hid (HB.out.later b13)
  have HC := Lib.hid (HC.out.later b13)
  have R1 := Lib.hid (R1.out.later b13)
  have R3 := Lib.hid (R3.out.later b13)
  have R5 := Lib.hid (R5.out.later b13)
  have T1 := Lib.hid (T1.out.later b13)
  have T2 := Lib.hid (T2.out.later b13)
  have T3 := Lib.hid (T3.out.later b13)
  have T4 := Lib.hid (T4.out.later b13)
  have T5 := Lib.hid (T5.out.later b13)
  have T6 := Lib.hid (T6.out.later b13)
  have T7 := Lib.hid (show RIn w13 x13 (pairL false (pairL true l m) (pairL true l k)) from own_rd o13)
  have HW := Lib.hid (HW.out.trans (b13.mono HW.out.size))
  clear K13 o13 b13
  have S1 := Lib.hid (fun (w' : World) (b : Below w13.heap.size w13 w') => same_in (T1.out.later b) (HA.out.later b))
  have S2 := Lib.hid (fun (w' : World) (b : Below w13.heap.size w13 w') => same_in (T2.out.later b) (HA.out.later b))
  have S3 := Lib.hid (fun (w' : World) (b : Below w13.heap.size w13 w') => same_in (T3.out.later b) (T4.out.later b))
  have S4 := Lib.hid (fun (w' : World) (b : Below w13.heap.size w13 w') => same_in (T5.out.later b) (T7.out.later b))
  clear HA HB HC R1 R3 R5 T1 T2 T3 T4 T5 T6 T7 LL LM LK LAB LX LBC LAC OL OM OK HP HQ HS
  go_wp2_with (first | (go_at_call 12; refine (S1.out _ (Below.refl _ _)).mono ?_; clear S1; rintro e y1 ⟨rfl, d1⟩) | (go_at_call 12; refine (S2.out _ d1).mono ?_; clear S2; rintro e y2 ⟨rfl, e2⟩; have d2 := d1.trans (e2.mono d1.size)) | (go_at_call 12; refine (S3.out _ d2).mono ?_; clear S3; rintro e y3 ⟨rfl, e3⟩; have d3 := d2.trans (e3.mono d2.size)) | (go_at_call 12; refine (S4.out _ d3).mono ?_; clear S4; rintro e y4 ⟨rfl, e4⟩; have d4 := d3.trans (e4.mono d3.size)))
  go_ret
  exact ⟨rfl, HW.out.trans (d4.mono HW.out.size)⟩
end Go.Proofs.YtapojgbiboeaiaaDoor
