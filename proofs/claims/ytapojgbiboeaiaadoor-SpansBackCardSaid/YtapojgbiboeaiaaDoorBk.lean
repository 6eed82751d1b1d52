/- SpansBack's walk: whatever the ranges and line, the law returns true. Conditions: the arguments are readable slices; the library's variables are as they are laid. -/
import Derived.Test.YtapojgbiboeaiaaDoorDg
import Derived.Test.YtapojgbiboeaiaaDoorPb
import Derived.Deep.DeepCutAuto
import Derived.Deep.CutBlock
namespace Go.Proofs.YtapojgbiboeaiaaDoor
set_option linter.unusedVariables false
set_option linter.unusedSimpArgs false
open Go.RowKit Rng
theorem rd_nil (w : World) : RIn w (.slice none 0 0) [] := own_rd (base := 0) (World.ownsRow_nil _ _ _ _)
set_option maxRecDepth 100000 in
set_option maxHeartbeats 4000000 in
theorem back_true {B : Nat} {va vb : Value} {l m : List (Int × Int)} (n : Int) {W : World} (ha : RIn W va l) (hb : RIn W vb m) (hB : B ≤ W.heap.size) (ht : Env B W) :
    Calls Tryd.prog 7 #[va, vb, .int .i64 n] W fun e W' => e = .returned (.bool true) ∧ Below W.heap.size W W' := by
  have HL := Lib.hid (alive_calls W hB ht)
  have HT := Lib.hid (fun (w' : World) (b : Below W.heap.size W w') => ht.later (b.mono hB))
  have HBB := Lib.hid (fun (w' : World) (b : Below W.heap.size W w') => Nat.le_trans hB b.size)
  have HA := Lib.hid ha
  have HB := Lib.hid hb
  obtain ⟨a1, c1, rfl, q1⟩ := ha
  obtain ⟨a2, c2, rfl, q2⟩ := hb
  obtain ⟨p, hp⟩ : ∃ p, l.length = p := ⟨_, rfl⟩
  obtain ⟨q, hq⟩ : ∃ q, m.length = q := ⟨_, rfl⟩
  rw [hp] at HA ⊢
  rw [hq] at HB ⊢
  have HP := Lib.hid hp
  have HQ := Lib.hid hq
  clear q1 q2 hp hq ht hB
  go_enter Tryd.func7, Tryd.ntmps7
  go_upto_region 2 with (go_at_call 13; refine HL.out.mono ?_; rintro e w1 ⟨rfl, hB1⟩)
  by_cases g1 : 50 < p
  · have g1' : 50 < (p : Int) := by omega
    go_wp2
    go_ret
    exact ⟨rfl, hB1⟩
  have g1' : ¬ 50 < (p : Int) := by omega
  by_cases g2 : 50 < q
  · have g2' : 50 < (q : Int) := by omega
    go_wp2
    go_ret
    exact ⟨rfl, hB1⟩
  have g2' : ¬ 50 < (q : Int) := by omega
  go_upto_region 4 with fail
  have LL := Lib.hid (show l.length ≤ 50 by rw [HP.out]; omega)
  have LM := Lib.hid (show m.length ≤ 50 by rw [HQ.out]; omega)
  have HA := Lib.hid (HA.out.later hB1)
  have HB := Lib.hid (HB.out.later hB1)
  have HW := Lib.hid hB1
  clear g1' g2' g1 g2 hB1 HL
  cases hl : okR l with
  | false =>
    have HX := Lib.hid (text_no HA.out (Nat.le_refl _) hl)
    clear hl
    go_wp2_with (go_at_call 10; refine HX.out.mono ?_; rintro e w2 ⟨rfl, b2⟩)
    go_ret
    exact ⟨rfl, HW.out.trans (b2.mono HW.out.size)⟩
  | true =>
  have OL := Lib.hid hl
  have HX := Lib.hid (show Calls Tryd.prog 10 _ _ (fun e w' => e = .returned (.tuple #[.string (textOf l), .int .i64 0]) ∧ Below w1.heap.size w1 w') from text_ok HA.out (Nat.le_refl _) (HBB.out _ HW.out) (HT.out _ HW.out) hl (Nat.le_trans LL.out (by omega)))
  obtain ⟨T, hT⟩ : ∃ T, textOf l = T := ⟨_, rfl⟩
  rw [hT] at HX
  have HTX := Lib.hid hT
  clear hl hT
  go_upto_region 5 with (go_at_call 10; refine HX.out.mono ?_; rintro e w2 ⟨rfl, b2⟩)
  have HA := Lib.hid (HA.out.later b2)
  have HB := Lib.hid (HB.out.later b2)
  have HW := Lib.hid (HW.out.trans (b2.mono HW.out.size))
  clear HX b2
  have HX := Lib.hid (parse_calls T (by rw [← HTX.out]; exact text_size OL.out LL.out) w2 (HBB.out _ HW.out) (HT.out _ HW.out))
  go_upto_region 8 with (go_at_call 8; refine HX.out.mono ?_; rintro e w3 ⟨⟨x3, c3, rfl, h3⟩, b3⟩)
  obtain ⟨rfl, o3⟩ := ends_text OL.out (show ParseEnds (textOf l) _ _ _ _ by rw [HTX.out]; exact h3)
  have HA := Lib.hid (HA.out.later b3)
  have HB := Lib.hid (HB.out.later b3)
  have HW := Lib.hid (HW.out.trans (b3.mono HW.out.size))
  have R1 := Lib.hid (show RIn w3 x3 l from own_rd o3)
  clear HX b3 h3 o3
  have K4 := Lib.hid (not_any n HA.out (Nat.le_refl _) (Nat.le_trans LL.out (by omega)))
  go_upto_region 9 with (go_at_call 19; refine K4.out.mono ?_; rintro e w4 ⟨x4, rfl, o4, b4⟩)
  have HA := Lib.hid (HA.out.later b4)
  have HB := Lib.hid (HB.out.later b4)
  have R1 := Lib.hid (R1.out.later b4)
  have HW := Lib.hid (HW.out.trans (b4.mono HW.out.size))
  have R2 := Lib.hid (show RIn w4 x4 (notL l n) from own_rd o4)
  clear K4 o4 b4
  have LC := Lib.hid (show (notL l n).length ≤ 51 from Nat.le_trans (not_length l n) (Nat.add_le_add_right LL.out 1))
  have LD := Lib.hid (show (notL (notL l n) n).length ≤ 52 from Nat.le_trans (not_length _ n) (Nat.add_le_add_right LC.out 1))
  have K5 := Lib.hid (not_any n R2.out (Nat.le_refl _) (Nat.le_trans LC.out (by omega)))
  go_upto_region 10 with (go_at_call 19; refine K5.out.mono ?_; rintro e w5 ⟨x5, rfl, o5, b5⟩)
  have HA := Lib.hid (HA.out.later b5)
  have HB := Lib.hid (HB.out.later b5)
  have R1 := Lib.hid (R1.out.later b5)
  have R2 := Lib.hid (R2.out.later b5)
  have HW := Lib.hid (HW.out.trans (b5.mono HW.out.size))
  have R3 := Lib.hid (show RIn w5 x5 (notL (notL l n) n) from own_rd o5)
  clear K5 o5 b5
  have S1 := Lib.hid (same_in R1.out HA.out)
  go_upto_region 12 with (go_at_call 12; refine S1.out.mono ?_; clear S1; rintro e w6 ⟨rfl, b6⟩)
  clear R1
  have HA := Lib.hid (HA.out.later b6)
  have HB := Lib.hid (HB.out.later b6)
  have R2 := Lib.hid (R2.out.later b6)
  have R3 := Lib.hid (R3.out.later b6)
  have HW := Lib.hid (HW.out.trans (b6.mono HW.out.size))
  clear b6
  by_cases g1 : n < 0
  · have hc := notC_bad (l := l) (.inl g1)
    rw [hc]
    clear hc
    go_wp2
    go_ret
    exact ⟨rfl, HW.out⟩
  by_cases g2 : 65536 < n
  · have hc := notC_bad (l := l) (.inr g2)
    rw [hc]
    clear hc
    go_wp2
    go_ret
    exact ⟨rfl, HW.out⟩
  have hc := notC_of OL.out (n := n) (by omega) (by omega)
  have hd := notC_of (ok_not l n) (n := n) (by omega) (by omega)
  rw [hc, hd]
  have G1 := Lib.hid (show 0 ≤ n by omega)
  have G2 := Lib.hid (show n ≤ 65536 by omega)
  clear hc hd g1 g2
  go_upto_region 14 with fail
  have HAN := Lib.hid (show Calls Tryd.prog 16 _ _ _ from and_any (HA.out.later ((Below.refl _ w6).alloc (Nat.le_refl _) (.cells #[.int .i64 0, .int .i64 n] 38))) (Nat.le_refl _) (rd_one w6 0 n) (Nat.le_refl _) (Nat.le_trans LL.out (by omega)) (by simp))
  go_upto_if 93 with (go_at_call 16; refine HAN.out.mono ?_; rintro e w7 ⟨x7, rfl, o7, b7⟩)
  have hbA : Below w6.heap.size w6 (w6.alloc (.cells #[.int .i64 0, .int .i64 n] 38)) := (Below.refl _ w6).alloc (Nat.le_refl _) _
  have b8 := hbA.trans (b7.mono hbA.size)
  have HA := Lib.hid (HA.out.later b8)
  have HB := Lib.hid (HB.out.later b8)
  have R2 := Lib.hid (R2.out.later b8)
  have R3 := Lib.hid (R3.out.later b8)
  have HW := Lib.hid (HW.out.trans (b8.mono HW.out.size))
  have RA := Lib.hid (show RIn w7 x7 (pairL true l [(0, n)]) from own_rd o7)
  clear HAN o7 b7 b8 hbA
  go_cut [16, 17] (fun v i wx => RIn w7 v (notL (notL l n) n) ∧ i = .int .i64 0 ∧ wx = w7)
  case first =>
    by_cases h0 : n = 0
    · subst h0
      have HZ := Lib.hid (rest_zero OL.out)
      clear RA
      go_wp2
      go_meet
      case rel => exact ⟨by rw [HZ.out]; exact rd_nil _, rfl, rfl⟩
    · have ⟨h1, h2⟩ := all_is (n := n) OL.out (by have := G1.out; omega) G2.out
      rw [h1] at RA
      rw [h2]
      clear h1 h2
      go_wp2
      go_meet
      case rel => exact ⟨RA.out, rfl, rfl⟩
  case rest =>
  clear RA
  obtain ⟨RA, rfl, rfl⟩ := hcut
  have RA := Lib.hid RA
  have K8 := Lib.hid (not_any n HB.out (Nat.le_refl _) (Nat.le_trans LM.out (by omega)))
  go_upto_region 19 with (go_at_call 19; refine K8.out.mono ?_; rintro e w8 ⟨x8, rfl, o8, b8⟩)
  have HA := Lib.hid (HA.out.later b8)
  have HB := Lib.hid (HB.out.later b8)
  have R2 := Lib.hid (R2.out.later b8)
  have R3 := Lib.hid (R3.out.later b8)
  have RA := Lib.hid (RA.out.later b8)
  have HW := Lib.hid (HW.out.trans (b8.mono HW.out.size))
  have R4 := Lib.hid (show RIn w8 x8 (notL m n) from own_rd o8)
  clear K8 o8 b8
  have S1 := Lib.hid (same_in R3.out RA.out)
  go_upto_region 21 with (go_at_call 12; refine S1.out.mono ?_; clear S1; rintro e w9 ⟨rfl, b9⟩)
  clear RA
  have HA := Lib.hid (HA.out.later b9)
  have HB := Lib.hid (HB.out.later b9)
  have R2 := Lib.hid (R2.out.later b9)
  have R3 := Lib.hid (R3.out.later b9)
  have R4 := Lib.hid (R4.out.later b9)
  have HW := Lib.hid (HW.out.trans (b9.mono HW.out.size))
  clear b9
  cases hm : okR m with
  | false =>
    have hc := notC_no (l := m) (n := n) hm
    rw [hc]
    clear hc hm
    go_wp2
    go_ret
    exact ⟨rfl, HW.out⟩
  | true =>
  have OM := Lib.hid hm
  rw [notC_of hm G1.out G2.out]
  clear hm
  have LX := Lib.hid (show (notL m n).length ≤ 51 from Nat.le_trans (not_length m n) (Nat.add_le_add_right LM.out 1))
  have LY := Lib.hid (show (pairL false (notL l n) (notL m n)).length ≤ 102 from Nat.le_trans (pair_length _ _ _) (by have := LC.out; have := LX.out; omega))
  go_upto_region 23 with fail
  have K10 := Lib.hid (or_any R2.out (Nat.le_refl _) R4.out (Nat.le_refl _) (Nat.le_trans LC.out (by omega)) (Nat.le_trans LX.out (by omega)))
  go_upto_region 24 with (go_at_call 18; refine K10.out.mono ?_; rintro e w10 ⟨x10, rfl, o10, b10⟩)
  have HA := Lib.hid (HA.out.later b10)
  have HB := Lib.hid (HB.out.later b10)
  have R2 := Lib.hid (R2.out.later b10)
  have R3 := Lib.hid (R3.out.later b10)
  have R4 := Lib.hid (R4.out.later b10)
  have HW := Lib.hid (HW.out.trans (b10.mono HW.out.size))
  have R5 := Lib.hid (show RIn w10 x10 (pairL false (notL l n) (notL m n)) from own_rd o10)
  clear K10 o10 b10
  have K11 := Lib.hid (not_any n R5.out (Nat.le_refl _) (Nat.le_trans LY.out (by omega)))
  go_upto_region 25 with (go_at_call 19; refine K11.out.mono ?_; rintro e w11 ⟨x11, rfl, o11, b11⟩)
  have HA := Lib.hid (HA.out.later b11)
  have HB := Lib.hid (HB.out.later b11)
  have R2 := Lib.hid (R2.out.later b11)
  have R3 := Lib.hid (R3.out.later b11)
  have R4 := Lib.hid (R4.out.later b11)
  have R5 := Lib.hid (R5.out.later b11)
  have HW := Lib.hid (HW.out.trans (b11.mono HW.out.size))
  have R6 := Lib.hid (show RIn w11 x11 (pairL true (notL (notL l n) n) m) from by have h := own_rd o11; rwa [neither OL.out OM.out G1.out G2.out] at h)
  clear K11 o11 b11
  have K12 := Lib.hid (and_any R3.out (Nat.le_refl _) HB.out (Nat.le_refl _) (Nat.le_trans LD.out (by omega)) (Nat.le_trans LM.out (by omega)))
  go_upto_region 26 with (go_at_call 16; refine K12.out.mono ?_; rintro e w12 ⟨x12, rfl, o12, b12⟩)
  have HA := Lib.hid (HA.out.later b12)
  have HB := Lib.hid (HB.out.later b12)
  have R2 := Lib.hid (R2.out.later b12)
  have R3 := Lib.hid (R3.out.later b12)
  have R4 := Lib.hid (R4.out.later b12)
  have R5 := Lib.hid (R5.out.later b12)
  have R6 := Lib.hid (R6.out.later b12)
  have HW := Lib.hid (HW.out.trans (b12.mono HW.out.size))
  have R7 := Lib.hid (show RIn w12 x12 (pairL true (notL (notL l n) n) m) from own_rd o12)
  clear K12 o12 b12
  have S1 := Lib.hid (same_in R6.out R7.out)
  go_wp2_with (go_at_call 12; refine S1.out.mono ?_; clear S1; rintro e w13 ⟨rfl, b13⟩)
  go_ret
  exact ⟨rfl, HW.out.trans (b13.mono HW.out.size)⟩
end Go.Proofs.YtapojgbiboeaiaaDoor
