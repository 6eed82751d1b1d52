/- SpansNames' walk: the examples of the chapter hold. Condition: the library's variables are as they are laid. -/
import Derived.Test.YtapojgbiboeaiaaGreatDoorNx
import Derived.Sort.AtCall
namespace Go.Proofs.YtapojgbiboeaiaaGreatDoor
set_option linter.unusedVariables false
set_option linter.unusedSimpArgs false
open Go.RowKit Rng
set_option maxRecDepth 100000 in
set_option maxHeartbeats 8000000 in
theorem names_true {B : Nat} (W : World) (hB : B ≤ W.heap.size) (ht : Env B W) :
    Calls Tryz.prog 3 #[] W fun e W' => e = .returned (.bool true) ∧ Below W.heap.size W W' := by
  have HT := Lib.hid (fun (w' : World) (b : Below W.heap.size W w') => And.intro (ht.later (b.mono hB)) (Nat.le_trans hB b.size))
  have HW := Lib.hid (Below.refl W.heap.size W)
  clear ht hB
  go_enter Tryz.func3, Tryz.ntmps3
  have KP := Lib.hid (parse_err (B := B) ⟨#[48]⟩ (by decide) (by decide) (by decide +kernel) W (HT.out _ HW.out).2 (HT.out _ HW.out).1)
  go_upto_region 2 with (go_at_call 4; refine KP.out.mono ?_; rintro e w1 ⟨rfl, hb⟩)
  have HW := Lib.hid (HW.out.trans (hb.mono HW.out.size))
  clear KP hb
  have KP := Lib.hid (parse_err (B := B) ⟨#[51, 45, 50]⟩ (by decide) (by decide) (by decide +kernel) w1 (HT.out _ HW.out).2 (HT.out _ HW.out).1)
  go_upto_region 3 with (go_at_call 4; refine KP.out.mono ?_; rintro e w2 ⟨rfl, hb⟩)
  have HW := Lib.hid (HW.out.trans (hb.mono HW.out.size))
  clear KP hb
  have KP := Lib.hid (parse_err (B := B) ⟨#[49, 44]⟩ (by decide) (by decide) (by decide +kernel) w2 (HT.out _ HW.out).2 (HT.out _ HW.out).1)
  go_upto_region 4 with (go_at_call 4; refine KP.out.mono ?_; rintro e w3 ⟨rfl, hb⟩)
  have HW := Lib.hid (HW.out.trans (hb.mono HW.out.size))
  clear KP hb
  have KP := Lib.hid (parse_err (B := B) ⟨#[48, 49]⟩ (by decide) (by decide) (by decide +kernel) w3 (HT.out _ HW.out).2 (HT.out _ HW.out).1)
  go_upto_region 5 with (go_at_call 4; refine KP.out.mono ?_; rintro e w4 ⟨rfl, hb⟩)
  have HW := Lib.hid (HW.out.trans (hb.mono HW.out.size))
  clear KP hb
  have KP := Lib.hid (parse_err (B := B) ⟨#[54, 53, 53, 51, 55]⟩ (by decide) (by decide) (by decide +kernel) w4 (HT.out _ HW.out).2 (HT.out _ HW.out).1)
  go_upto_region 6 with (go_at_call 4; refine KP.out.mono ?_; rintro e w5 ⟨rfl, hb⟩)
  have HW := Lib.hid (HW.out.trans (hb.mono HW.out.size))
  clear KP hb
  have KP := Lib.hid (parse_one (B := B) ⟨#[54, 53, 53, 51, 54]⟩ (by decide) (by decide) (by decide +kernel) (65535, 65536) (by decide +kernel) w5 (HT.out _ HW.out).2 (HT.out _ HW.out).1)
  go_upto_region 7 with (go_at_call 4; refine KP.out.mono ?_; rintro e w6 ⟨xa, rfl, ho, hb⟩)
  have RA := Lib.hid (show RIn w6 xa [(65535, 65536)] from own_rd ho)
  have HW := Lib.hid (HW.out.trans (hb.mono HW.out.size))
  clear KP ho hb
  have HAL := Lib.hid ((Below.refl _ w6).alloc (Nat.le_refl _) (.cells #[.int .i64 1, .int .i64 2] 28))
  have KP := Lib.hid (not_ex (rd_one w6 1 2) (Nat.le_refl _))
  go_upto_region 8 with (go_at_call 5; refine KP.out.mono ?_; rintro e w7 ⟨xn, rfl, ho, hb⟩)
  have hb2 := HAL.out.trans (hb.mono HAL.out.size)
  have RN := Lib.hid (show RIn w7 xn [(0, 1), (2, 3)] from own_rd ho)
  have RA := Lib.hid (RA.out.later hb2)
  have HW := Lib.hid (HW.out.trans (hb2.mono HW.out.size))
  clear KP ho hb hb2 HAL
  have HA1 := Lib.hid ((Below.refl _ w7).alloc (Nat.le_refl _) (.cells #[.int .i64 0, .int .i64 3] 28))
  have HA2 := Lib.hid ((Below.refl _ (w7.alloc (.cells #[.int .i64 0, .int .i64 3] 28))).alloc (Nat.le_refl _) (.cells #[.int .i64 2, .int .i64 5] 28))
  have KP := Lib.hid (and_ex ((rd_one w7 0 3).later HA2.out) (Nat.le_refl _) (rd_one (w7.alloc (.cells #[.int .i64 0, .int .i64 3] 28)) 2 5) (Nat.le_refl _))
  rw [World.size_alloc] at KP
  go_upto_region 9 with (go_at_call 6; refine KP.out.mono ?_; rintro e w8 ⟨xb, rfl, ho, hb⟩)
  have hb2 := HA1.out.trans ((HA2.out.mono HA1.out.size).trans (hb.mono (Nat.le_trans HA1.out.size HA2.out.size)))
  have RB := Lib.hid (show RIn w8 xb [(2, 3)] from own_rd ho)
  have RN := Lib.hid (RN.out.later hb2)
  have RA := Lib.hid (RA.out.later hb2)
  have HW := Lib.hid (HW.out.trans (hb2.mono HW.out.size))
  clear KP ho hb hb2 HA1 HA2
  have HAL := Lib.hid ((Below.refl _ w8).alloc (Nat.le_refl _) (.cells #[.int .i64 1, .int .i64 1] 28))
  have KP := Lib.hid (text_no (rd_one w8 1 1) (Nat.le_refl _) (by decide +kernel))
  go_upto_region 10 with (go_at_call 7; refine KP.out.mono ?_; rintro e w9 ⟨rfl, hb⟩)
  have hb2 := HAL.out.trans (hb.mono HAL.out.size)
  have RB := Lib.hid (RB.out.later hb2)
  have RN := Lib.hid (RN.out.later hb2)
  have RA := Lib.hid (RA.out.later hb2)
  have HW := Lib.hid (HW.out.trans (hb2.mono HW.out.size))
  clear KP hb hb2 HAL
  have HAL := Lib.hid ((Below.refl _ w9).alloc (Nat.le_refl _) (.cells #[.int .i64 0, .int .i64 1, .int .i64 1, .int .i64 2] 28))
  have KP := Lib.hid (sor_no (C := 0) (m := []) (rd_two w9 0 1 1 2) (Nat.le_refl _) ⟨none, 0, rfl, Nat.le_refl _, by unfold maxLen; omega, fun i r hr => by simp at hr⟩ (Nat.zero_le _) (by decide +kernel))
  go_upto_region 11 with (go_at_call 8; refine KP.out.mono ?_; rintro e w10 ⟨rfl, hb⟩)
  have hb2 := HAL.out.trans (hb.mono HAL.out.size)
  have RB := Lib.hid (RB.out.later hb2)
  have RN := Lib.hid (RN.out.later hb2)
  have RA := Lib.hid (RA.out.later hb2)
  have HW := Lib.hid (HW.out.trans (hb2.mono HW.out.size))
  clear KP hb hb2 HAL
  have HAL := Lib.hid ((Below.refl _ w10).alloc (Nat.le_refl _) (.cells #[.int .i64 (-1)] 3))
  have KP := Lib.hid (of_err (rn_one w10 (-1)) (Nat.le_refl _))
  go_upto_region 12 with (go_at_call 9; refine KP.out.mono ?_; rintro e w11 ⟨rfl, hb⟩)
  have hb2 := HAL.out.trans (hb.mono HAL.out.size)
  have RB := Lib.hid (RB.out.later hb2)
  have RN := Lib.hid (RN.out.later hb2)
  have RA := Lib.hid (RA.out.later hb2)
  have HW := Lib.hid (HW.out.trans (hb2.mono HW.out.size))
  clear KP hb hb2 HAL
  have HAL := Lib.hid ((Below.refl _ w11).alloc (Nat.le_refl _) (.cells #[.int .i64 3, .int .i64 1, .int .i64 2, .int .i64 2] 3))
  have KP := Lib.hid (of_ex (rn_four w11 3 1 2 2) (Nat.le_refl _))
  go_upto_region 13 with (go_at_call 9; refine KP.out.mono ?_; rintro e w12 ⟨xc, rfl, ho, hb⟩)
  have hb2 := HAL.out.trans (hb.mono HAL.out.size)
  have RC := Lib.hid (show RIn w12 xc [(1, 4)] from own_rd ho)
  have RB := Lib.hid (RB.out.later hb2)
  have RN := Lib.hid (RN.out.later hb2)
  have RA := Lib.hid (RA.out.later hb2)
  have HW := Lib.hid (HW.out.trans (hb2.mono HW.out.size))
  clear KP ho hb hb2 HAL
  obtain ⟨aA, cA, rfl, a1, a2, a3⟩ := RA.out
  obtain ⟨aN, cN, rfl, n1, n2, n3⟩ := RN.out
  obtain ⟨aB, cB, rfl, b1, b2, b3⟩ := RB.out
  obtain ⟨aC, cC, rfl, c1, c2, c3⟩ := RC.out
  obtain ⟨gA, oA, rfl, _, p1, p2⟩ := a3 0 (65535, 65536) rfl
  obtain ⟨gN, oN, rfl, _, p3, p4⟩ := n3 1 (2, 3) rfl
  obtain ⟨gB, oB, rfl, _, p5, p6⟩ := b3 0 (2, 3) rfl
  obtain ⟨gC, oC, rfl, _, p7, p8⟩ := c3 0 (1, 4) rfl
  simp only [Nat.zero_mul, Nat.one_mul, Nat.add_zero] at p1 p2 p3 p4 p5 p6 p7 p8
  have q1 := eql_rg 65535 65536 65535 65536
  have q2 := eql_rg 2 3 2 3
  have q3 := eql_rg 1 4 1 4
  have hcN : (1 : Int) < cN := by simp at n1; omega
  have hcA : (0 : Int) < cA := by simp at a1; omega
  have hcB : (0 : Int) < cB := by simp at b1; omega
  have hcC : (0 : Int) < cC := by simp at c1; omega
  clear a3 n3 b3 c3
  go_upto_region 14 with fail
  clear p1 p2 q1
  go_upto_region 15 with fail
  clear p3 p4 p5 p6 p7 p8 q2 q3
  go_upto_region 16 with fail
  obtain ⟨w13, hw13⟩ : ∃ w13, w12.alloc (.cells #[.int .i64 2, .int .i64 3] 28) = w13 := ⟨_, rfl⟩
  have hb13 : Below w12.heap.size w12 w13 := by rw [← hw13]; exact (Below.refl _ w12).alloc (Nat.le_refl _) _
  have RM := Lib.hid (show RIn w13 (.slice (some ⟨w12.heap.size, 0, none⟩) 1 1) [(2, 3)] by rw [← hw13]; exact rd_one w12 2 3)
  have HW := Lib.hid (HW.out.trans (hb13.mono HW.out.size))
  rw [hw13]
  clear hw13 hb13
  have KM1 := Lib.hid (fun (w' : World) (hb : Below w13.heap.size w13 w') => show Calls Tryz.prog 10 #[.slice (some ⟨w12.heap.size, 0, none⟩) 1 1, .int .i64 0, .int .i64 2] w' fun e w'' => e = .returned (.bool false) ∧ Below w'.heap.size w' w'' by
    have := meets_calls 0 2 (RM.out.later hb) (Nat.le_refl _) (fun _ => wrap_in _ (by omega))
    rwa [show meetsR [(2, 3)] 0 2 = false by decide +kernel] at this)
  have KM2 := Lib.hid (fun (w' : World) (hb : Below w13.heap.size w13 w') => show Calls Tryz.prog 10 #[.slice (some ⟨w12.heap.size, 0, none⟩) 1 1, .int .i64 3, .int .i64 3] w' fun e w'' => e = .returned (.bool true) ∧ Below w'.heap.size w' w'' by
    have := meets_calls 3 3 (RM.out.later hb) (Nat.le_refl _) (fun _ => wrap_in _ (by omega))
    rwa [show meetsR [(2, 3)] 3 3 = true by decide +kernel] at this)
  have KM3 := Lib.hid (fun (w' : World) (hb : Below w13.heap.size w13 w') => show Calls Tryz.prog 10 #[.slice (some ⟨w12.heap.size, 0, none⟩) 1 1, .int .i64 2, .int .i64 2] w' fun e w'' => e = .returned (.bool true) ∧ Below w'.heap.size w' w'' by
    have := meets_calls 2 2 (RM.out.later hb) (Nat.le_refl _) (fun _ => wrap_in _ (by omega))
    rwa [show meetsR [(2, 3)] 2 2 = true by decide +kernel] at this)
  have KM4 := Lib.hid (fun (w' : World) (hb : Below w13.heap.size w13 w') => show Calls Tryz.prog 10 #[.slice (some ⟨w12.heap.size, 0, none⟩) 1 1, .int .i64 1, .int .i64 1] w' fun e w'' => e = .returned (.bool false) ∧ Below w'.heap.size w' w'' by
    have := meets_calls 1 1 (RM.out.later hb) (Nat.le_refl _) (fun _ => wrap_in _ (by omega))
    rwa [show meetsR [(2, 3)] 1 1 = false by decide +kernel] at this)
  have KM5 := Lib.hid (fun (w' : World) (hb : Below w13.heap.size w13 w') => show Calls Tryz.prog 10 #[.slice (some ⟨w12.heap.size, 0, none⟩) 1 1, .int .i64 0, .int .i64 9] w' fun e w'' => e = .returned (.bool true) ∧ Below w'.heap.size w' w'' by
    have := meets_calls 0 9 (RM.out.later hb) (Nat.le_refl _) (fun _ => wrap_in _ (by omega))
    rwa [show meetsR [(2, 3)] 0 9 = true by decide +kernel] at this)
  have KM6 := Lib.hid (fun (w' : World) (hb : Below w13.heap.size w13 w') => show Calls Tryz.prog 11 #[.slice (some ⟨w12.heap.size, 0, none⟩) 1 1, .int .i64 2] w' fun e w'' => e = .returned (.bool true) ∧ Below w'.heap.size w' w'' by
    have := has_calls 2 (RM.out.later hb) (Nat.le_refl _)
    rwa [show hasR [(2, 3)] 2 = true by decide +kernel] at this)
  have KM7 := Lib.hid (fun (w' : World) (hb : Below w13.heap.size w13 w') => show Calls Tryz.prog 11 #[.slice (some ⟨w12.heap.size, 0, none⟩) 1 1, .int .i64 3] w' fun e w'' => e = .returned (.bool false) ∧ Below w'.heap.size w' w'' by
    have := has_calls 3 (RM.out.later hb) (Nat.le_refl _)
    rwa [show hasR [(2, 3)] 3 = false by decide +kernel] at this)
  have KM8 := Lib.hid (fun (w' : World) => show Calls Tryz.prog 11 #[.slice (some ⟨w'.heap.size, 0, none⟩) 1 1, .int .i64 0] (w'.alloc (.cells #[.int .i64 0, .int .i64 (-1)] 28)) fun e w'' => e = .returned (.bool false) ∧ Below w'.heap.size w' w'' by
    have h := has_calls 0 (rd_one w' 0 (-1)) (Nat.le_refl _)
    rw [show hasR [(0, -1)] 0 = false by decide +kernel] at h
    have ha : Below w'.heap.size w' (w'.alloc (.cells #[.int .i64 0, .int .i64 (-1)] 28)) := (Below.refl _ w').alloc (Nat.le_refl _) _
    exact h.mono fun e w'' ⟨h1, h2⟩ => ⟨h1, ha.trans (h2.mono ha.size)⟩)
  have gc := Below.refl w13.heap.size w13
  go_upto_region 17 with (first
    | (go_at_call_has 10 (Value.int IntKind.i64 9); refine (KM5.out _ gc).mono ?_; rintro e u ⟨rfl, h⟩; replace gc := gc.trans (h.mono gc.size); clear h)
    | (go_at_call_has 10 (Value.int IntKind.i64 1); refine (KM4.out _ gc).mono ?_; rintro e u ⟨rfl, h⟩; replace gc := gc.trans (h.mono gc.size); clear h)
    | (go_at_call_has 10 (Value.int IntKind.i64 3); refine (KM2.out _ gc).mono ?_; rintro e u ⟨rfl, h⟩; replace gc := gc.trans (h.mono gc.size); clear h)
    | (go_at_call_has 10 (Value.int IntKind.i64 0); refine (KM1.out _ gc).mono ?_; rintro e u ⟨rfl, h⟩; replace gc := gc.trans (h.mono gc.size); clear h)
    | (go_at_call_has 10 (Value.int IntKind.i64 2); refine (KM3.out _ gc).mono ?_; rintro e u ⟨rfl, h⟩; replace gc := gc.trans (h.mono gc.size); clear h)
    | (go_at_call_has 11 (Value.int IntKind.i64 2); refine (KM6.out _ gc).mono ?_; rintro e u ⟨rfl, h⟩; replace gc := gc.trans (h.mono gc.size); clear h)
    | (go_at_call_has 11 (Value.int IntKind.i64 3); refine (KM7.out _ gc).mono ?_; rintro e u ⟨rfl, h⟩; replace gc := gc.trans (h.mono gc.size); clear h)
    | (go_at_call_has 11 (Value.int IntKind.i64 0); refine (KM8.out _).mono ?_; rintro e u8 ⟨rfl, h⟩; replace gc := gc.trans (h.mono gc.size); clear h))
  have HW := Lib.hid (HW.out.trans (gc.mono HW.out.size))
  have KA := Lib.hid (alive_calls u8 (HT.out _ HW.out).2 (HT.out _ HW.out).1)
  go_wp2_with (go_at_call 12; refine KA.out.mono ?_; rintro e u9 ⟨rfl, h9⟩)
  go_ret
  exact ⟨rfl, HW.out.trans (h9.mono HW.out.size)⟩
end Go.Proofs.YtapojgbiboeaiaaGreatDoor
