/- SpansOf's walk: whatever the numbers and line, the law returns true. Conditions: the argument is a readable slice; the library's variables are as they are laid. -/
import Derived.Test.YtapojgbiboeaiaaDoorPo
import Derived.Deep.DeepCutAuto
import Derived.Deep.CutBlock
import Derived.Deep.RegionHeld3
import Derived.Deep.AppendLies
import Derived.WalkKit
namespace Go.Proofs.YtapojgbiboeaiaaDoor
set_option linter.unusedVariables false
set_option linter.unusedSimpArgs false
open Go.RowKit Rng Go.Maps
set_option maxRecDepth 100000 in
set_option maxHeartbeats 4000000 in
theorem of_true {B : Nat} {va : Value} {zs : List Int} (n : Int) {W : World} (ha : NIn W va zs) (hzs : ∀ z ∈ zs, In64 z) (hB : B ≤ W.heap.size) (ht : Env B W) :
    Calls Tryd.prog 4 #[va, .int .i64 n] W fun e W' => e = .returned (.bool true) ∧ Below W.heap.size W W' := by
  have HL := Lib.hid (alive_calls W hB ht)
  have HA := Lib.hid ha
  have HIS := Lib.hid hzs
  obtain ⟨a3, c3, rfl, q1⟩ := ha
  obtain ⟨s, hs⟩ : ∃ s, zs.length = s := ⟨_, rfl⟩
  rw [hs] at HA ⊢
  have HS := Lib.hid hs
  obtain ⟨i0, hi, hz0, hz1, hz2⟩ := info_int
  clear q1 hs ht hB hzs
  go_enter Tryd.func4, Tryd.ntmps4
  go_upto_region 2 with (go_at_call 13; refine HL.out.mono ?_; rintro e w1 ⟨rfl, hB1⟩)
  by_cases g1 : 50 < s
  · have g1' : 50 < (s : Int) := by omega
    go_wp2
    go_ret
    exact ⟨rfl, hB1⟩
  have g1' : ¬ 50 < (s : Int) := by omega
  go_upto_region 4 with fail
  have HLS := Lib.hid (show s ≤ 50 by omega)
  have HA := Lib.hid (HA.out.later hB1)
  have HW := Lib.hid hB1
  clear g1' g1 hB1 HL
  have K2 := Lib.hid (of_any HA.out (Nat.le_refl _) (by rw [HS.out]; exact Nat.le_trans HLS.out (by omega)))
  go_upto_region 5 with (go_at_call 14; refine K2.out.mono ?_; rintro e w2 ⟨x2, rfl, o2, b2⟩)
  have HA := Lib.hid (HA.out.later b2)
  have R1 := Lib.hid (show RIn w2 x2 (ofL zs) from own_rd o2)
  have HW := Lib.hid (HW.out.trans (b2.mono HW.out.size))
  clear K2 o2 b2
  obtain ⟨z1, z2, z3⟩ : s ≤ c3 ∧ c3 ≤ maxLen ∧ ∀ (i : Nat) (z : Int), zs[i]? = some z → ∃ bb o, a3 = some ⟨bb, o, none⟩ ∧ bb < w2.heap.size ∧ w2.cell? ⟨bb, o + i, none⟩ = some (.int .i64 z) := by
    obtain ⟨ao, cap, hv, z1, z2, z3⟩ := HA.out
    simp only [Value.slice.injEq] at hv
    obtain ⟨rfl, e, rfl⟩ := hv
    exact ⟨by omega, z2, z3⟩
  have Z1 := Lib.hid z1
  have Z2 := Lib.hid z2
  have Z3 := Lib.hid z3
  clear z1 z2 z3
  go_upto_region 7 with fail
  go_wp2
  go_loopw [8, 9, 10, 34] (fun bk ri inn i wr => ∃ k : Nat, k ≤ s ∧ i = .int .i64 k ∧ ri = .bool ((zs.take k).all isLine) ∧ inn = .bool (named (zs.take k) n) ∧ OwnI wr w2.heap.size bk (dbl (zs.reverse.take k)) ∧ Below w2.heap.size w2 wr) (fun _ _ _ i _ => s - (intOf i).toNat)
  case atStart => exact ⟨0, Nat.zero_le _, rfl, rfl, rfl, World.ownsRow_nil _ _ _ _, Below.refl _ _⟩
  case round =>
    obtain ⟨k, hk, rfl, rfl, rfl, hO, hBr⟩ := hrel
    have HO := Lib.hid hO
    have HBR := Lib.hid hBr
    by_cases hlt : k < s
    · obtain ⟨z, hz⟩ : ∃ z, zs[k]? = some z := ⟨_, List.getElem?_eq_getElem (by rw [HS.out]; exact hlt)⟩
      obtain ⟨y, hy⟩ : ∃ y, zs[s - 1 - k]? = some y := ⟨_, List.getElem?_eq_getElem (by rw [HS.out]; omega)⟩
      obtain ⟨bb, o, rfl, hbb, cz⟩ := Z3.out k z hz
      obtain ⟨j, hj⟩ : ∃ j, s - 1 - k = j := ⟨_, rfl⟩
      rw [hj] at hy
      obtain ⟨bb', o', he, _, cy⟩ := Z3.out j y hy
      simp only [Option.some.injEq, Addr.mk.injEq, and_true] at he
      obtain ⟨rfl, rfl⟩ := he
      have hlt' : (k : Int) < s := by omega
      have czr := (World.cell?_of_block (hBr.block bb hbb)).trans cz
      have CY := Lib.hid ((World.cell?_of_block (hBr.block bb hbb)).trans cy)
      have HT := Lib.hid (show zs.take (k + 1) = zs.take k ++ [z] by rw [List.take_add_one, hz]; rfl)
      have HTR := Lib.hid (show zs.reverse.take (k + 1) = zs.reverse.take k ++ [y] by
        rw [List.take_add_one, List.getElem?_reverse (by rw [HS.out]; exact hlt), HS.out, hj, hy]; rfl)
      have HK := Lib.hid hlt
      have HWK := Lib.hid (wrap_succ hlt Z1.out Z2.out)
      have HR := Lib.hid (show (zs.take (k + 1)).all isLine = ((zs.take k).all isLine && isLine z) by rw [HT.out, List.all_append]; simp)
      have HNM := Lib.hid (show named (zs.take (k + 1)) n = (named (zs.take k) n || z == n) by rw [HT.out, named_snoc])
      have HLEN := Lib.hid (show (dbl (zs.reverse.take k)).length = 2 * k by rw [dbl_length, List.length_take, List.length_reverse, HS.out]; omega)
      have HJ := Lib.hid hj
      clear hz hy hj hlt cz cy hO hBr
      go_upto_region 10 with fail
      go_cut [9] (fun r wx => r = .bool ((zs.take (k + 1)).all isLine) ∧ wr = wx)
      case first =>
        cases hr : (zs.take k).all isLine with
        | false =>
          rw [hr] at HR
          have HR2 := Lib.hid (show (zs.take (k + 1)).all isLine = false from HR.out)
          go_wp2
          go_meet
          case rel => exact ⟨by rw [HR2.out], rfl⟩
        | true =>
          rw [hr] at HR
          by_cases e1 : z < 0
          · have HR2 := Lib.hid (show (zs.take (k + 1)).all isLine = false by rw [HR.out]; simp [isLine]; omega)
            go_wp2
            go_meet
            case rel => exact ⟨by rw [HR2.out], rfl⟩
          · by_cases e2 : z < 65536
            · have HR2 := Lib.hid (show (zs.take (k + 1)).all isLine = true by rw [HR.out]; simp [isLine]; omega)
              go_wp2
              go_meet
              case rel => exact ⟨by rw [HR2.out], rfl⟩
            · have HR2 := Lib.hid (show (zs.take (k + 1)).all isLine = false by rw [HR.out]; simp [isLine]; omega)
              go_wp2
              go_meet
              case rel => exact ⟨by rw [HR2.out], rfl⟩
      case rest =>
        obtain ⟨rfl, rfl⟩ := hcut
        go_upto_region 11 with fail
        go_cut [10] (fun r wx => r = .bool (named (zs.take (k + 1)) n) ∧ wr = wx)
        case first =>
          cases hr : named (zs.take k) n with
          | true =>
            rw [hr] at HNM
            have HR2 := Lib.hid (show named (zs.take (k + 1)) n = true from HNM.out)
            go_wp2
            go_meet
            case rel => exact ⟨by rw [HR2.out], rfl⟩
          | false =>
            rw [hr] at HNM
            by_cases e1 : z = n
            · subst e1
              have HR2 := Lib.hid (show named (zs.take (k + 1)) z = true by rw [HNM.out]; simp)
              go_wp2
              go_meet
              case rel => exact ⟨by rw [HR2.out], rfl⟩
            · have HR2 := Lib.hid (show named (zs.take (k + 1)) n = false by rw [HNM.out]; simpa using e1)
              have hzn : (z == n) = false := by simpa using e1
              go_wp2
              go_meet
              case rel => exact ⟨by rw [HR2.out], rfl⟩
        case rest =>
          obtain ⟨rfl, rfl⟩ := hcut
          obtain ⟨s1, hs1⟩ : ∃ s1, s - 1 = s1 := ⟨_, rfl⟩
          have hw1 : wrap64 ((s : Int) - 1) = (s1 : Int) := by have := HLS.out; have := HK.out; rw [wrap_in _ (by omega)]; omega
          have hw2 : wrap64 ((s1 : Int) - k) = (j : Int) := by have := HLS.out; have := HK.out; have := HJ.out; rw [wrap_in _ (by omega)]; omega
          have hjs : (j : Int) < s := by have := HK.out; have := HJ.out; omega
          have cyr := CY.out
          have E1 := Lib.hid (show (dbl (zs.reverse.take k)).length + 2 ≤ maxLen by have := HLS.out; have := HK.out; rw [HLEN.out]; unfold maxLen; omega)
          have E2 := Lib.hid (show ((dbl (zs.reverse.take k)).length + 2) * 8 ≤ 140737488355328 by have := HLS.out; have := HK.out; rw [HLEN.out]; omega)
          have E3 := Lib.hid (show w2.heap.size ≤ wr.heap.size + 1 from Nat.le_trans HBR.out.size (Nat.le_succ _))
          clear hs1 czr hlt'
          have hw1' : IntKind.i64.wrap ((s : Int) - 1) = (s1 : Int) := (Go.IntWalk.i64_left _).trans hw1
          have hw2' : IntKind.i64.wrap ((s1 : Int) - k) = (j : Int) := (Go.IntWalk.i64_left _).trans hw2
          have HNE := Lib.hid (show some bb ≠ u8.ownBlock from fun e => Nat.not_lt_of_le (HO.out.lt _ e.symm).1 hbb)
          have HLT := Lib.hid (show bb < wr.heap.size from Nat.lt_of_lt_of_le hbb HBR.out.size)
          have hj0 : (0 : Int) ≤ (j : Int) := Int.natCast_nonneg _
          clear hw1 hw2 hbb
          go_upto_region 12 with fail
          go_region_held3 (fun w' => w'.cell? ⟨bb, o + j, none⟩ = some (.int .i64 y))
            (first | go_keep | (rw [hgrow.cell_far _ (by simp; exact Nat.lt_succ_of_lt HLT.out) HNE.out]; assumption))
            ((refine step_append_lies _ (by rfl) _ _ _ (by rfl) w2.heap.size 3 i0 _ 1 8 Tryd.underlying34 hi hz0 hz1 hz2 rfl (by decide) u8 _ _ (by rfl) ((HO.out.alloc _).drew) ⟨wr.heap.size, 0, none⟩ 2 2 [.int .i64 y, .int .i64 y] (by rfl) (by rfl) (World.news_of_block (cs := #[.int .i64 y, .int .i64 y]) (t := 3) (fr := (0, 0)) (heap_alloc_new wr _)) (by simp [Value.oneCell']) (by decide) E1.out E2.out (by simpa using E3.out) (wr.heap.size + 1) (by simp) ?_; intro gg cap w5 hown' hgrow hat hltg))
          all_goals
            go_wp2
            have hlt := HK.out
            go_roundw
            case rel =>
              have ho : OwnI w5 w2.heap.size (.slice (some ⟨gg, 0, none⟩) ((dbl (zs.reverse.take k)).length + 2) cap) (dbl (zs.reverse.take k) ++ [y, y]) := by
                unfold OwnI
                rw [List.length_append, List.map_append]
                exact hown'
              rw [← dbl_snoc, ← HTR.out] at ho
              exact ⟨k + 1, hlt, by rw [HWK.out], rfl, rfl, ho, ((HBR.out.alloc HBR.out.size _).drew).grown hgrow (by simpa using E3.out) (fun j ej => (HO.out.lt j ej).1)⟩
            case measure => rw [HWK.out]; simp only [intOf]; omega
    · have hlt' : ¬ (k : Int) < s := by omega
      have hT : zs.take k = zs := List.take_of_length_le (by rw [HS.out]; omega)
      have hTR : zs.reverse.take k = zs.reverse := List.take_of_length_le (by rw [List.length_reverse, HS.out]; omega)
      rw [hTR] at hO
      rw [hT]
      have HNB := Lib.hid (ownI_rn hO)
      have HA := Lib.hid (HA.out.later hBr)
      have R1 := Lib.hid (R1.out.later hBr)
      have HW := Lib.hid (HW.out.trans (hBr.mono HW.out.size))
      have HBW := Lib.hid hBr.size
      clear hT hTR hO HO hBr HBR
      have K3 := Lib.hid (of_any HNB.out (Nat.le_refl _) (by rw [dbl_length, List.length_reverse, HS.out]; have := HLS.out; omega))
      go_upto_region 15 with (go_at_call 14; refine K3.out.mono ?_; rintro e w3 ⟨x3, rfl, o3, b3⟩)
      have HA := Lib.hid (HA.out.later b3)
      have R1 := Lib.hid (R1.out.later b3)
      have R2 := Lib.hid (show RIn w3 x3 (ofL zs) from by have h := own_rd o3; rw [← ofL_twice]; exact h)
      have HW := Lib.hid (HW.out.trans (b3.mono HW.out.size))
      have hc3 : ofC (dbl zs.reverse) = ofC zs := ofC_twice zs
      rw [hc3]
      clear K3 o3 b3 HNB hc3 hlt' hk HBW
      cases hr : zs.all isLine with
      | false =>
        have hc : ofC zs = 2 := by simp [ofC, hr]
        have hL : ofL zs = [] := by simp [ofL, hr]
        rw [hL] at R1 R2
        obtain ⟨a1, c1, rfl, _⟩ := R1.out
        obtain ⟨a2, c2, rfl, _⟩ := R2.out
        rw [hc]
        clear hc hL R1 R2 Z1 Z2 Z3
        go_wp2
        go_ret
        exact ⟨rfl, HW.out⟩
      | true =>
        have hc : ofC zs = 0 := by simp [ofC, hr]
        rw [hc]
        have HAL := Lib.hid hr
        obtain ⟨L, hL⟩ : ∃ L, ofL zs = L := ⟨_, rfl⟩
        rw [hL] at R1 R2
        have HLL := Lib.hid hL
        have HOK := Lib.hid (show Ok (-1) L from by rw [← hL, ofL_is hr]; exact okR_ok (ok_setUp _))
        obtain ⟨a4, c4, hx2, q1, q2, q3⟩ := R1.out
        have Q1 := Lib.hid q1
        have Q2 := Lib.hid q2
        have Q3 := Lib.hid q3
        subst hx2
        obtain ⟨p, hp⟩ : ∃ p, L.length = p := ⟨_, rfl⟩
        rw [hp] at R1 ⊢
        have HP := Lib.hid hp
        clear hc hr hL q1 q2 q3 hp
        go_upto_region 18 with fail
        go_wp2
        go_loopw [14, 107] (fun m i wr => ∃ k : Nat, k ≤ p ∧ i = .int .i64 k ∧ m = .int .i64 (sumR (L.take k)) ∧ Below w3.heap.size w3 wr) (fun _ i _ => p - (intOf i).toNat)
        case atStart => exact ⟨0, Nat.zero_le _, rfl, rfl, Below.refl _ _⟩
        case round =>
          obtain ⟨k, hk, rfl, rfl, hBr⟩ := hrel
          by_cases hlt : k < p
          · obtain ⟨r, hr⟩ : ∃ r, L[k]? = some r := ⟨_, List.getElem?_eq_getElem (by rw [HP.out]; exact hlt)⟩
            obtain ⟨bb, o, rfl, hbb, cr1, cr2⟩ := Q3.out k r hr
            have hlt' : (k : Int) < p := by omega
            have hT : L.take (k + 1) = L.take k ++ [r] := by rw [List.take_add_one, hr]; rfl
            have hok := HOK.out
            rw [← List.take_append_drop k L] at hok
            have hb1 := sum_bound _ _ ((ok_append _ _ _).1 hok).1
            have hfit := HOK.out.all (by omega) r (List.mem_of_getElem? hr)
            have hle : lastE (-1) (L.take k) ≤ 65536 := by
              rcases List.eq_nil_or_concat (L.take k) with e | ⟨l', r', e⟩
              · rw [e]; simp [lastE]
              · rw [List.concat_eq_append] at e
                rw [e, lastE_snoc]
                exact (HOK.out.all (by omega) r' (List.mem_of_mem_take (by rw [e]; simp))).2.2
            have HSN := Lib.hid (show sumR (L.take (k + 1)) = sumR (L.take k) + r.2 - r.1 by rw [hT, sumR_snoc])
            obtain ⟨S, hS⟩ : ∃ S, sumR (L.take k) = S := ⟨_, rfl⟩
            rw [hS] at HSN hb1 ⊢
            obtain ⟨ra, rb⟩ := r
            simp only at hfit cr1 cr2 HSN
            obtain ⟨T, hTT⟩ : ∃ T, S + rb = T := ⟨_, rfl⟩
            rw [hTT] at HSN
            have hw1 : wrap64 (S + rb) = T := by rw [wrap_in _ (by omega)]; exact hTT
            have hw2 : wrap64 (T - ra) = T - ra := wrap_in _ (by omega)
            have HWK := Lib.hid (wrap_succ (show k < p from hlt) (show p ≤ c4 by rw [← HP.out]; exact Q1.out) Q2.out)
            have HK := Lib.hid hlt
            have c1' := (World.cell?_of_block (hBr.block bb hbb)).trans cr1
            have c2' := (World.cell?_of_block (hBr.block bb hbb)).trans cr2
            clear hr hlt hT hok hb1 hfit hle hS hTT cr1 cr2
            have hc1 := fun d os => cell_regrown c1' d os
            have hc2 := fun d os => cell_regrown c2' d os
            clear c1' c2'
            go_upto_region 21 with fail
            refine wp_region_quiet_below (by kernel_rfl) (by kernel_rfl) ?_
            repeat (go_big_quiet_step (fail))
            refine wpQuiet_nil ?_
            rintro _ ⟨pp, rfl⟩
            have hB3 := below_regrown wr pp.d pp.os
            go_wp2
            go_roundw
            case rel => exact ⟨k + 1, HK.out, by rw [HWK.out], by rw [HSN.out, hw2], hBr.trans (hB3.mono hBr.size)⟩
            case measure => rw [HWK.out]; have := HK.out; simp only [intOf]; omega
          · have hlt' : ¬ (k : Int) < p := by omega
            have hT : L.take k = L := List.take_of_length_le (by rw [HP.out]; omega)
            rw [hT]
            have HA := Lib.hid (HA.out.later hBr)
            have R1 := Lib.hid (R1.out.later hBr)
            have R2 := Lib.hid (R2.out.later hBr)
            have HW := Lib.hid (HW.out.trans (hBr.mono HW.out.size))
            clear hBr
            rename World => wz
            have HCN := Lib.hid (show sumR L = (cnt 65536 zs : Nat) by rw [← HLL.out, ofL_is HAL.out, sum_setUp]; rfl)
            obtain ⟨M, hM⟩ : ∃ M, sumR L = M := ⟨_, rfl⟩
            rw [hM] at HCN ⊢
            obtain ⟨N, hN⟩ : ∃ N : Nat, 65536 = N := ⟨_, rfl⟩
            rw [hN] at HCN
            have HNN := Lib.hid hN
            have hmm := @run_makeMap Tryd.prog
            clear hM hN hlt hT hk
            go_upto_region 24 with fail
            clear hmm hlt'
            have hst := MapAt.start wz N
            obtain ⟨b, hbb⟩ : ∃ b, wz.heap.size = b := ⟨_, rfl⟩
            obtain ⟨w4, hw4⟩ : ∃ w4, wz.alloc (.map #[] 0) = w4 := ⟨_, rfl⟩
            have hB4 : Below b wz w4 := by rw [← hw4, ← hbb]; exact (Below.refl _ _).alloc (Nat.le_refl _) _
            rw [hw4, hbb] at hst ⊢
            have HSB := Lib.hid hbb
            have HMS := Lib.hid hst
            have HB4 := Lib.hid hB4
            clear hw4 hbb hst hB4
            obtain ⟨z1, z2, z3⟩ : s ≤ c3 ∧ c3 ≤ maxLen ∧ ∀ (i : Nat) (z : Int), zs[i]? = some z → ∃ bb o, a3 = some ⟨bb, o, none⟩ ∧ bb < b ∧ wz.cell? ⟨bb, o + i, none⟩ = some (.int .i64 z) := by
              obtain ⟨ao, cap, hv, z1, z2, z3⟩ := HA.out
              simp only [Value.slice.injEq] at hv
              obtain ⟨rfl, e, rfl⟩ := hv
              rw [HSB.out] at z3
              exact ⟨by omega, z2, z3⟩
            have Z1 := Lib.hid z1
            have Z2 := Lib.hid z2
            have Z3 := Lib.hid z3
            clear z1 z2 z3
            go_wp2
            go_loopw [127] (fun i wr => ∃ k : Nat, k ≤ s ∧ i = .int .i64 k ∧ (∃ D, MapAt wr b k N (zs.take k) D) ∧ Below b wz wr) (fun i _ => s - (intOf i).toNat)
            case atStart => exact ⟨0, Nat.zero_le _, rfl, ⟨_, HMS.out⟩, HB4.out⟩
            case round =>
              obtain ⟨k, hk, rfl, ⟨D, hD⟩, hBq⟩ := hrel
              have HD := Lib.hid hD
              have HBQ := Lib.hid hBq
              by_cases hlt : k < s
              · obtain ⟨z, hz⟩ : ∃ z, zs[k]? = some z := ⟨_, List.getElem?_eq_getElem (by rw [HS.out]; exact hlt)⟩
                obtain ⟨bb, o, rfl, hbb, cz⟩ := Z3.out k z hz
                have hlt' : (k : Int) < s := by omega
                have czr := (World.cell?_of_block (hBq.block bb hbb)).trans cz
                have CZ := Lib.hid (And.intro hbb cz)
                have HT := Lib.hid (show zs.take (k + 1) = zs.take k ++ [z] by rw [List.take_add_one, hz]; rfl)
                have HK := Lib.hid hlt
                have HWK := Lib.hid (wrap_succ hlt Z1.out Z2.out)
                have hzm := List.mem_of_getElem? hz
                have hzl := List.all_eq_true.1 HAL.out z hzm
                have hzr : 0 ≤ z ∧ z < 65536 := by simpa [isLine] using hzl
                have hzh : hasR L z = true := by rw [← HLL.out, has_of HAL.out, named, List.any_eq_true]; exact ⟨z, hzm, by simp⟩
                have HH := Lib.hid (show Calls Tryd.prog 15 _ wr _ from has_calls z (R1.out.later (show Below wz.heap.size wz wr by rw [HSB.out]; exact hBq)) (Nat.le_refl _))
                rw [hzh] at HH
                obtain ⟨x, rfl⟩ : ∃ x : Nat, z = x := ⟨z.toNat, by omega⟩
                have HXN := Lib.hid (show x < N by have := HNN.out; omega)
                have hkey : keyOf Tryd.prog 3 (.int .i64 (x : Int)) = some (.int .i64 (x : Int)) := keyOf_int_mk Tryd.underlying3 (Go.WalkArith.wf_i64 (by omega))
                clear hz hlt hbb cz hzm hzl hzh hD hBq
                have HZR := Lib.hid hzr
                clear hzr
                go_upto_if 136 with (go_at_call 15; refine HH.out.mono ?_; rintro e w5 ⟨rfl, b5⟩)
                have hD5 := HD.out.later b5
                have hB5 := HBQ.out.trans (b5.mono (Nat.le_trans (by rw [HSB.out]; exact Nat.le_refl _) HBQ.out.size))
                have czr := (World.cell?_of_block (hB5.block bb CZ.out.1)).trans CZ.out.2
                have HD5 := Lib.hid hD5
                have HB5 := Lib.hid hB5
                clear hD5 hB5
                go_wp2_with (first
                  | (at_lookup; refine wpList_lookup_own_int _ rfl _ _ 39 rfl 3 3 .i64 keyInt Tryd.underlying39 Tryd.underlying3 (zeroInt _) b k _ rfl HD5.out.1 _ _ rfl hkey ?_; intro c hat hwc)
                  | (at_mapUpdate; refine wpList_mapUpdate_own _ rfl _ _ _ 39 rfl 3 3 keyInt Tryd.underlying39 _ b k _ rfl HD5.out.1 (by have := HLS.out; have := HK.out; unfold maxLen; omega) _ _ _ rfl rfl hkey _ [] (plainElem_int Tryd.underlying3 (wrap64_wf _)) ?_; intro w6 hown6 hgrow6))
                go_roundw
                case rel => exact ⟨k + 1, HK.out, by rw [HWK.out], ⟨_, by rw [HT.out]; exact HD5.out.step HXN.out hown6⟩, HB5.out.grown hgrow6 (by rw [← HSB.out]; exact HB5.out.size) (fun j hj => by cases hj; exact Nat.le_refl _)⟩
                case measure => rw [HWK.out]; have := HK.out; simp only [intOf]; omega
              · have hlt' : ¬ (k : Int) < s := by omega
                have hT : zs.take k = zs := List.take_of_length_le (by rw [HS.out]; omega)
                rw [hT] at hD HD
                have hBW := show Below wz.heap.size wz wr by rw [HSB.out]; exact hBq
                have S1 := Lib.hid (same_in (R1.out.later hBW) (R2.out.later hBW))
                have HHA := Lib.hid (fun (w' : World) (h : Below wr.heap.size wr w') => has_calls n (R1.out.later (hBW.trans (h.mono hBW.size))) (Nat.le_refl _))
                have HLN := Lib.hid (fun (w' : World) (h : Below wr.heap.size wr w') => (hD.later h).1.len Tryd.underlying39)
                have hsz : (Maps.size D : Int) = M := by rw [HCN.out, hD.2.1]
                rw [← HLL.out, has_of HAL.out n] at HHA
                rw [hsz] at HLN
                have HW := Lib.hid (HW.out.trans (hBW.mono HW.out.size))
                obtain ⟨u, hu⟩ : ∃ u, named zs n = u := ⟨_, rfl⟩
                rw [hu] at HHA ⊢
                clear hD hBW hsz hu HCN HAL HLL R1 R2 HD HBQ hT hlt hBq
                cases u <;>
                · go_wp2_with (first | (go_at_call 12; refine S1.out.mono ?_; clear S1; rintro e y1 ⟨rfl, d1⟩; have hln := HLN.out _ d1) | (go_at_call 15; refine (HHA.out _ d1).mono ?_; rintro e y2 ⟨rfl, e2⟩; have d2 := d1.trans (e2.mono d1.size)))
                  go_ret
                  exact ⟨rfl, HW.out.trans (d2.mono HW.out.size)⟩
end Go.Proofs.YtapojgbiboeaiaaDoor
