/- valid and the reference's Valid answer alike: the plain test of a list of ranges. -/
import Derived.Test.YtapojgbiboeaiaaDoorRr
import Derived.Test.YtapojgbiboeaiaaDoorQt
import Derived.BigQuiet
import Derived.BigRegion
import Derived.Deep.Cut
import Derived.Deep.DeepCutAuto
import Derived.Deep.QuietTactic
import Derived.Shelf.Abstract
import Derived.Shelf.RegionOpen
import Derived.StillTailTactics
namespace Go.Proofs.YtapojgbiboeaiaaDoor
set_option linter.unusedVariables false
set_option linter.unusedSimpArgs false
open Go.RowKit Rng
/-- The ranges rise, apart from one another, behind 'last'. -/
def okFrom (last : Int) : List (Int × Int) → Bool
  | [] => true
  | r :: l => !(decide (r.1 ≤ last) || decide (r.2 ≤ r.1) || decide (65536 < r.2)) && okFrom r.2 l
def okR (l : List (Int × Int)) : Bool := okFrom (-1) l
theorem okFrom_cons (last : Int) (r : Int × Int) (l : List (Int × Int)) : okFrom last (r :: l) = (!(decide (r.1 ≤ last) || decide (r.2 ≤ r.1) || decide (65536 < r.2)) && okFrom r.2 l) := rfl
def lastTo (last : Int) (l : List (Int × Int)) (k : Nat) : Int := match k with | 0 => last | k + 1 => (l[k]?.getD (0, 0)).2
set_option maxRecDepth 100000 in
set_option maxHeartbeats 1000000 in
theorem valid_calls {B : Nat} {v : Value} {l : List (Int × Int)} {w : World} (h : Rd B w v l) (hB : B ≤ w.heap.size) :
    Calls Tryd.prog 27 #[v] w fun e w' => e = .returned (.bool (okR l)) ∧ Below w.heap.size w w' := by
  obtain ⟨ao, cap, rfl, h1, h2, h3⟩ := h
  have H3 := Lib.hid h3
  clear h3
  go_enter Tryd.func27, Tryd.ntmps27
  go_wp2
  go_loopw [3, 8] (fun x i wr => ∃ k : Nat, k ≤ l.length ∧ i = .int .i64 k ∧ x = .int .i64 (lastTo (-1) l k) ∧ okR l = okFrom (lastTo (-1) l k) (l.drop k) ∧ Below w.heap.size w wr) (fun _ i _ => l.length - (intOf i).toNat)
  case atStart => exact ⟨0, by omega, rfl, rfl, rfl, Below.refl _ _⟩
  case round =>
    obtain ⟨k, hk, rfl, rfl, hok, hBr⟩ := hrel
    by_cases hlt : k < l.length
    · obtain ⟨r, hr⟩ : ∃ r, l[k]? = some r := ⟨_, List.getElem?_eq_getElem hlt⟩
      obtain ⟨b, o, rfl, hb, c1, c2⟩ := H3.out k r hr
      have c1' := (World.cell?_of_block (hBr.block b (Nat.lt_of_lt_of_le hb hB))).trans c1
      have c2' := (World.cell?_of_block (hBr.block b (Nat.lt_of_lt_of_le hb hB))).trans c2
      have hlt' : (k : Int) < l.length := by omega
      have hd : l.drop k = r :: l.drop (k + 1) := by
        obtain ⟨h', e⟩ := List.getElem?_eq_some_iff.1 hr
        rw [List.drop_eq_getElem_cons h', e]
      have hok2 : okR l = (!(decide (r.1 ≤ lastTo (-1) l k) || decide (r.2 ≤ r.1) || decide (65536 < r.2)) && okFrom r.2 (l.drop (k + 1))) := by rw [hok, hd, okFrom_cons]
      have HO := Lib.hid hok2
      have HL := Lib.hid (show lastTo (-1) l (k + 1) = r.2 by simp [lastTo, hr])
      have HK := Lib.hid hlt
      have hw := wrap_succ hlt h1 h2
      have HW := Lib.hid hw
      clear hok hok2 hd hr hlt hw
      go_wp2
      case roundEnd =>
        rename_i hx
        have hlt := HK.out
        refine ⟨⟨k + 1, hlt, by rw [HW.out], by rw [HL.out], ?_, hBr.alloc hBr.size _⟩, ?_⟩
        · rw [HO.out, HL.out]
          have e1 : decide (r.1 ≤ lastTo (-1) l k) = false := decide_eq_false (by omega)
          have e2 : decide (r.2 ≤ r.1) = false := decide_eq_false (by omega)
          have e3 : decide (65536 < r.2) = false := decide_eq_false (by omega)
          rw [e1, e2, e3]
          rfl
        · rw [HW.out]; simp only [intOf]; omega
      all_goals
        have key : (!(decide (r.1 ≤ lastTo (-1) l k) || decide (r.2 ≤ r.1) || decide (65536 < r.2))) = false := by
          simp only [Bool.not_eq_false', Bool.or_eq_true, decide_eq_true_eq]
          omega
        go_ret
        refine ⟨?_, hBr.alloc hBr.size _⟩
        rw [HO.out, key]
        rfl
    · have hlt' : ¬ (k : Int) < l.length := by omega
      have e : l.drop k = [] := List.drop_eq_nil_of_le (by omega)
      have hok2 : okR l = true := by rw [hok, e]; rfl
      have HO := Lib.hid hok2
      clear hok hok2 e
      go_wp2
      go_ret
      exact ⟨by rw [HO.out]; rfl, hBr⟩
set_option maxRecDepth 100000 in
set_option maxHeartbeats 1000000 in
theorem rvalid_calls {B : Nat} {v : Value} {l : List (Int × Int)} {w : World} (h : Rd B w v l) (hB : B ≤ w.heap.size) :
    Calls Tryd.prog 30 #[v] w fun e w' => e = .returned (.bool (okR l)) ∧ Below w.heap.size w w' := by
  obtain ⟨ao, cap, rfl, h1, h2, h3⟩ := h
  have H3 := Lib.hid h3
  clear h3
  go_enter Tryd.func30, Tryd.ntmps30
  go_wp2
  go_loopw [3] (fun i wr => ∃ k : Nat, k ≤ l.length ∧ i = .int .i64 k ∧ -1 ≤ lastTo (-1) l k ∧ okR l = okFrom (lastTo (-1) l k) (l.drop k) ∧ Below w.heap.size w wr) (fun i _ => l.length - (intOf i).toNat)
  case atStart => exact ⟨0, by omega, rfl, by simp [lastTo], rfl, Below.refl _ _⟩
  case round =>
    obtain ⟨k, hk, rfl, hneg, hok, hBr⟩ := hrel
    by_cases hlt : k < l.length
    · obtain ⟨r, hr⟩ : ∃ r, l[k]? = some r := ⟨_, List.getElem?_eq_getElem hlt⟩
      obtain ⟨b, o, rfl, hb, c1, c2⟩ := H3.out k r hr
      have c1' := (World.cell?_of_block (hBr.block b (Nat.lt_of_lt_of_le hb hB))).trans c1
      have c2' := (World.cell?_of_block (hBr.block b (Nat.lt_of_lt_of_le hb hB))).trans c2
      have hlt' : (k : Int) < l.length := by omega
      have hd : l.drop k = r :: l.drop (k + 1) := by
        obtain ⟨h', e⟩ := List.getElem?_eq_some_iff.1 hr
        rw [List.drop_eq_getElem_cons h', e]
      have hok2 : okR l = (!(decide (r.1 ≤ lastTo (-1) l k) || decide (r.2 ≤ r.1) || decide (65536 < r.2)) && okFrom r.2 (l.drop (k + 1))) := by rw [hok, hd, okFrom_cons]
      have HO := Lib.hid hok2
      have HL := Lib.hid (show lastTo (-1) l (k + 1) = r.2 by simp [lastTo, hr])
      have HK := Lib.hid hlt
      have hw := wrap_succ hlt h1 h2
      have HW := Lib.hid hw
      clear hok hok2 hd hr hlt hw c1 c2
      have hc1 := fun d os => cell_regrown c1' d os
      have hc2 := fun d os => cell_regrown c2' d os
      clear c1' c2'
      by_cases hz : k = 0
      · have dz : decide (0 < k) = false := decide_eq_false (by omega)
        have HLZ := Lib.hid (show lastTo (-1) l k = -1 by rw [hz]; rfl)
        clear hz
        by_cases g1 : r.1 < 0
        · have d1 : decide (r.1 < 0) = true := decide_eq_true g1
          go_upto_region 4 with fail
          refine wp_region_quiet_below (by kernel_rfl) (by kernel_rfl) ?_
          repeat (go_big_quiet_step (fail))
          refine wpQuiet_nil ?_
          rintro _ ⟨p, rfl⟩
          have hB3 := below_regrown wr p.d p.os
          go_wp2
          go_ret
          refine ⟨?_, hBr.trans (hB3.mono hBr.size)⟩
          have hz' := HLZ.out
          rw [HO.out, show (!(decide (r.1 ≤ lastTo (-1) l k) || decide (r.2 ≤ r.1) || decide (65536 < r.2))) = false by simp only [Bool.not_eq_false', Bool.or_eq_true, decide_eq_true_eq]; omega]
          rfl
        · have d1 : decide (r.1 < 0) = false := decide_eq_false g1
          by_cases g2 : r.2 ≤ r.1
          · have d2 : decide (r.2 ≤ r.1) = true := decide_eq_true g2
            go_upto_region 4 with fail
            refine wp_region_quiet_below (by kernel_rfl) (by kernel_rfl) ?_
            repeat (go_big_quiet_step (fail))
            refine wpQuiet_nil ?_
            rintro _ ⟨p, rfl⟩
            have hB3 := below_regrown wr p.d p.os
            go_wp2
            go_ret
            refine ⟨?_, hBr.trans (hB3.mono hBr.size)⟩
            have hz' := HLZ.out
            rw [HO.out, show (!(decide (r.1 ≤ lastTo (-1) l k) || decide (r.2 ≤ r.1) || decide (65536 < r.2))) = false by simp only [Bool.not_eq_false', Bool.or_eq_true, decide_eq_true_eq]; omega]
            rfl
          · have d2 : decide (r.2 ≤ r.1) = false := decide_eq_false g2
            by_cases g3 : 65536 < r.2
            · have d3 : decide (65536 < r.2) = true := decide_eq_true g3
              go_upto_region 4 with fail
              refine wp_region_quiet_below (by kernel_rfl) (by kernel_rfl) ?_
              repeat (go_big_quiet_step (fail))
              refine wpQuiet_nil ?_
              rintro _ ⟨p, rfl⟩
              have hB3 := below_regrown wr p.d p.os
              go_wp2
              go_ret
              refine ⟨?_, hBr.trans (hB3.mono hBr.size)⟩
              have hz' := HLZ.out
              rw [HO.out, show (!(decide (r.1 ≤ lastTo (-1) l k) || decide (r.2 ≤ r.1) || decide (65536 < r.2))) = false by simp only [Bool.not_eq_false', Bool.or_eq_true, decide_eq_true_eq]; omega]
              rfl
            · have d3 : decide (65536 < r.2) = false := decide_eq_false g3
              go_upto_region 4 with fail
              refine wp_region_quiet_below (by kernel_rfl) (by kernel_rfl) ?_
              repeat (go_big_quiet_step (fail))
              refine wpQuiet_nil ?_
              rintro _ ⟨p, rfl⟩
              have hB3 := below_regrown wr p.d p.os
              go_wp2
              have hlt := HK.out
              go_roundw
              case rel =>
                refine ⟨k + 1, hlt, by rw [HW.out], by rw [HL.out]; omega, ?_, hBr.trans (hB3.mono hBr.size)⟩
                have hz' := HLZ.out
                rw [HO.out, HL.out, show (!(decide (r.1 ≤ lastTo (-1) l k) || decide (r.2 ≤ r.1) || decide (65536 < r.2))) = true by simp only [Bool.not_eq_true', Bool.or_eq_false_iff, decide_eq_false_iff_not]; omega]
                rfl
              case measure => rw [HW.out]; simp only [intOf]; omega
      · obtain ⟨j, hj⟩ : ∃ j : Nat, k = j + 1 := ⟨k - 1, by omega⟩
        obtain ⟨q, hq⟩ : ∃ q, l[j]? = some q := ⟨_, List.getElem?_eq_getElem (by have := HK.out; omega)⟩
        obtain ⟨b', o', he, hb', d1, d2⟩ := H3.out j q hq
        cases he
        have d2' := (World.cell?_of_block (hBr.block b (Nat.lt_of_lt_of_le hb hB))).trans d2
        clear d1 d2
        have hl : lastTo (-1) l k = q.2 := by rw [hj]; simp [lastTo, hq]
        rw [hl] at HO hneg
        have hjl : (j : Int) < l.length := by have := HK.out; omega
        clear hq hl hb'
        have hd2 := fun d os => cell_regrown d2' d os
        clear d2'
        have dz : decide (0 < k) = true := decide_eq_true (by omega)
        have hw1 : wrap64 ((k : Int) - 1) = (j : Int) := by
          rw [wrap_in _ (by have := HK.out; simp only [maxLen] at h2; omega)]; omega
        clear hj hz
        by_cases g1 : r.1 < 0
        · have d1 : decide (r.1 < 0) = true := decide_eq_true g1
          go_upto_region 4 with fail
          refine wp_region_quiet_below (by kernel_rfl) (by kernel_rfl) ?_
          repeat (go_big_quiet_step (fail))
          refine wpQuiet_nil ?_
          rintro _ ⟨p, rfl⟩
          have hB3 := below_regrown wr p.d p.os
          go_wp2
          go_ret
          refine ⟨?_, hBr.trans (hB3.mono hBr.size)⟩
          rw [HO.out, show (!(decide (r.1 ≤ q.2) || decide (r.2 ≤ r.1) || decide (65536 < r.2))) = false by simp only [Bool.not_eq_false', Bool.or_eq_true, decide_eq_true_eq]; omega]
          rfl
        · have d1 : decide (r.1 < 0) = false := decide_eq_false g1
          by_cases g2 : r.2 ≤ r.1
          · have d2 : decide (r.2 ≤ r.1) = true := decide_eq_true g2
            go_upto_region 4 with fail
            refine wp_region_quiet_below (by kernel_rfl) (by kernel_rfl) ?_
            repeat (go_big_quiet_step (fail))
            refine wpQuiet_nil ?_
            rintro _ ⟨p, rfl⟩
            have hB3 := below_regrown wr p.d p.os
            go_wp2
            go_ret
            refine ⟨?_, hBr.trans (hB3.mono hBr.size)⟩
            rw [HO.out, show (!(decide (r.1 ≤ q.2) || decide (r.2 ≤ r.1) || decide (65536 < r.2))) = false by simp only [Bool.not_eq_false', Bool.or_eq_true, decide_eq_true_eq]; omega]
            rfl
          · have d2 : decide (r.2 ≤ r.1) = false := decide_eq_false g2
            by_cases g3 : 65536 < r.2
            · have d3 : decide (65536 < r.2) = true := decide_eq_true g3
              go_upto_region 4 with fail
              refine wp_region_quiet_below (by kernel_rfl) (by kernel_rfl) ?_
              repeat (go_big_quiet_step (fail))
              refine wpQuiet_nil ?_
              rintro _ ⟨p, rfl⟩
              have hB3 := below_regrown wr p.d p.os
              go_wp2
              go_ret
              refine ⟨?_, hBr.trans (hB3.mono hBr.size)⟩
              rw [HO.out, show (!(decide (r.1 ≤ q.2) || decide (r.2 ≤ r.1) || decide (65536 < r.2))) = false by simp only [Bool.not_eq_false', Bool.or_eq_true, decide_eq_true_eq]; omega]
              rfl
            · have d3 : decide (65536 < r.2) = false := decide_eq_false g3
              by_cases g4 : r.1 ≤ q.2
              · have d4 : decide (r.1 ≤ q.2) = true := decide_eq_true g4
                go_upto_region 4 with fail
                refine wp_region_quiet_below (by kernel_rfl) (by kernel_rfl) ?_
                repeat (go_big_quiet_step (fail))
                refine wpQuiet_nil ?_
                rintro _ ⟨p, rfl⟩
                have hB3 := below_regrown wr p.d p.os
                go_wp2
                go_ret
                refine ⟨?_, hBr.trans (hB3.mono hBr.size)⟩
                rw [HO.out, show (!(decide (r.1 ≤ q.2) || decide (r.2 ≤ r.1) || decide (65536 < r.2))) = false by simp only [Bool.not_eq_false', Bool.or_eq_true, decide_eq_true_eq]; omega]
                rfl
              · have d4 : decide (r.1 ≤ q.2) = false := decide_eq_false g4
                go_upto_region 4 with fail
                refine wp_region_quiet_below (by kernel_rfl) (by kernel_rfl) ?_
                repeat (go_big_quiet_step (fail))
                refine wpQuiet_nil ?_
                rintro _ ⟨p, rfl⟩
                have hB3 := below_regrown wr p.d p.os
                go_wp2
                have hlt := HK.out
                go_roundw
                case rel =>
                  refine ⟨k + 1, hlt, by rw [HW.out], by rw [HL.out]; omega, ?_, hBr.trans (hB3.mono hBr.size)⟩
                  rw [HO.out, HL.out, show (!(decide (r.1 ≤ q.2) || decide (r.2 ≤ r.1) || decide (65536 < r.2))) = true by simp only [Bool.not_eq_true', Bool.or_eq_false_iff, decide_eq_false_iff_not]; omega]
                  rfl
                case measure => rw [HW.out]; simp only [intOf]; omega
    · have hlt' : ¬ (k : Int) < l.length := by omega
      have e : l.drop k = [] := List.drop_eq_nil_of_le (by omega)
      have hok2 : okR l = true := by rw [hok, e]; rfl
      have HO := Lib.hid hok2
      clear hok hok2 e
      go_wp2
      go_ret
      exact ⟨by rw [HO.out]; rfl, hBr⟩
end Go.Proofs.YtapojgbiboeaiaaDoor
