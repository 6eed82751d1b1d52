/- SpansSets' walk: whatever the ranges, numbers and line, the law returns true. Conditions: the arguments are readable slices in blocks under B. -/
import Derived.Test.YtapojgbiboeaiaaLa
import Derived.Deep.DeepCutAuto
import Derived.Deep.CutBlock
namespace Go.Proofs.Ytapojgbiboeaiaa
set_option linter.unusedVariables false
set_option linter.unusedSimpArgs false
open Go.RowKit Rng
theorem Rn.below {B n : Nat} {w w' : World} {v : Value} {l : List Int} (h : Rn B w v l) (hb : Below n w w') (hn : B ≤ n) : Rn B w' v l := by
  obtain ⟨ao, cap, hv, h1, h2, h3⟩ := h
  refine ⟨ao, cap, hv, h1, h2, fun i z hz => ?_⟩
  obtain ⟨b, o, hx, hB, c⟩ := h3 i z hz
  exact ⟨b, o, hx, hB, (World.cell?_of_block (w := w) (hb.block b (Nat.lt_of_lt_of_le hB hn))).trans c⟩
theorem Rn.mono {B C : Nat} {w : World} {v : Value} {l : List Int} (h : Rn B w v l) (hn : B ≤ C) : Rn C w v l := by
  obtain ⟨ao, cap, hv, h1, h2, h3⟩ := h
  exact ⟨ao, cap, hv, h1, h2, fun i r hr => by obtain ⟨b, o, hx, hB, c⟩ := h3 i r hr; exact ⟨b, o, hx, Nat.lt_of_lt_of_le hB hn, c⟩⟩
/-- A readable slice of the ranges in this world. -/
def RIn (w : World) (v : Value) (l : List (Int × Int)) : Prop := Rd w.heap.size w v l
def NIn (w : World) (v : Value) (l : List Int) : Prop := Rn w.heap.size w v l
theorem RIn.later {w w' : World} {v : Value} {l : List (Int × Int)} (h : RIn w v l) (hb : Below w.heap.size w w') : RIn w' v l := Rd.mono (Rd.below h hb (Nat.le_refl _)) hb.size
theorem NIn.later {w w' : World} {v : Value} {l : List Int} (h : NIn w v l) (hb : Below w.heap.size w w') : NIn w' v l := (Rn.below h hb (Nat.le_refl _)).mono hb.size
def In64 (z : Int) : Prop := -9223372036854775808 ≤ z ∧ z ≤ 9223372036854775807
/-- The marks of the numbers so far. -/
def InAt (b N : Nat) (w : World) (L : List Int) (wr : World) : Prop := Below b w wr ∧ ∃ f, wr.heap[b]? = some (.cells (marks N f) 4 (0, 0)) ∧ (L.all isLine = true → ∀ i, i < N → f i = isIn L i)
theorem InAt.later {b N : Nat} {w wr w' : World} {L : List Int} (h : InAt b N w L wr) (hb : Below wr.heap.size wr w') : InAt b N w L w' := by
  obtain ⟨h1, f, h2, h3⟩ := h
  have hs := (Array.getElem?_eq_some_iff.1 h2).1
  exact ⟨h1.trans (hb.mono (Nat.le_of_lt hs)), f, (hb.block b hs).trans h2, h3⟩
theorem setUp_congr {f g : Nat → Bool} : ∀ {n : Nat}, (∀ i, i < n → g i = f i) → setUp g n = setUp f n
  | 0, _ => rfl
  | n + 1, h => by
    unfold setUp
    rw [h n (Nat.lt_succ_self n), setUp_congr (fun i hi => h i (by omega))]
theorem same_in {w : World} {v u : Value} {l : List (Int × Int)} (h : RIn w v l) (h' : RIn w u l) : Calls Try.prog 9 #[v, u] w fun e w' => e = .returned (.bool true) ∧ Below w.heap.size w w' := by
  have := same_calls h (Nat.le_refl _) h' (Nat.le_refl _)
  rw [decide_eq_true rfl] at this
  exact this
theorem isIn_snoc (L : List Int) (z : Int) (i : Nat) : isIn (L ++ [z]) i = (isIn L i || decide (z = i)) := by simp [isIn]
theorem inAt_set {b N zn : Nat} {w wr : World} {L : List Int} {f : Nat → Bool} (hB : Below b w wr) (hf : wr.heap[b]? = some (.cells (marks N f) 4 (0, 0))) (hL : ∀ i, i < N → f i = isIn L i) (hz : zn < N) :
    InAt b N w (L ++ [(zn : Int)]) (wr.setCell ⟨b, zn, none⟩ (.bool true)) :=
  ⟨hB.setCell (Nat.le_refl _) _, _, by rw [heap_setCell_same _ _ _ _ _ _ hf, marks_set _ _ _ hz], fun _ i hi => by
    rw [isIn_snoc]
    by_cases e : i = zn
    · subst e
      rw [if_pos rfl, decide_eq_true rfl, Bool.or_true]
    · rw [if_neg e, hL i hi, decide_eq_false (by omega), Bool.or_false]⟩
theorem meets_end {l : List (Int × Int)} {n z lim : Int} {j : Nat} (hlim : wrap64 (n + 1000) = lim) (h : ¬ (n + j < z) ∨ ¬ (n + j < lim)) (hj : j = 0 ∨ (n + j ≤ z ∧ n + j ≤ lim)) :
    z ≠ n → -1000 < n → n < 70000 → z < n + 1000 → anyHas l n j = meetsR l n z := by
  intro h1 h2 h3 h4
  rw [wrap_in _ (by omega)] at hlim
  have e : j = (z - n).toNat := by omega
  rw [meets_law (Ne.symm h1), e]
set_option maxRecDepth 100000 in
set_option maxHeartbeats 8000000 in
theorem sets_true {va vb vl : Value} {l m : List (Int × Int)} {zs : List Int} (n : Int) {W : World} (ha : RIn W va l) (hb : RIn W vb m) (hz : NIn W vl zs) (hn : In64 n) (hzs : ∀ z ∈ zs, In64 z) :
    Calls Try.prog 3 #[va, vb, vl, .int .i64 n] W fun e W' => e = .returned (.bool true) ∧ Below W.heap.size W W' := by
  have HI := Lib.hid hn
  have HIS := Lib.hid hzs
  clear hn hzs
  have HA := Lib.hid ha
  have HB := Lib.hid hb
  have HZ := Lib.hid hz
  obtain ⟨a1, c1, rfl, q1⟩ := ha
  obtain ⟨a2, c2, rfl, q2⟩ := hb
  obtain ⟨a3, c3, rfl, q3⟩ := hz
  obtain ⟨p, hp⟩ : ∃ p, l.length = p := ⟨_, rfl⟩
  obtain ⟨q, hq⟩ : ∃ q, m.length = q := ⟨_, rfl⟩
  obtain ⟨s, hs⟩ : ∃ s, zs.length = s := ⟨_, rfl⟩
  rw [hp] at HA ⊢
  rw [hq] at HB ⊢
  rw [hs] at HZ ⊢
  have HP := Lib.hid hp
  have HQ := Lib.hid hq
  have HS := Lib.hid hs
  clear q1 q2 q3 hp hq hs
  by_cases g1 : 50 < p
  · have g1' : 50 < (p : Int) := by omega
    go_enter Try.func3, Try.ntmps3
    go_wp2
    go_ret
    exact ⟨rfl, Below.refl _ _⟩
  by_cases g2 : 50 < q
  · have g2' : 50 < (q : Int) := by omega
    go_enter Try.func3, Try.ntmps3
    go_wp2
    go_ret
    exact ⟨rfl, Below.refl _ _⟩
  by_cases g3 : 50 < s
  · have g3' : 50 < (s : Int) := by omega
    go_enter Try.func3, Try.ntmps3
    go_wp2
    go_ret
    exact ⟨rfl, Below.refl _ _⟩
  have g1' : ¬ 50 < (p : Int) := by omega
  have g2' : ¬ 50 < (q : Int) := by omega
  have g3' : ¬ 50 < (s : Int) := by omega
  go_enter Try.func3, Try.ntmps3
  go_upto_region 3 with fail
  have HL := Lib.hid (show l.length ≤ 50 by rw [HP.out]; omega)
  have HM := Lib.hid (show m.length ≤ 50 by rw [HQ.out]; omega)
  have HN := Lib.hid (show zs.length ≤ 50 by rw [HS.out]; omega)
  clear g1' g2' g3' g1 g2 g3
  have HC1 := Lib.hid (or_any HA.out (Nat.le_refl _) HB.out (Nat.le_refl _) HL.out HM.out)
  go_upto_region 4 with (go_at_call 4; refine HC1.out.mono ?_; rintro e w1 ⟨x1, rfl, o1, b1⟩)
  have HA := Lib.hid (HA.out.later b1)
  have HB := Lib.hid (HB.out.later b1)
  have HZ := Lib.hid (HZ.out.later b1)
  have R1 := Lib.hid (show RIn w1 x1 (pairL false l m) from own_rd o1)
  have HW := Lib.hid b1
  clear HC1 o1 b1
  have HC2 := Lib.hid (both_any false HA.out (Nat.le_refl _) HB.out (Nat.le_refl _))
  go_upto_region 5 with (go_at_call 5; refine HC2.out.mono ?_; rintro e w2 ⟨x2, rfl, o2, b2⟩)
  have HA := Lib.hid (HA.out.later b2)
  have HB := Lib.hid (HB.out.later b2)
  have HZ := Lib.hid (HZ.out.later b2)
  have R1 := Lib.hid (R1.out.later b2)
  have R2 := Lib.hid (show RIn w2 x2 (pairL false l m) from own_rd o2)
  have HW := Lib.hid (HW.out.trans (b2.mono HW.out.size))
  clear HC2 o2 b2
  have HC3 := Lib.hid (and_any HA.out (Nat.le_refl _) HB.out (Nat.le_refl _) HL.out HM.out)
  go_upto_region 6 with (go_at_call 6; refine HC3.out.mono ?_; rintro e w3 ⟨x3, rfl, o3, b3⟩)
  have HA := Lib.hid (HA.out.later b3)
  have HB := Lib.hid (HB.out.later b3)
  have HZ := Lib.hid (HZ.out.later b3)
  have R1 := Lib.hid (R1.out.later b3)
  have R2 := Lib.hid (R2.out.later b3)
  have R3 := Lib.hid (show RIn w3 x3 (pairL true l m) from own_rd o3)
  have HW := Lib.hid (HW.out.trans (b3.mono HW.out.size))
  clear HC3 o3 b3
  have HC4 := Lib.hid (both_any true HA.out (Nat.le_refl _) HB.out (Nat.le_refl _))
  go_upto_region 7 with (go_at_call 5; refine HC4.out.mono ?_; rintro e w4 ⟨x4, rfl, o4, b4⟩)
  have HA := Lib.hid (HA.out.later b4)
  have HB := Lib.hid (HB.out.later b4)
  have HZ := Lib.hid (HZ.out.later b4)
  have R1 := Lib.hid (R1.out.later b4)
  have R2 := Lib.hid (R2.out.later b4)
  have R3 := Lib.hid (R3.out.later b4)
  have R4 := Lib.hid (show RIn w4 x4 (pairL true l m) from own_rd o4)
  have HW := Lib.hid (HW.out.trans (b4.mono HW.out.size))
  clear HC4 o4 b4
  have HC5 := Lib.hid (not_any n HA.out (Nat.le_refl _) HL.out)
  go_upto_region 8 with (go_at_call 7; refine HC5.out.mono ?_; rintro e w5 ⟨x5, rfl, o5, b5⟩)
  have HA := Lib.hid (HA.out.later b5)
  have HB := Lib.hid (HB.out.later b5)
  have HZ := Lib.hid (HZ.out.later b5)
  have R1 := Lib.hid (R1.out.later b5)
  have R2 := Lib.hid (R2.out.later b5)
  have R3 := Lib.hid (R3.out.later b5)
  have R4 := Lib.hid (R4.out.later b5)
  have R5 := Lib.hid (show RIn w5 x5 (notL l n) from own_rd o5)
  have HW := Lib.hid (HW.out.trans (b5.mono HW.out.size))
  clear HC5 o5 b5
  have HC6 := Lib.hid (rnot_any n HA.out (Nat.le_refl _))
  go_upto_region 9 with (go_at_call 8; refine HC6.out.mono ?_; rintro e w6 ⟨x6, rfl, o6, b6⟩)
  have HA := Lib.hid (HA.out.later b6)
  have HB := Lib.hid (HB.out.later b6)
  have HZ := Lib.hid (HZ.out.later b6)
  have R1 := Lib.hid (R1.out.later b6)
  have R2 := Lib.hid (R2.out.later b6)
  have R3 := Lib.hid (R3.out.later b6)
  have R4 := Lib.hid (R4.out.later b6)
  have R5 := Lib.hid (R5.out.later b6)
  have R6 := Lib.hid (show RIn w6 x6 (notL l n) from own_rd o6)
  have HW := Lib.hid (HW.out.trans (b6.mono HW.out.size))
  clear HC6 o6 b6
  have HC1 := Lib.hid (same_in R1.out R2.out)
  have HC2 := Lib.hid (fun (w' : World) (b : Below w6.heap.size w6 w') => same_in (R3.out.later b) (R4.out.later b))
  have HC3 := Lib.hid (fun (w' : World) (b : Below w6.heap.size w6 w') => same_in (R5.out.later b) (R6.out.later b))
  have HC4 := Lib.hid (fun (w' : World) (b : Below w6.heap.size w6 w') => has_calls n (HA.out.later b) (Nat.le_refl _))
  have HC5 := Lib.hid (fun (w' : World) (b : Below w6.heap.size w6 w') => rhas_calls n (HA.out.later b) (Nat.le_refl _))
  obtain ⟨ha, hha⟩ : ∃ h, hasR l n = h := ⟨_, rfl⟩
  rw [hha] at HC4 HC5
  clear hha R1 R2 R3 R4 R5 R6
  go_upto_region 11 with (first | (go_at_call 9; refine HC1.out.mono ?_; clear HC1; rintro e y1 ⟨rfl, d1⟩) | (go_at_call 9; refine (HC2.out _ d1).mono ?_; clear HC2; rintro e y2 ⟨rfl, e2⟩; have d2 := d1.trans (e2.mono d1.size)) | (go_at_call 9; refine (HC3.out _ d2).mono ?_; clear HC3; rintro e y3 ⟨rfl, e3⟩; have d3 := d2.trans (e3.mono d2.size)) | (go_at_call 10; refine (HC4.out _ d3).mono ?_; rintro e y4 ⟨rfl, e4⟩; have d4 := d3.trans (e4.mono d3.size)) | (go_at_call 11; refine (HC5.out _ d4).mono ?_; rintro e y5 ⟨rfl, e5⟩; have d5 := d4.trans (e5.mono d4.size)))
  have HA := Lib.hid (HA.out.later d5)
  have HZ := Lib.hid (HZ.out.later d5)
  have HW := Lib.hid (HW.out.trans (d5.mono HW.out.size))
  have HC6 := Lib.hid (of_any HZ.out (Nat.le_refl _) HN.out)
  clear HC4 HC5 HB d1 d2 d3 d4 d5 e2 e3 e4 e5
  go_upto_region 12 with (go_at_call 12; refine HC6.out.mono ?_; rintro e w7 ⟨x7, rfl, o7, b7⟩)
  have HA := Lib.hid (HA.out.later b7)
  have HZ := Lib.hid (HZ.out.later b7)
  have R7 := Lib.hid (show RIn w7 x7 (ofL zs) from own_rd o7)
  have HW := Lib.hid (HW.out.trans (b7.mono HW.out.size))
  clear HC6 o7 b7
  have hmk := make_bools w7
  obtain ⟨N, hN⟩ : ∃ N : Nat, 65536 = N := ⟨_, rfl⟩
  rw [hN] at hmk
  have HNN := Lib.hid hN
  clear hN
  go_upto_region 13 with fail
  clear hmk
  obtain ⟨b, hbb⟩ : ∃ b, w7.heap.size = b := ⟨_, rfl⟩
  obtain ⟨W1, hW1⟩ : ∃ W1, w7.alloc (.cells (marks N fun _ => false) 4) = W1 := ⟨_, rfl⟩
  have hb1 : W1.heap[b]? = some (.cells (marks N fun _ => false) 4 (0, 0)) := by rw [← hW1, ← hbb]; exact World.alloc_heap_new w7 _
  have hB1 : Below b w7 W1 := by rw [← hW1, ← hbb]; exact (Below.refl _ w7).alloc (Nat.le_refl _) _
  change Code.wp _ _ _ _ (w7.alloc (.cells (marks N fun _ => false) 4))
  rw [hW1, hbb]
  clear hW1
  go_wp2
  have HB1 := Lib.hid hb1
  have HBB := Lib.hid hB1
  have HSB := Lib.hid hbb
  clear hb1 hB1 hbb
  obtain ⟨z1, z2, z3⟩ : s ≤ c3 ∧ c3 ≤ maxLen ∧ ∀ (i : Nat) (z : Int), zs[i]? = some z → ∃ bb o, a3 = some ⟨bb, o, none⟩ ∧ bb < b ∧ w7.cell? ⟨bb, o + i, none⟩ = some (.int .i64 z) := by
    obtain ⟨ao, cap, hv, z1, z2, z3⟩ := HZ.out
    simp only [Value.slice.injEq] at hv
    obtain ⟨rfl, e, rfl⟩ := hv
    rw [HSB.out] at z3
    exact ⟨by omega, z2, z3⟩
  have Z1 := Lib.hid z1
  have Z2 := Lib.hid z2
  have Z3 := Lib.hid z3
  have HAb := Lib.hid (fun (w' : World) (hw : Below b w7 w') => show Rd b w' (.slice a1 p c1) l ∧ b ≤ w'.heap.size by
    have h1 := HA.out
    have h2 := hw.size
    unfold RIn at h1
    rw [HSB.out] at h1 h2
    exact ⟨h1.below hw (Nat.le_refl _), h2⟩)
  clear z1 z2 z3 HZ
  go_loopw [24, 25] (fun right i wr => ∃ k : Nat, k ≤ s ∧ i = .int .i64 k ∧ right = .bool ((zs.take k).all isLine) ∧ InAt b N w7 (zs.take k) wr) (fun _ i _ => s - (intOf i).toNat)
  case atStart => exact ⟨0, Nat.zero_le _, rfl, rfl, HBB.out, _, HB1.out, fun _ i _ => rfl⟩
  case round =>
    obtain ⟨k, hk, rfl, rfl, hIn⟩ := hrel
    have HIn := Lib.hid hIn
    by_cases hlt : k < s
    · obtain ⟨z, hz⟩ : ∃ z, zs[k]? = some z := ⟨_, List.getElem?_eq_getElem (by rw [HS.out]; exact hlt)⟩
      obtain ⟨bb, o, rfl, hbb, cz⟩ := Z3.out k z hz
      have hlt' : (k : Int) < s := by omega
      have czr := (World.cell?_of_block (hIn.1.block bb hbb)).trans cz
      have HZI := Lib.hid (HIS.out z (List.mem_of_getElem? hz))
      have HT := Lib.hid (show zs.take (k + 1) = zs.take k ++ [z] by rw [List.take_add_one, hz]; rfl)
      have HK := Lib.hid hlt
      have HWK := Lib.hid (wrap_succ hlt Z1.out Z2.out)
      have HR := Lib.hid (show (zs.take (k + 1)).all isLine = ((zs.take k).all isLine && isLine z) by rw [HT.out, List.all_append]; simp)
      have HCZ := Lib.hid cz
      clear hz hlt cz hIn
      go_upto_region 17 with fail
      go_cut [24] (fun r wx => r = .bool ((zs.take (k + 1)).all isLine) ∧ wx = wr)
      case first =>
        cases hr : (zs.take k).all isLine with
        | false =>
          rw [hr] at HR
          have HR2 := Lib.hid (show (zs.take (k + 1)).all isLine = false from HR.out)
          go_wp2
          go_meet
          case rel => exact ⟨by rw [HR2.out], rfl⟩
        | true =>
          rw [hr] at HR
          by_cases e1 : z < 0
          · have HR2 := Lib.hid (show (zs.take (k + 1)).all isLine = false by rw [HR.out]; simp [isLine]; omega)
            go_wp2
            go_meet
            case rel => exact ⟨by rw [HR2.out], rfl⟩
          · by_cases e2 : z < 65536
            · have HR2 := Lib.hid (show (zs.take (k + 1)).all isLine = true by rw [HR.out]; simp [isLine]; omega)
              go_wp2
              go_meet
              case rel => exact ⟨by rw [HR2.out], rfl⟩
            · have HR2 := Lib.hid (show (zs.take (k + 1)).all isLine = false by rw [HR.out]; simp [isLine]; omega)
              go_wp2
              go_meet
              case rel => exact ⟨by rw [HR2.out], rfl⟩
      case rest =>
        obtain ⟨rfl, rfl⟩ := hcut
        clear czr
        go_upto_if 144 with fail
        go_cut [24, 144] (fun r _ wx => r = .bool ((zs.take (k + 1)).all isLine) ∧ InAt b N w7 (zs.take (k + 1)) wx)
        case first =>
          obtain ⟨hBx, f, hf, hfL⟩ := HIn.out
          have HBx := Lib.hid hBx
          have HF := Lib.hid hf
          have HFL := Lib.hid hfL
          cases hr : (zs.take (k + 1)).all isLine with
          | false =>
            have HR3 := Lib.hid hr
            clear hBx hf hfL
            go_wp2
            go_meet
            case rel => exact ⟨by rw [HR3.out], HBx.out, f, HF.out, fun h => by rw [HR3.out] at h; cases h⟩
          | true =>
            have hr2 := HR.out
            rw [hr] at hr2
            have hr3 := (Bool.and_eq_true _ _).mp hr2.symm
            have hz3 : 0 ≤ z ∧ z < 65536 := by simpa [isLine] using hr3.2
            obtain ⟨zn, rfl⟩ : ∃ zn : Nat, z = zn := ⟨z.toNat, by omega⟩
            have hzN : zn < N := by have := HNN.out; omega
            have HZN := Lib.hid hzN
            have hzN' : (zn : Int) < N := by omega
            have czr := (World.cell?_of_block (hBx.block bb hbb)).trans HCZ.out
            have hcm := (cell_of hf zn).trans (marks_get _ _ zn hzN)
            have hfm := frozen_of_row _ b zn _ _ hf
            have HR3 := Lib.hid (And.intro hr hr3.1)
            clear hBx hf hfL hr hr2 hr3 hz3 hzN
            go_wp2
            go_meet
            case rel =>
              refine ⟨by rw [HR3.out.1], ?_⟩
              rw [HT.out]
              exact inAt_set HBx.out HF.out (HFL.out HR3.out.2) HZN.out
        case rest =>
          clear HIn
          obtain ⟨rfl, hIn⟩ := hcut
          have HIn := Lib.hid hIn
          obtain ⟨R, hRR⟩ : ∃ R, (zs.take (k + 1)).all isLine = R := ⟨_, rfl⟩
          rw [hRR]
          have HRR := Lib.hid hRR
          obtain ⟨lim, hlim⟩ : ∃ lim, wrap64 (n + 1000) = lim := ⟨_, rfl⟩
          have HLIM := Lib.hid hlim
          clear HR hIn hRR
          go_upto_block 2 with fail
          go_cut [26, 27] (fun mt _ wx => ∃ M, mt = .bool M ∧ (z ≠ n → -1000 < n → n < 70000 → z < n + 1000 → M = meetsR l n z) ∧ InAt b N w7 (zs.take (k + 1)) wx)
          case first =>
            go_wp2_with fail
            go_loopw [26, 27] (fun mt v wx => ∃ j : Nat, v = .int .i64 (n + j) ∧ mt = .bool (anyHas l n j) ∧ (j = 0 ∨ (n + j ≤ z ∧ n + j ≤ lim)) ∧ InAt b N w7 (zs.take (k + 1)) wx) (fun _ v _ => (z - intOf v).toNat)
            case atStart => exact ⟨0, by simp, rfl, .inl rfl, HIn.out⟩
            case round =>
              obtain ⟨j, rfl, rfl, hj, hIx⟩ := hrel
              have HIx := Lib.hid hIx
              have HJ := Lib.hid hj
              have czr := (World.cell?_of_block (hIx.1.block bb hbb)).trans HCZ.out
              obtain ⟨hr1, hr2⟩ := HAb.out _ hIx.1
              have HCL := Lib.hid (rhas_calls (n + j) hr1 hr2)
              have HAS := Lib.hid (anyHas_succ l n j)
              clear hIx hr1 hr2 hj
              by_cases c1 : n + j < z
              · by_cases c2 : n + j < lim
                · have HNX := Lib.hid (show wrap64 (n + j + 1) = n + ((j + 1 : Nat) : Int) by
                    have := HZI.out
                    have := HI.out
                    unfold In64 at *
                    rw [wrap_in _ (by omega)]
                    push_cast
                    omega)
                  cases hm : anyHas l n j with
                  | true =>
                    rw [hm] at HAS
                    clear hm
                    go_wp2
                    go_roundw
                    case rel => exact ⟨j + 1, by rw [HNX.out], by rw [HAS.out]; rfl, .inr (by push_cast; omega), HIx.out⟩
                    case measure => rw [HNX.out]; simp only [intOf]; omega
                  | false =>
                    rw [hm] at HAS
                    clear hm
                    obtain ⟨hv, hhv⟩ : ∃ h, hasR l (n + j) = h := ⟨_, rfl⟩
                    rw [hhv] at HCL HAS
                    clear hhv
                    go_wp2_with (go_at_call 11; refine HCL.out.mono ?_; rintro e y1 ⟨rfl, d1⟩)
                    go_roundw
                    case rel => exact ⟨j + 1, by rw [HNX.out], by rw [HAS.out]; rfl, .inr (by push_cast; omega), HIx.out.later d1⟩
                    case measure => rw [HNX.out]; simp only [intOf]; omega
                · have HE := Lib.hid (meets_end (l := l) HLIM.out (.inr c2) HJ.out)
                  go_wp2
                  go_meet
                  case rel => exact ⟨_, rfl, HE.out, HIx.out⟩
              · have HE := Lib.hid (meets_end (l := l) HLIM.out (.inl c1) HJ.out)
                go_wp2
                go_meet
                case rel => exact ⟨_, rfl, HE.out, HIx.out⟩
          case rest =>
            clear HIn
            obtain ⟨M1, rfl, hM1, hIx⟩ := hcut
            have HIx := Lib.hid hIx
            have HM1 := Lib.hid hM1
            have czr := (World.cell?_of_block (hIx.1.block bb hbb)).trans HCZ.out
            obtain ⟨hr1, hr2⟩ := HAb.out _ hIx.1
            have HCa := Lib.hid (rhas_calls n hr1 hr2)
            have HCb := Lib.hid (fun (w' : World) (hw : Below wc.heap.size wc w') => rhas_calls (n - 1) (hr1.below hw hr2) (Nat.le_trans hr2 hw.size))
            clear hIx hr1 hr2 hM1
            go_upto_if 177 with fail
            go_cut [26, 175, 176, 177] (fun mt _ _ _ wx => ∃ M, mt = .bool M ∧ (-1000 < n → n < 70000 → z < n + 1000 → M = meetsR l n z) ∧ InAt b N w7 (zs.take (k + 1)) wx)
            case first =>
              by_cases e : z = n
              · have hzn : (z == n) = true := by simpa using e
                have HMR := Lib.hid (show meetsR l n z = (hasR l n || (decide (0 < n) && hasR l (n - 1))) by unfold meetsR; rw [if_pos e.symm])
                clear e
                obtain ⟨u1, hu1⟩ : ∃ u, hasR l n = u := ⟨_, rfl⟩
                obtain ⟨u2, hu2⟩ : ∃ u, hasR l (n - 1) = u := ⟨_, rfl⟩
                rw [hu1] at HCa HMR
                rw [hu2] at HCb HMR
                clear hu1 hu2
                cases u1 with
                | true =>
                  go_wp2_with (go_at_call 11; refine HCa.out.mono ?_; clear HCa; rintro e y1 ⟨rfl, d1⟩)
                  go_meet
                  case rel => exact ⟨true, rfl, fun _ _ _ => by rw [HMR.out]; rfl, HIx.out.later d1⟩
                | false =>
                  by_cases hp : 0 < n
                  · have hw := show wrap64 (n - 1) = n - 1 by
                      have := HI.out
                      unfold In64 at this
                      rw [wrap_in _ (by omega)]
                    rw [decide_eq_true hp] at HMR
                    obtain ⟨n1, hn1⟩ : ∃ x, n - 1 = x := ⟨_, rfl⟩
                    rw [hn1] at HCb hw
                    go_wp2_with (first | (go_at_call 11; refine HCa.out.mono ?_; clear HCa; rintro e y1 ⟨rfl, d1⟩) | (go_at_call 11; refine (HCb.out _ d1).mono ?_; clear HCb; rintro e y2 ⟨rfl, d2⟩))
                    go_meet
                    case rel => exact ⟨u2, rfl, fun _ _ _ => by rw [HMR.out]; rfl, (HIx.out.later d1).later d2⟩
                  · rw [decide_eq_false hp] at HMR
                    go_wp2_with (go_at_call 11; refine HCa.out.mono ?_; clear HCa; rintro e y1 ⟨rfl, d1⟩)
                    go_meet
                    case rel => exact ⟨false, rfl, fun _ _ _ => by rw [HMR.out]; rfl, HIx.out.later d1⟩
              · have hzn : (z == n) = false := by simpa using e
                have HNE := Lib.hid e
                clear e
                go_wp2
                go_meet
                case rel => exact ⟨M1, rfl, HM1.out HNE.out, HIx.out⟩
            case rest =>
              clear HCa HCb HIx czr
              obtain ⟨M2, rfl, hM2, hIx⟩ := hcut
              have HIx := Lib.hid hIx
              have HM2 := Lib.hid hM2
              have czr := (World.cell?_of_block (hIx.1.block bb hbb)).trans HCZ.out
              obtain ⟨hr1, hr2⟩ := HAb.out _ hIx.1
              have hwn : 0 < n → wrap64 (n - 1) = n - 1 := by
                intro h
                have := HI.out
                unfold In64 at this
                rw [wrap_in _ (by omega)]
              have HCM := Lib.hid (meets_calls n z hr1 hr2 hwn)
              clear hIx hr1 hr2 hM2 hwn
              by_cases h1 : -1000 < n
              · by_cases h2 : n < 70000
                · have hw : wrap64 (n + 1000) = n + 1000 := wrap_in _ (by omega)
                  clear hlim
                  by_cases h3 : z < n + 1000
                  · have hME : M2 = meetsR l n z := HM2.out h1 h2 h3
                    rw [← hME] at HCM
                    clear hME
                    cases M2 with
                    | true =>
                      go_wp2_with (go_at_call 13; refine HCM.out.mono ?_; rintro e y1 ⟨rfl, d1⟩)
                      go_roundw
                      case rel => exact ⟨k + 1, HK.out, by rw [HWK.out], by rw [HRR.out], HIx.out.later d1⟩
                      case measure => rw [HWK.out]; have := HK.out; simp only [intOf]; omega
                    | false =>
                      go_wp2_with (go_at_call 13; refine HCM.out.mono ?_; rintro e y1 ⟨rfl, d1⟩)
                      go_roundw
                      case rel => exact ⟨k + 1, HK.out, by rw [HWK.out], by rw [HRR.out], HIx.out.later d1⟩
                      case measure => rw [HWK.out]; have := HK.out; simp only [intOf]; omega
                  · have hd := decide_eq_false h3
                    clear h3
                    go_wp2
                    all_goals
                      go_roundw
                      case rel => exact ⟨k + 1, HK.out, by rw [HWK.out], by rw [HRR.out], HIx.out⟩
                      case measure => rw [HWK.out]; have := HK.out; simp only [intOf]; omega
                · have hd := decide_eq_false h2
                  clear h2
                  go_wp2
                  all_goals
                    go_roundw
                    case rel => exact ⟨k + 1, HK.out, by rw [HWK.out], by rw [HRR.out], HIx.out⟩
                    case measure => rw [HWK.out]; have := HK.out; simp only [intOf]; omega
              · have hd := decide_eq_false h1
                clear h1
                go_wp2
                all_goals
                  go_roundw
                  case rel => exact ⟨k + 1, HK.out, by rw [HWK.out], by rw [HRR.out], HIx.out⟩
                  case measure => rw [HWK.out]; have := HK.out; simp only [intOf]; omega
    · have hlt' : ¬ (k : Int) < s := by omega
      have hT : zs.take k = zs := List.take_of_length_le (by rw [HS.out]; omega)
      rw [hT] at hIn ⊢
      clear hT HIn
      obtain ⟨hBx, f, hf, hfL⟩ := hIn
      have hBW := HW.out.trans (hBx.mono (by rw [← HSB.out]; exact HW.out.size))
      have hR7 := R7.out.later (show Below w7.heap.size w7 wr by rw [HSB.out]; exact hBx)
      have HST := Lib.hid (set_calls (cap := N) hf (by have := HNN.out; omega))
      cases hr : zs.all isLine with
      | false =>
        have hc : ofC zs = 2 := by simp [ofC, hr]
        have hL : ofL zs = [] := by simp [ofL, hr]
        rw [hL] at hR7
        obtain ⟨ao, cp, hv, _⟩ := hR7
        rw [hc, hv]
        clear hBx hf hfL HST
        go_wp2
        go_ret
        exact ⟨rfl, hBW⟩
      | true =>
        have hc : ofC zs = 0 := by simp [ofC, hr]
        have hL : ofL zs = setUp f N := by
          unfold ofL
          rw [hr, if_pos rfl, HNN.out]
          exact setUp_congr fun i hi => (hfL hr i hi).symm
        have HSM := Lib.hid (fun (y : World) (v : Value) (ho : Own y wr.heap.size v (setUp f N)) (hy : Below wr.heap.size wr y) => same_in (RIn.later hR7 hy) (show RIn y v (ofL zs) from by rw [hL]; exact own_rd ho))
        rw [hc]
        clear hBx hf hfL hR7
        go_wp2_with (first | (go_at_call 14; refine HST.out.mono ?_; rintro e y1 ⟨v1, rfl, o1, d1⟩) | (go_at_call 9; refine (HSM.out _ _ o1 d1).mono ?_; rintro e y2 ⟨rfl, d2⟩))
        go_ret
        exact ⟨rfl, (hBW.trans (d1.mono hBW.size)).trans (d2.mono (Nat.le_trans hBW.size d1.size))⟩
end Go.Proofs.Ytapojgbiboeaiaa
