/- TreeHolds' walk: whatever the files and the path, the law returns true. Conditions: the files are a readable slice, of at most 2^40 bytes as great reckons them; the library's variable is there. -/
import Derived.Test.YtifbjccioklaoaaDoorLu
namespace Go.Proofs.YtifbjccioklaoaaDoor
set_option linter.unusedVariables false
set_option linter.unusedSimpArgs false
open Go.RowKit Rng Go.Maps
/-- The best so far, as a text. -/
def strOpt (o : Option (List UInt8)) : ByteArray := match o with
  | none => ⟨#[]⟩
  | some x => ⟨x.toArray⟩
theorem holds_law (l : List (ByteArray × ByteArray)) (s : ByteArray) : strOpt (bestOf s.data.toList (namesL l)) = foundB l s ∧ (bestOf s.data.toList (namesL l)).isSome = isB l s := by
  have e1 : s.data.toList.length = s.size := by rw [← Lib.size_eq]
  have e2 : (fun x => (namesL l).contains x) = inN l := funext fun x => contains_namesL l x
  rw [best_near]
  unfold nearOf foundB isB strOpt
  rw [e1, e2]
  exact ⟨rfl, rfl⟩
theorem byte_at (x : List UInt8) (i : Nat) (h : i < (ByteArray.mk x.toArray).size) : x[i]? = some ((ByteArray.mk x.toArray)[i]'h) := by
  have hi : i < x.length := by have : (ByteArray.mk x.toArray).size = x.length := List.size_toArray; omega
  rw [List.getElem?_eq_getElem hi]
  rfl
theorem bestStep_no {p x : List UInt8} {o : Option (List UInt8)} (h : cand p x = false) : bestStep p o x = o := by unfold bestStep; rw [h]; rfl
set_option maxRecDepth 100000 in
set_option maxHeartbeats 4000000 in
theorem holds_true {B : Nat} {va : Value} {l : List (ByteArray × ByteArray)} (s : ByteArray) {W : World} (ha : FIn W va l) (hs : sumF l ≤ 1099511627776) (hB : B ≤ W.heap.size) (ht : EnvT B W) :
    Calls Tryd.prog 4 #[va, .string s] W fun e W' => e = .returned (.bool true) ∧ Below W.heap.size W W' := by
  have HL := Lib.hid (alive_calls W hB ht)
  have HA := Lib.hid ha
  have HT := Lib.hid (fun (w' : World) (b : Below W.heap.size W w') => And.intro (ht.later (b.mono hB)) (Nat.le_trans hB b.size))
  have HS := Lib.hid hs
  obtain ⟨a1, c1, rfl, q1⟩ := ha
  obtain ⟨p, hp⟩ : ∃ p, l.length = p := ⟨_, rfl⟩
  rw [hp] at HA ⊢
  clear q1 hp ht hs hB
  go_enter Tryd.func4, Tryd.ntmps4
  go_upto_region 2 with (go_at_call 6; refine HL.out.mono ?_; rintro e w1 ⟨rfl, hB1⟩)
  have HG := Lib.hid (great_calls (HA.out.later hB1) (Nat.le_refl _) HS.out)
  have HB1 := Lib.hid hB1
  clear hB1 HL
  by_cases g1 : 3000 < sumF l
  · rw [decide_eq_true g1] at HG
    go_wp2_with (go_at_call 7; refine HG.out.mono ?_; rintro e w2 ⟨rfl, hB2⟩)
    go_ret
    exact ⟨rfl, HB1.out.trans (hB2.mono HB1.out.size)⟩
  rw [decide_eq_false g1] at HG
  have HS3 := Lib.hid (show sumF l ≤ 3000 by omega)
  clear g1
  by_cases g2 : 1000 < s.size
  · have g2' : 1000 < (s.size : Int) := by omega
    go_wp2_with (go_at_call 7; refine HG.out.mono ?_; rintro e w2 ⟨rfl, hB2⟩)
    go_ret
    exact ⟨rfl, HB1.out.trans (hB2.mono HB1.out.size)⟩
  have g2' : ¬ 1000 < (s.size : Int) := by omega
  have HZ := Lib.hid (show s.size ≤ 1000 by omega)
  clear g2
  go_upto_region 4 with (go_at_call 7; refine HG.out.mono ?_; rintro e w2 ⟨rfl, hB2⟩)
  have HB2 := Lib.hid (HB1.out.trans (hB2.mono HB1.out.size))
  clear hB2 g2' HG
  have HA2 := Lib.hid (HA.out.later HB2.out)
  have HNR := Lib.hid (nearest2_calls HA2.out (Nat.le_refl _) HS3.out (HT.out _ HB2.out).1 (HT.out _ HB2.out).2 s HZ.out)
  obtain ⟨pb, hpb⟩ : ∃ pb, pathB s = pb := ⟨_, rfl⟩
  have HPB := Lib.hid hpb
  have HNT := Lib.hid (show nearT l s = if pb then .tuple #[.string (foundB l s), .bool (isB l s), .int .i64 0] else .tuple #[.string ⟨#[]⟩, .bool false, .int .i64 220] by unfold nearT; rw [hpb])
  rw [HNT.out] at HNR
  have HPF := Lib.hid (fun (w' : World) (hb : Below W.heap.size W w') => show Calls Tryd.prog 9 #[.string s] w' fun e w'' => e = .returned (.bool pb) ∧ Below w'.heap.size w' w'' by
    have := path_calls s (by have := HZ.out; omega) w' (HT.out _ hb).2 (HT.out _ hb).1
    rwa [hpb] at this)
  clear hpb
  cases pb with
  | false =>
    go_upto_region 5 with (go_at_call 10; refine HNR.out.mono ?_; rintro e w3 ⟨rfl, hB3⟩; simp only [Bool.false_eq_true, if_false])
    have HB3 := Lib.hid (HB2.out.trans (hB3.mono HB2.out.size))
    have HA3 := Lib.hid (HA2.out.later hB3)
    clear hB3 HNR
    have HU := Lib.hid (under_calls HA3.out (Nat.le_refl _) HS3.out (HT.out _ HB3.out).1 (HT.out _ HB3.out).2 ⟨#[]⟩ (by decide))
    go_upto_region 6 with (go_at_call 8; refine HU.out.mono ?_; rintro e w4 ⟨x1, k1, rfl, hB4, (⟨h0, _⟩ | ⟨_, rfl, hR1⟩)⟩; exact absurd rfl h0)
    have HB4 := Lib.hid (HB3.out.trans (hB4.mono HB3.out.size))
    clear hR1 hB4 HU
    go_wp2_with (go_at_call 9; refine (HPF.out _ HB4.out).mono ?_; rintro e w5 ⟨rfl, hB5⟩)
    go_ret
    exact ⟨rfl, HB4.out.trans (hB5.mono HB4.out.size)⟩
  | true =>
  obtain ⟨fb, hfb⟩ : ∃ fb, foundB l s = fb := ⟨_, rfl⟩
  obtain ⟨ib, hib⟩ : ∃ ib, isB l s = ib := ⟨_, rfl⟩
  rw [hfb, hib] at HNR
  have HLAW := Lib.hid (show strOpt (bestOf s.data.toList (namesL l)) = fb ∧ (bestOf s.data.toList (namesL l)).isSome = ib by rw [← hfb, ← hib]; exact holds_law l s)
  clear hfb hib
  go_upto_region 5 with (go_at_call 10; refine HNR.out.mono ?_; rintro e w3 ⟨rfl, hB3⟩; simp only [if_true])
  have HB3 := Lib.hid (HB2.out.trans (hB3.mono HB2.out.size))
  have HA3 := Lib.hid (HA2.out.later hB3)
  clear hB3 HNR
  have HU := Lib.hid (under_calls HA3.out (Nat.le_refl _) HS3.out (HT.out _ HB3.out).1 (HT.out _ HB3.out).2 ⟨#[]⟩ (by decide))
  go_upto_region 6 with (go_at_call 8; refine HU.out.mono ?_; rintro e w4 ⟨x1, k1, rfl, hB4, (⟨h0, _⟩ | ⟨_, rfl, hR1⟩)⟩; exact absurd rfl h0)
  have HR1 := Lib.hid (show SIn w4 x1 (namesL l) by rw [← underL_nil]; exact hR1)
  have HB4 := Lib.hid (HB3.out.trans (hB4.mono HB3.out.size))
  clear hR1 hB4 HU
  obtain ⟨ao1, cap1, rfl, z1, z2, z3⟩ := HR1.out
  obtain ⟨N, hN⟩ : ∃ N, namesL l = N := ⟨_, rfl⟩
  obtain ⟨fd, hfd⟩ : ∃ fd, s.data.toList = fd := ⟨_, rfl⟩
  have HNL := Lib.hid (show N.length ≤ 150 by rw [← hN]; have := namesL_length l; have := sumF_length l; have := HS3.out; omega)
  have HXL := Lib.hid (fun (x : List UInt8) (hx : x ∈ N) => show x.length ≤ 3000 from Nat.le_trans (namesL_len (l := l) (x := x) (by rw [hN]; exact hx)) HS3.out)
  rw [hN] at z1 z3 HLAW ⊢
  rw [hfd] at HLAW
  obtain ⟨n, hn⟩ : ∃ n, N.length = n := ⟨_, rfl⟩
  rw [hn] at z1 HNL ⊢
  have HNN := Lib.hid hn
  have HFD := Lib.hid hfd
  have HFL := Lib.hid (show fd.length = s.size by rw [← hfd, ← Lib.size_eq])
  have Z1 := Lib.hid z1
  have Z3 := Lib.hid z3
  clear hn hN hfd z1 z3 z2
  go_wp2
  go_loopw [11, 12, 13, 14, 15, 61] (fun bv hv _ _ _ i wr => ∃ k : Nat, k ≤ n ∧ i = .int .i64 k ∧ bv = .string (strOpt (bestOf fd (N.take k))) ∧ hv = .bool (bestOf fd (N.take k)).isSome ∧ Below w4.heap.size w4 wr) (fun _ _ _ _ _ i _ => n - (intOf i).toNat)
  case atStart => exact ⟨0, Nat.zero_le _, rfl, rfl, rfl, Below.refl _ _⟩
  case round =>
    obtain ⟨k, hk, rfl, rfl, rfl, hBr⟩ := hrel
    have HBr := Lib.hid hBr
    by_cases hlt : k < n
    · obtain ⟨x, hx⟩ : ∃ x, N[k]? = some x := ⟨_, List.getElem?_eq_getElem (by rw [HNN.out]; exact hlt)⟩
      obtain ⟨b1, o1, rfl, hb1, cx⟩ := Z3.out k x hx
      have hxl := HXL.out x (List.mem_of_getElem? hx)
      have hby0 := byte_at x
      have hsz0 : (ByteArray.mk x.toArray).size = x.length := List.size_toArray
      have htl0 : (ByteArray.mk x.toArray).data.toList = x := rfl
      have HSO0 := Lib.hid (show strOpt (some x) = ⟨x.toArray⟩ from rfl)
      rw [show encStr x = .string ⟨x.toArray⟩ from rfl] at cx
      obtain ⟨X, hX⟩ : ∃ X : ByteArray, (⟨x.toArray⟩ : ByteArray) = X := ⟨_, rfl⟩
      rw [hX] at cx hsz0 htl0 HSO0
      have hby : ∀ (i : Nat) (h : i < X.size), x[i]? = some (X[i]'h) := by subst hX; exact hby0
      have hcx := (World.cell?_of_block (hBr.block b1 hb1)).trans cx
      have HCX := Lib.hid hcx
      have hlt' : (k : Int) < n := by omega
      have HK := Lib.hid hlt
      have HBY := Lib.hid hby
      have HXZ := Lib.hid hsz0
      have HXT := Lib.hid htl0
      have HX3 := Lib.hid hxl
      have HWK := Lib.hid (show wrap64 ((k : Int) + 1) = ((k + 1 : Nat) : Int) by have := HNL.out; rw [wrap_in _ (by omega)]; omega)
      have HST := Lib.hid (show bestOf fd (N.take (k + 1)) = bestStep fd (bestOf fd (N.take k)) x by rw [List.take_add_one, hx]; exact bestOf_snoc _ _ _)
      obtain ⟨ob, hob⟩ : ∃ ob, bestOf fd (N.take k) = ob := ⟨_, rfl⟩
      rw [hob] at HST ⊢
      obtain ⟨bs, hbs⟩ : ∃ bs, strOpt ob = bs := ⟨_, rfl⟩
      obtain ⟨hs1, hhs⟩ : ∃ hs1, ob.isSome = hs1 := ⟨_, rfl⟩
      rw [hbs, hhs]
      have HBS := Lib.hid hbs
      have HHS := Lib.hid hhs
      have HNO := Lib.hid (show cand fd x = false → bestOf fd (N.take (k + 1)) = ob from fun h => by rw [HST.out, bestStep_no h])
      clear hx cx hBr hk hlt hX hby hby0 hsz0 htl0 hob hbs hhs hb1 hxl
      obtain ⟨q1, hq1⟩ : ∃ q1, (!(decide (5 ≤ x.length) && (x.drop (x.length - 5) == dotL) && (decide (x.length = 5) || x[x.length - 6]? == some 47))) = q1 := ⟨_, rfl⟩
      have HQ1 := Lib.hid hq1
      clear hq1
      go_upto_region 15 with fail
      go_cut [94] (fun c wx => c = .bool q1 ∧ wr = wx)
      case first =>
        have hcx := HCX.out
        by_cases h1 : X.size < 5
        · have h1' : (X.size : Int) < 5 := by omega
          have HQ := Lib.hid (show q1 = true by rw [← HQ1.out, decide_eq_false (by have := HXZ.out; omega)]; rfl)
          clear h1
          go_wp2
          go_meet
          case rel => exact ⟨by rw [HQ.out], rfl⟩
        have h1' : ¬ (X.size : Int) < 5 := by omega
        obtain ⟨z5, hz5⟩ : ∃ z5, X.size - 5 = z5 := ⟨_, rfl⟩
        have hw5 : wrap64 ((X.size : Int) - 5) = (z5 : Int) := by have := HX3.out; have := HXZ.out; rw [wrap_in _ (by omega)]; omega
        have hz5' : (z5 : Int) ≤ X.size := by omega
        have hz5n : z5 ≤ X.size := by omega
        obtain ⟨A, hA⟩ : ∃ A, X.extract z5 X.size = A := ⟨_, rfl⟩
        have hA2 : X.extract (X.size - 5) X.size = A := by rw [hz5]; exact hA
        have hAl : A.toList = x.drop (x.length - 5) := by
          rw [ByteArray.toList_eq, ← hA, cut_toList _ _ _ (Nat.le_refl _), HXT.out, HXZ.out, List.take_length, ← hz5, HXZ.out]
        have HD5 := Lib.hid (show decide (5 ≤ x.length) = true from decide_eq_true (by have := HXZ.out; omega))
        cases hd : (x.drop (x.length - 5) == dotL) with
        | false =>
          have hcmp : (A.toList == [46, 99, 102, 109, 116]) = false := by rw [hAl]; exact hd
          have HQ := Lib.hid (show q1 = true by rw [← HQ1.out, hd, Bool.and_false, Bool.false_and]; rfl)
          clear h1 hd hAl hz5
          go_wp2
          go_meet
          case rel => exact ⟨by rw [HQ.out], rfl⟩
        | true =>
          have hcmp : (A.toList == [46, 99, 102, 109, 116]) = true := by rw [hAl]; exact hd
          by_cases h5 : X.size = 5
          · have h5' : ¬ 5 < (X.size : Int) := by omega
            have HQ := Lib.hid (show q1 = false by rw [← HQ1.out, hd, HD5.out, decide_eq_true (by have := HXZ.out; omega)]; rfl)
            clear h1 hd hAl hz5 h5
            go_wp2
            go_meet
            case rel => exact ⟨by rw [HQ.out], rfl⟩
          have h5' : 5 < (X.size : Int) := by omega
          obtain ⟨z6, hz6⟩ : ∃ z6, X.size - 6 = z6 := ⟨_, rfl⟩
          have hw6 : wrap64 ((X.size : Int) - 6) = (z6 : Int) := by have := HX3.out; have := HXZ.out; clear hw5; rw [wrap_in _ (by omega)]; omega
          have h6 : z6 < X.size := by omega
          have h6' : (z6 : Int) < X.size := by omega
          obtain ⟨c, hc⟩ : ∃ c : Int, ((X[z6]'h6).toNat : Int) = c := ⟨_, rfl⟩
          have hx6 : x[x.length - 6]? = some (X[z6]'h6) := by rw [← HXZ.out, hz6]; exact HBY.out z6 h6
          have hdl : decide (x.length = 5) = false := decide_eq_false (by have := HXZ.out; omega)
          by_cases h47 : c = 47
          · have hc47 : (c == 47) = true := by simpa using h47
            have HQ := Lib.hid (show q1 = false by
              have e : X[z6]'h6 = 47 := UInt8.toNat_inj.1 (by show _ = 47; omega)
              rw [← HQ1.out, hd, HD5.out, hx6, e]; simp)
            clear h1 hd hAl hz5 h5 hz6 hx6 hdl h47
            go_wp2
            go_meet
            case rel => exact ⟨by rw [HQ.out]; simp [bne, hc47], rfl⟩
          · have hc47 : (c == 47) = false := by simpa using h47
            have HQ := Lib.hid (show q1 = true by
              have e : X[z6]'h6 ≠ 47 := fun e => h47 (by rw [← hc, e]; rfl)
              rw [← HQ1.out, hd, HD5.out, hx6, hdl]; simp [e])
            clear h1 hd hAl hz5 h5 hz6 hx6 hdl h47
            go_wp2
            go_meet
            case rel => exact ⟨by rw [HQ.out]; simp [bne, hc47], rfl⟩
      case rest =>
        obtain ⟨rfl, rfl⟩ := hcut
        have hcx := HCX.out
        cases q1 with
        | true =>
          have HN := Lib.hid (HNO.out (by
            have h := HQ1.out
            simp only [Bool.not_eq_true'] at h
            unfold cand
            rw [h]
            rfl))
          go_wp2
          refine ⟨⟨k + 1, HK.out, by first | rfl | rw [HWK.out], by rw [HN.out, HBS.out], by rw [HN.out, HHS.out], HBr.out⟩, ?_⟩
          have := HK.out
          first | (rw [HWK.out]; simp only [intOf]; omega) | (simp only [intOf]; omega)
        | false =>
          have hq := HQ1.out
          simp only [Bool.not_eq_false', Bool.and_eq_true, decide_eq_true_eq] at hq
          obtain ⟨⟨h5, hd⟩, hb⟩ := hq
          have HC0 := Lib.hid (show cand fd x = (x.take (x.length - 5)).isPrefixOf fd by unfold cand; rw [decide_eq_true h5, hd, hb]; rfl)
          obtain ⟨z5, hz5⟩ : ∃ z5, X.size - 5 = z5 := ⟨_, rfl⟩
          have hw5 : wrap64 ((X.size : Int) - 5) = (z5 : Int) := by have := HX3.out; have := HXZ.out; rw [wrap_in _ (by omega)]; omega
          have hz5' : (z5 : Int) ≤ X.size := by omega
          have hz5n : z5 ≤ X.size := by omega
          obtain ⟨Fo, hFo⟩ : ∃ Fo, X.extract 0 z5 = Fo := ⟨_, rfl⟩
          have hFo2 : X.extract 0 (X.size - 5) = Fo := by rw [hz5]; exact hFo
          have hFs : Fo.size = z5 := by rw [← hFo]; simp; omega
          have hFl : Fo.toList = x.take (x.length - 5) := by
            rw [ByteArray.toList_eq, ← hFo, cut_toList _ _ _ hz5n, HXT.out, List.drop_zero, ← HXZ.out, hz5]
          have HFS := Lib.hid hFs
          have HFLL := Lib.hid hFl
          have HZ5 := Lib.hid (show x.length - 5 = z5 by rw [← HXZ.out]; exact hz5)
          have HGE := Lib.hid h5
          clear h5 hd hb hz5 hFl hFs
          go_upto_region 17 with fail
          clear hcx hw5 hz5' hz5n hFo hFo2
          obtain ⟨q2, hq2⟩ : ∃ q2, (x.take (x.length - 5)).isPrefixOf fd = q2 := ⟨_, rfl⟩
          have HQ2 := Lib.hid hq2
          clear hq2
          go_cut [114] (fun c wx => c = .bool (!q2) ∧ wr = wx)
          case first =>
            have hFs := HFS.out
            by_cases hg : s.size < z5
            · have hg' : (s.size : Int) < z5 := by omega
              have HQ := Lib.hid (show q2 = false by
                rw [← HQ2.out]
                cases h : (x.take (x.length - 5)).isPrefixOf fd with
                | false => rfl
                | true =>
                  have := (List.isPrefixOf_iff_prefix.1 h).length_le
                  rw [List.length_take, HFL.out, HZ5.out] at this
                  have h5 := HZ5.out
                  omega)
              clear hg
              go_wp2
              go_meet
              case rel => exact ⟨by rw [HQ.out]; rfl, rfl⟩
            · have hg' : ¬ (s.size : Int) < z5 := by omega
              have hg2 : (z5 : Int) ≤ s.size := by omega
              have hg3 : z5 ≤ s.size := by omega
              obtain ⟨Pa, hPa⟩ : ∃ Pa, s.extract 0 z5 = Pa := ⟨_, rfl⟩
              have hPl : Pa.toList = fd.take z5 := by
                rw [ByteArray.toList_eq, ← hPa, cut_toList _ _ _ hg3, HFD.out, List.drop_zero]
              have HQ := Lib.hid (show q2 = (Pa.toList == Fo.toList) by
                rw [← HQ2.out, Bool.eq_iff_iff, List.isPrefixOf_iff_prefix, List.prefix_iff_eq_take, hPl, HFLL.out, List.length_take, HZ5.out, Nat.min_eq_left (by have := HZ5.out; omega), beq_iff_eq]
                exact ⟨fun h => h.symm, fun h => h.symm⟩)
              cases hcmp : (Pa.toList == Fo.toList) with
              | false =>
                rw [hcmp] at HQ
                clear hg hPl
                go_wp2
                go_meet
                case rel => exact ⟨by rw [HQ.out]; rfl, rfl⟩
              | true =>
                rw [hcmp] at HQ
                clear hg hPl
                go_wp2
                go_meet
                case rel => exact ⟨by rw [HQ.out]; rfl, rfl⟩
          case rest =>
            obtain ⟨rfl, rfl⟩ := hcut
            cases q2 with
            | false =>
              have HN := Lib.hid (HNO.out (by rw [HC0.out, HQ2.out]))
              go_wp2
              refine ⟨⟨k + 1, HK.out, by first | rfl | rw [HWK.out], by rw [HN.out, HBS.out], by rw [HN.out, HHS.out], HBr.out⟩, ?_⟩
              have := HK.out
              first | (rw [HWK.out]; simp only [intOf]; omega) | (simp only [intOf]; omega)
            | true =>
              have hcx := HCX.out
              have HCA := Lib.hid (show cand fd x = true by rw [HC0.out, HQ2.out])
              cases ob with
              | none =>
                have HH := HHS.out
                simp only [Option.isSome_none] at HH
                have HN := Lib.hid (show bestOf fd (N.take (k + 1)) = some x by rw [HST.out]; unfold bestStep; rw [HCA.out]; rfl)
                subst HH
                go_wp2
                go_roundw
                case rel => exact ⟨k + 1, HK.out, by first | rfl | rw [HWK.out], by rw [HN.out, HSO0.out], by rw [HN.out]; rfl, HBr.out⟩
                case measure => have := HK.out; first | (rw [HWK.out]; simp only [intOf]; omega) | (simp only [intOf]; omega)
              | some y =>
                have HH := HHS.out
                simp only [Option.isSome_some] at HH
                have hbz : bs.size = y.length := by rw [← HBS.out]; exact List.size_toArray
                subst HH
                by_cases hyx : y.length < x.length
                · have hyx' : (bs.size : Int) < X.size := by rw [hbz, HXZ.out]; omega
                  have HN := Lib.hid (show bestOf fd (N.take (k + 1)) = some x by rw [HST.out]; unfold bestStep; rw [HCA.out]; simp [hyx])
                  clear hyx hbz
                  go_wp2
                  go_roundw
                  case rel => exact ⟨k + 1, HK.out, by first | rfl | rw [HWK.out], by rw [HN.out, HSO0.out], by rw [HN.out]; rfl, HBr.out⟩
                  case measure => have := HK.out; first | (rw [HWK.out]; simp only [intOf]; omega) | (simp only [intOf]; omega)
                · have hyx' : ¬ (bs.size : Int) < X.size := by rw [hbz, HXZ.out]; omega
                  have HN := Lib.hid (show bestOf fd (N.take (k + 1)) = some y by rw [HST.out]; unfold bestStep; rw [HCA.out]; simp [hyx])
                  clear hyx hbz
                  go_wp2
                  go_roundw
                  case rel => exact ⟨k + 1, HK.out, by first | rfl | rw [HWK.out], by rw [HN.out, HBS.out], by rw [HN.out]; rfl, HBr.out⟩
                  case measure => have := HK.out; first | (rw [HWK.out]; simp only [intOf]; omega) | (simp only [intOf]; omega)
    · have hke : k = n := by omega
      subst hke
      have hT : N.take k = N := List.take_of_length_le (by rw [HNN.out]; exact Nat.le_refl _)
      rw [hT, HLAW.out.1, HLAW.out.2]
      have hlt' : ¬ (k : Int) < k := by omega
      have HB6 := Lib.hid (HB4.out.trans (HBr.out.mono HB4.out.size))
      clear hT hlt hk hBr
      cases ib <;>
      · go_wp2
        go_ret
        exact ⟨rfl, HB6.out⟩
end Go.Proofs.YtifbjccioklaoaaDoor
