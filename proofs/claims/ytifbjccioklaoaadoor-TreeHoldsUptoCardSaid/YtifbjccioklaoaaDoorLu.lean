/- TreeUnder's walk: whatever the files and the folder, the law returns true. Conditions: the files are a readable slice, of at most 2^40 bytes as great reckons them; the library's variable is there. -/
import Derived.Test.YtifbjccioklaoaaDoorAl
import Derived.Deep.DeepCutAuto
import Derived.Deep.CutBlock
namespace Go.Proofs.YtifbjccioklaoaaDoor
set_option linter.unusedVariables false
set_option linter.unusedSimpArgs false
open Go.RowKit Rng Go.Maps
theorem underL_nil (l : List (ByteArray × ByteArray)) : underL l [] = namesL l := by
  unfold underL
  exact List.filter_eq_self.2 fun x _ => inF_nil x
theorem filter_take {p : List UInt8 → Bool} {L : List (List UInt8)} {k : Nat} {x : List UInt8} (hx : L[k]? = some x) : (L.take (k + 1)).filter p = if p x then (L.take k).filter p ++ [x] else (L.take k).filter p := by
  rw [List.take_add_one, hx, List.filter_append]
  cases h : p x <;> simp [h]
theorem filter_get {p : List UInt8 → Bool} {L : List (List UInt8)} {k : Nat} {x : List UInt8} (hx : L[k]? = some x) (h : p x = true) : (L.filter p)[((L.take k).filter p).length]? = some x := by
  have e : L.filter p = (L.take (k + 1)).filter p ++ (L.drop (k + 1)).filter p := by rw [← List.filter_append, List.take_append_drop]
  rw [e, filter_take hx, if_pos h, List.append_assoc, List.getElem?_append_right (Nat.le_refl _), Nat.sub_self]
  rfl
theorem namesL_ok {l : List (ByteArray × ByteArray)} {x : List UInt8} (h : x ∈ namesL l) : pathB ⟨x.toArray⟩ = true := (mem_names.1 h).2
theorem namesL_len {l : List (ByteArray × ByteArray)} {x : List UInt8} (h : x ∈ namesL l) : x.length ≤ sumF l := by
  obtain ⟨f, hf, rfl⟩ := List.mem_map.1 (mem_names.1 h).1
  have := sumF_mem hf
  have e : f.1.data.toList.length = f.1.size := by rw [Array.length_toList]; rfl
  omega
theorem namesL_length (l : List (ByteArray × ByteArray)) : (namesL l).length ≤ l.length := by
  have := names_length okL (l.map fun f => f.1.data.toList)
  simpa [namesL] using this
set_option maxRecDepth 100000 in
set_option maxHeartbeats 4000000 in
theorem under_true {B : Nat} {va : Value} {l : List (ByteArray × ByteArray)} (s : ByteArray) {W : World} (ha : FIn W va l) (hs : sumF l ≤ 1099511627776) (hB : B ≤ W.heap.size) (ht : EnvT B W) :
    Calls Tryd.prog 3 #[va, .string s] W fun e W' => e = .returned (.bool true) ∧ Below W.heap.size W W' := by
  have HL := Lib.hid (alive_calls W hB ht)
  have HA := Lib.hid ha
  have HT := Lib.hid (fun (w' : World) (b : Below W.heap.size W w') => And.intro (ht.later (b.mono hB)) (Nat.le_trans hB b.size))
  have HS := Lib.hid hs
  obtain ⟨a1, c1, rfl, q1⟩ := ha
  obtain ⟨p, hp⟩ : ∃ p, l.length = p := ⟨_, rfl⟩
  rw [hp] at HA ⊢
  clear q1 hp ht hs hB
  go_enter Tryd.func3, Tryd.ntmps3
  go_upto_region 2 with (go_at_call 6; refine HL.out.mono ?_; rintro e w1 ⟨rfl, hB1⟩)
  have HG := Lib.hid (great_calls (HA.out.later hB1) (Nat.le_refl _) HS.out)
  have HB1 := Lib.hid hB1
  clear hB1 HL
  by_cases g1 : 3000 < sumF l
  · rw [decide_eq_true g1] at HG
    go_wp2_with (go_at_call 7; refine HG.out.mono ?_; rintro e w2 ⟨rfl, hB2⟩)
    go_ret
    exact ⟨rfl, HB1.out.trans (hB2.mono HB1.out.size)⟩
  rw [decide_eq_false g1] at HG
  have HS3 := Lib.hid (show sumF l ≤ 3000 by omega)
  clear g1
  by_cases g2 : 1000 < s.size
  · have g2' : 1000 < (s.size : Int) := by omega
    go_wp2_with (go_at_call 7; refine HG.out.mono ?_; rintro e w2 ⟨rfl, hB2⟩)
    go_ret
    exact ⟨rfl, HB1.out.trans (hB2.mono HB1.out.size)⟩
  have g2' : ¬ 1000 < (s.size : Int) := by omega
  have HZ := Lib.hid (show s.size ≤ 1000 by omega)
  clear g2
  go_upto_region 4 with (go_at_call 7; refine HG.out.mono ?_; rintro e w2 ⟨rfl, hB2⟩)
  have HB2 := Lib.hid (HB1.out.trans (hB2.mono HB1.out.size))
  clear hB2 g2' HG
  have HA2 := Lib.hid (HA.out.later HB2.out)
  have HU := Lib.hid (under_calls HA2.out (Nat.le_refl _) HS3.out (HT.out _ HB2.out).1 (HT.out _ HB2.out).2 ⟨#[]⟩ (by decide))
  go_upto_region 5 with (go_at_call 8; refine HU.out.mono ?_; rintro e w3 ⟨x1, k1, rfl, hB3, (⟨h0, _⟩ | ⟨_, rfl, hR1⟩)⟩; exact absurd rfl h0)
  have HR1 := Lib.hid (show SIn w3 x1 (namesL l) by rw [← underL_nil]; exact hR1)
  have HB3 := Lib.hid (HB2.out.trans (hB3.mono HB2.out.size))
  have HA3 := Lib.hid (HA2.out.later hB3)
  clear hR1 hB3 HU
  have HU := Lib.hid (under_calls HA3.out (Nat.le_refl _) HS3.out (HT.out _ HB3.out).1 (HT.out _ HB3.out).2 s HZ.out)
  go_upto_region 6 with (go_at_call 8; refine HU.out.mono ?_; rintro e w4 ⟨x2, k2, rfl, hB4, hends⟩)
  have HR1 := Lib.hid (HR1.out.later hB4)
  have HB4 := Lib.hid (HB3.out.trans (hB4.mono HB3.out.size))
  clear hB4 HU
  have HPF := Lib.hid (path_calls s (by have := HZ.out; omega) w4 (HT.out _ HB4.out).2 (HT.out _ HB4.out).1)
  rcases hends with ⟨h0, h1, rfl, rfl⟩ | ⟨h1, rfl, hR2⟩
  · have hne : (s.toList == []) = false := by
      rw [ByteArray.toList_eq]
      cases hd : s.data.toList with
      | nil => exact absurd (by rw [Lib.size_eq s, hd]; rfl) h0
      | cons b l => rfl
    rw [h1] at HPF
    clear h0 h1
    go_wp2_with (go_at_call 9; refine HPF.out.mono ?_; rintro e w5 ⟨rfl, hB5⟩)
    go_ret
    exact ⟨rfl, HB4.out.trans (hB5.mono HB4.out.size)⟩
  have HR2 := Lib.hid (show SIn w4 x2 (underL l s.data.toList) from hR2)
  have HOR := Lib.hid h1
  clear hR2 h1
  obtain ⟨emp, hemp⟩ : ∃ emp, (s.toList == []) = emp := ⟨_, rfl⟩
  have HEMP := Lib.hid (show (emp = true → s.data.toList = []) ∧ (emp = false → s.data.toList ≠ [] ∧ pathB s = true) by
    rw [ByteArray.toList_eq] at hemp
    subst hemp
    constructor
    · intro h; simpa using h
    · intro h
      have h1 : s.data.toList ≠ [] := by simpa using h
      refine ⟨h1, ?_⟩
      rcases HOR.out with h2 | h2
      · exact absurd (List.eq_nil_of_length_eq_zero (by rw [← Lib.size_eq]; exact h2)) h1
      · exact h2)
  go_upto_region 8 with fail
  go_cut [44] (fun c wx => c = .bool false ∧ Below w4.heap.size w4 wx)
  case first =>
    cases emp with
    | true =>
      go_wp2
      go_meet
      case rel => exact ⟨rfl, Below.refl _ _⟩
    | false =>
      rw [(HEMP.out.2 rfl).2] at HPF
      go_wp2_with (go_at_call 9; refine HPF.out.mono ?_; rintro e w5 ⟨rfl, hB5⟩)
      go_meet
      case rel => exact ⟨rfl, hB5⟩
  case rest =>
  rename World => w5
  obtain ⟨rfl, hB5⟩ := hcut
  have HR1 := Lib.hid (HR1.out.later hB5)
  have HR2 := Lib.hid (HR2.out.later hB5)
  have HB5 := Lib.hid (HB4.out.trans (hB5.mono HB4.out.size))
  clear hB5 HPF
  obtain ⟨ao1, cap1, rfl, z1, z2, z3⟩ := HR1.out
  obtain ⟨ao2, cap2, rfl, y1, y2, y3⟩ := HR2.out
  obtain ⟨N, hN⟩ : ∃ N, namesL l = N := ⟨_, rfl⟩
  obtain ⟨fd, hfd⟩ : ∃ fd, s.data.toList = fd := ⟨_, rfl⟩
  obtain ⟨M, hM⟩ : ∃ M, underL l fd = M := ⟨_, rfl⟩
  have hMN : M = N.filter (inF fd) := by rw [← hM, ← hN]; rfl
  have HOK := Lib.hid (fun (x : List UInt8) (hx : x ∈ N) => And.intro (namesL_ok (l := l) (x := x) (by rw [hN]; exact hx)) (Nat.le_trans (namesL_len (l := l) (x := x) (by rw [hN]; exact hx)) HS3.out))
  have HRI := Lib.hid (fun (k : Nat) (x y : List UInt8) (hx : N[k]? = some x) (hy : N[k + 1]? = some y) => show ¬ y ≤ x from by rw [← hN] at hx hy; exact names_step hx hy)
  have HNL := Lib.hid (show N.length ≤ 150 by rw [← hN]; have := namesL_length l; have := sumF_length l; have := HS3.out; omega)
  rw [hfd, hM] at y1 y3 ⊢
  rw [hN] at z1 z3 ⊢
  rw [hfd] at HEMP
  obtain ⟨n, hn⟩ : ∃ n, N.length = n := ⟨_, rfl⟩
  obtain ⟨m, hm⟩ : ∃ m, M.length = m := ⟨_, rfl⟩
  rw [hn] at z1 HNL ⊢
  rw [hm] at y1 ⊢
  have HNN := Lib.hid hn
  have HMM := Lib.hid hm
  have HMN := Lib.hid hMN
  have HFD := Lib.hid hfd
  have Z1 := Lib.hid z1
  have Y1 := Lib.hid y1
  have Z3 := Lib.hid z3
  have Y3 := Lib.hid y3
  have HE := Lib.hid hemp
  clear hn hm hMN hM hN hfd z1 z3 y1 y3 z2 y2 hemp
  go_wp2
  go_loopw [10, 11, 57] (fun kk _ i wr => ∃ k : Nat, k ≤ n ∧ i = .int .i64 k ∧ kk = .int .i64 (((N.take k).filter (inF fd)).length : Nat) ∧ Below w5.heap.size w5 wr) (fun _ _ i _ => n - (intOf i).toNat)
  case atStart => exact ⟨0, Nat.zero_le _, rfl, rfl, Below.refl _ _⟩
  case round =>
    obtain ⟨k, hk, rfl, rfl, hBr⟩ := hrel
    have HBr := Lib.hid hBr
    by_cases hlt : k < n
    · obtain ⟨x, hx⟩ : ∃ x, N[k]? = some x := ⟨_, List.getElem?_eq_getElem (by rw [HNN.out]; exact hlt)⟩
      obtain ⟨b1, o1, rfl, hb1, cx⟩ := Z3.out k x hx
      obtain ⟨X, hX⟩ : ∃ X : ByteArray, (⟨x.toArray⟩ : ByteArray) = X := ⟨_, rfl⟩
      rw [show encStr x = .string X by rw [← hX]] at cx
      have HXX := Lib.hid hX
      have CX := Lib.hid (fun (w' : World) (hb : Below wr.heap.size wr w') => show w'.cell? ⟨b1, o1 + k, none⟩ = some (.string X) from (hb.cell (p := ⟨b1, o1 + k, none⟩) (Nat.lt_of_lt_of_le hb1 hBr.size)).trans ((World.cell?_of_block (hBr.block b1 hb1)).trans cx))
      have hlt' : (k : Int) < n := by omega
      have HX := Lib.hid hx
      have HK := Lib.hid hlt
      have HOX := Lib.hid (HOK.out x (List.mem_of_getElem? hx))
      have HB6 := Lib.hid (HB5.out.trans (hBr.mono HB5.out.size))
      have HWK := Lib.hid (show wrap64 ((k : Int) + 1) = ((k + 1 : Nat) : Int) by have := HNL.out; rw [wrap_in _ (by omega)]; omega)
      have HPR := Lib.hid (show ∀ (j : Nat), k = j + 1 → ∃ y, N[j]? = some y ∧ ¬ x ≤ y ∧ ∀ (w' : World), Below wr.heap.size wr w' → w'.cell? ⟨b1, o1 + j, none⟩ = some (.string ⟨y.toArray⟩) from by
        intro j hj
        obtain ⟨y, hy⟩ : ∃ y, N[j]? = some y := ⟨_, List.getElem?_eq_getElem (by rw [HNN.out]; omega)⟩
        obtain ⟨b2, o2, e2, hb2, cy⟩ := Z3.out j y hy
        simp only [Option.some.injEq, Addr.mk.injEq, and_true] at e2
        obtain ⟨rfl, rfl⟩ := e2
        exact ⟨y, hy, HRI.out j y x hy (by rw [← hj]; exact hx), fun w' hb => (hb.cell (p := ⟨b1, o1 + j, none⟩) (Nat.lt_of_lt_of_le hb1 hBr.size)).trans ((World.cell?_of_block (hBr.block b1 hb1)).trans cy)⟩)
      clear hx cx hBr hk hlt hX
      go_upto_region 14 with fail
      have HPP := Lib.hid (fun (w' : World) (hb : Below wr.heap.size wr w') => show Calls Tryd.prog 9 #[.string X] w' fun e w'' => e = .returned (.bool true) ∧ Below w'.heap.size w' w'' by
        rw [← HXX.out]
        have := path_calls ⟨x.toArray⟩ (by show x.toArray.size ≤ 3000; rw [List.size_toArray]; exact HOX.out.2) w' (HT.out _ (HB6.out.trans (hb.mono HB6.out.size))).2 (HT.out _ (HB6.out.trans (hb.mono HB6.out.size))).1
        rwa [HOX.out.1] at this)
      go_cut [81] (fun c wx => c = .bool false ∧ Below wr.heap.size wr wx)
      case first =>
        have hc := fun d os => CX.out (Sort.grow (redrawn wr d) os) (below_regrown wr d os)
        have HPP2 := Lib.hid (fun d os => HPP.out (Sort.grow (redrawn wr d) os) (below_regrown wr d os))
        rcases Nat.eq_zero_or_pos k with hk0 | hk0
        · have hk1 : ¬ 0 < (k : Int) := by omega
          have hd1 : decide (0 < (k : Int)) = false := decide_eq_false hk1
          have hd2 : decide (0 < k) = false := decide_eq_false (by omega)
          clear hk0
          refine wp_region_quiet_below (by kernel_rfl) (by kernel_rfl) ?_
          repeat (go_big_quiet_step ((go_at_call 9; exact Calls.regrown_of (HPP2.out _ _))))
          refine wpQuiet_nil ?_
          rintro _ ⟨pp, rfl⟩
          have hB3 := below_regrown wr pp.d pp.os
          go_wp2
          go_meet
          case rel => exact ⟨rfl, hB3⟩
        · obtain ⟨j, hj⟩ : ∃ j, k = j + 1 := ⟨k - 1, by omega⟩
          obtain ⟨y, hy, hle, hcy⟩ := HPR.out j hj
          have hk1 : 0 < (k : Int) := by omega
          have hd1 : decide (0 < (k : Int)) = true := decide_eq_true hk1
          have hd2 : decide (0 < k) = true := decide_eq_true (by omega)
          have hw : wrap64 ((k : Int) - 1) = (j : Int) := by have := HNL.out; have := HK.out; rw [wrap_in _ (by omega)]; omega
          have hjn : (j : Int) < n := by have := HK.out; omega
          have hc2 := fun d os => hcy (Sort.grow (redrawn wr d) os) (below_regrown wr d os)
          obtain ⟨Y, hY⟩ : ∃ Y : ByteArray, (⟨y.toArray⟩ : ByteArray) = Y := ⟨_, rfl⟩
          rw [hY] at hc2
          have hXl : X.toList = x := by rw [ByteArray.toList_eq, ← HXX.out]
          have hYl : Y.toList = y := by rw [ByteArray.toList_eq, ← hY]
          have hbl : Op.bytesLess X.toList Y.toList = false := by
            rw [hXl, hYl, bytesLess_eq]
            exact decide_eq_false fun h => hle (List.le_of_lt h)
          have hbe : (X.toList == Y.toList) = false := by
            rw [hXl, hYl]
            exact beq_eq_false_iff_ne.2 fun h => hle (by rw [h]; exact List.le_refl _)
          clear hk0 hj hy hcy hXl hYl hle hY
          refine wp_region_quiet_below (by kernel_rfl) (by kernel_rfl) ?_
          repeat (go_big_quiet_step ((go_at_call 9; exact Calls.regrown_of (HPP2.out _ _))))
          refine wpQuiet_nil ?_
          rintro _ ⟨pp, rfl⟩
          have hB3 := below_regrown wr pp.d pp.os
          go_wp2
          go_meet
          case rel => exact ⟨rfl, hB3⟩
      case rest =>
        obtain ⟨rfl, hBc⟩ := hcut
        have hcx := CX.out wc hBc
        cases emp with
        | true =>
          have hemp := HE.out
          have HYES := Lib.hid (show inF fd x = true by rw [HEMP.out.1 rfl]; exact inF_nil x)
          have hP := HYES.out
          obtain ⟨q, hq⟩ : ∃ q, ((N.take k).filter (inF fd)).length = q := ⟨_, rfl⟩
          have hMq : M[q]? = some x := by rw [HMN.out, ← hq]; exact filter_get HX.out hP
          have hFT : ((N.take (k + 1)).filter (inF fd)).length = q + 1 := by rw [filter_take HX.out, if_pos hP, List.length_append, hq]; rfl
          have hqm : q < m := by rw [← HMM.out]; exact (List.getElem?_eq_some_iff.1 hMq).1
          obtain ⟨b2, o2, rfl, hb2, cy⟩ := Y3.out q x hMq
          have hcy := (World.cell?_of_block (hBc.block b2 (Nat.lt_of_lt_of_le hb2 HBr.out.size))).trans ((World.cell?_of_block (HBr.out.block b2 hb2)).trans cy)
          rw [show encStr x = .string X by rw [← HXX.out]] at hcy
          have HFT := Lib.hid hFT
          have HQM := Lib.hid hqm
          have HCY := Lib.hid hcy
          rw [hq]
          clear hP hMq hFT hqm hb2 cy hcy hq
          go_upto_region 17 with fail
          have hm2 : m ≤ cap2 := Y1.out
          have hq1 : ¬ (m : Int) ≤ q := by have := HQM.out; omega
          have hq2 : (q : Int) < m := by have := HQM.out; omega
          have hc1 := fun d os => cell_regrown hcx d os
          have hc2 := fun d os => cell_regrown HCY.out d os
          clear hcx
          refine wp_region_quiet_below (by kernel_rfl) (by kernel_rfl) ?_
          repeat (go_big_quiet_step (fail))
          refine wpQuiet_nil ?_
          rintro _ ⟨pp, rfl⟩
          have hB3 := below_regrown wc pp.d pp.os
          clear hc1 hc2 hq1 hq2
          have HMNL : m ≤ n := by rw [← HMM.out, ← HNN.out, HMN.out]; exact List.length_filter_le _ _
          have HWQ := Lib.hid (show wrap64 ((q : Int) + 1) = ((q + 1 : Nat) : Int) by have := HQM.out; have := HNL.out; rw [wrap_in _ (by omega)]; omega)
          clear HMNL
          go_wp2
          go_roundw
          case rel => exact ⟨k + 1, HK.out, by first | rfl | rw [HWK.out], by first | rw [HFT.out, HWQ.out] | (rw [HFT.out]; rfl), HBr.out.trans ((hBc.trans (hB3.mono hBc.size)).mono HBr.out.size)⟩
          case measure => have := HK.out; first | (rw [HWK.out]; simp only [intOf]; omega) | (simp only [intOf]; omega)
        | false =>
          have hemp := HE.out
          have hfne := (HEMP.out.2 rfl).1
          have hfl : fd.length = s.size := by rw [← HFD.out, ← Lib.size_eq]
          have hxs : X.size = x.length := by rw [← HXX.out]; exact List.size_toArray
          by_cases hlen : x.length ≤ s.size
          · have hlen' : (X.size : Int) ≤ s.size := by rw [hxs]; omega
            have HNO := Lib.hid (show inF fd x = false by
              cases h : inF fd x with
              | false => rfl
              | true => have := (inF_iff hfne).1 h; omega)
            clear hfne hfl hxs hlen
            have hP := HNO.out
            have HFT := Lib.hid (show ((N.take (k + 1)).filter (inF fd)).length = ((N.take k).filter (inF fd)).length by rw [filter_take HX.out, hP]; rfl)
            clear hP
            go_wp2
            refine ⟨⟨k + 1, HK.out, by first | rfl | rw [HWK.out], by rw [HFT.out], HBr.out.trans (hBc.mono HBr.out.size)⟩, ?_⟩
            have := HK.out
            first | (rw [HWK.out]; simp only [intOf]; omega) | (simp only [intOf]; omega)
          · have hlen' : ¬ (X.size : Int) ≤ s.size := by rw [hxs]; omega
            obtain ⟨A, hA⟩ : ∃ A, X.extract 0 (s.size + 1) = A := ⟨_, rfl⟩
            obtain ⟨Bq, hBq⟩ : ∃ Bq, s ++ (⟨#[47]⟩ : ByteArray) = Bq := ⟨_, rfl⟩
            have hAl : A.toList = x.take (s.size + 1) := by
              rw [ByteArray.toList_eq, ← hA, cut_toList _ _ _ (by rw [hxs]; omega), ← HXX.out]
              rfl
            have hBl : Bq.toList = fd ++ [47] := by
              rw [ByteArray.toList_eq, ← hBq, ← HFD.out]
              simp
            have hcz : ¬ 9223372036854775807 < s.size + (ByteArray.mk #[47]).size := by have := HZ.out; have : (ByteArray.mk #[47]).size = 1 := rfl; omega
            have hws : wrap64 ((s.size : Int) + 1) = ((s.size + 1 : Nat) : Int) := by have := HZ.out; rw [wrap_in _ (by omega)]; omega
            have hls : s.size + 1 ≤ X.size := by rw [hxs]; omega
            by_cases heq : x.take (s.size + 1) = fd ++ [47]
            · have hcmp : (A.toList == Bq.toList) = true := by rw [hAl, hBl, heq]; simp
              have HYES := Lib.hid (show inF fd x = true from (inF_iff hfne).2 ⟨by omega, by rw [hfl]; exact heq⟩)
              clear hfne hfl hxs hlen heq hAl hBl
              have hP := HYES.out
              obtain ⟨q, hq⟩ : ∃ q, ((N.take k).filter (inF fd)).length = q := ⟨_, rfl⟩
              have hMq : M[q]? = some x := by rw [HMN.out, ← hq]; exact filter_get HX.out hP
              have hFT : ((N.take (k + 1)).filter (inF fd)).length = q + 1 := by rw [filter_take HX.out, if_pos hP, List.length_append, hq]; rfl
              have hqm : q < m := by rw [← HMM.out]; exact (List.getElem?_eq_some_iff.1 hMq).1
              obtain ⟨b2, o2, rfl, hb2, cy⟩ := Y3.out q x hMq
              have hcy := (World.cell?_of_block (hBc.block b2 (Nat.lt_of_lt_of_le hb2 HBr.out.size))).trans ((World.cell?_of_block (HBr.out.block b2 hb2)).trans cy)
              rw [show encStr x = .string X by rw [← HXX.out]] at hcy
              have HFT := Lib.hid hFT
              have HQM := Lib.hid hqm
              have HCY := Lib.hid hcy
              rw [hq]
              clear hP hMq hFT hqm hb2 cy hcy hq
              go_upto_region 17 with fail
              have hm2 : m ≤ cap2 := Y1.out
              have hq1 : ¬ (m : Int) ≤ q := by have := HQM.out; omega
              have hq2 : (q : Int) < m := by have := HQM.out; omega
              have hc1 := fun d os => cell_regrown hcx d os
              have hc2 := fun d os => cell_regrown HCY.out d os
              clear hcx
              refine wp_region_quiet_below (by kernel_rfl) (by kernel_rfl) ?_
              repeat (go_big_quiet_step (fail))
              refine wpQuiet_nil ?_
              rintro _ ⟨pp, rfl⟩
              have hB3 := below_regrown wc pp.d pp.os
              clear hc1 hc2 hq1 hq2
              have HMNL : m ≤ n := by rw [← HMM.out, ← HNN.out, HMN.out]; exact List.length_filter_le _ _
              have HWQ := Lib.hid (show wrap64 ((q : Int) + 1) = ((q + 1 : Nat) : Int) by have := HQM.out; have := HNL.out; rw [wrap_in _ (by omega)]; omega)
              clear HMNL
              go_wp2
              go_roundw
              case rel => exact ⟨k + 1, HK.out, by first | rfl | rw [HWK.out], by first | rw [HFT.out, HWQ.out] | (rw [HFT.out]; rfl), HBr.out.trans ((hBc.trans (hB3.mono hBc.size)).mono HBr.out.size)⟩
              case measure => have := HK.out; first | (rw [HWK.out]; simp only [intOf]; omega) | (simp only [intOf]; omega)
            · have hcmp : (A.toList == Bq.toList) = false := by rw [hAl, hBl]; exact beq_eq_false_iff_ne.2 heq
              have HNO := Lib.hid (show inF fd x = false by
                cases h : inF fd x with
                | false => rfl
                | true => have := ((inF_iff hfne).1 h).2; rw [hfl] at this; exact absurd this heq)
              clear hfne hfl hxs hlen heq hAl hBl
              have hP := HNO.out
              have HFT := Lib.hid (show ((N.take (k + 1)).filter (inF fd)).length = ((N.take k).filter (inF fd)).length by rw [filter_take HX.out, hP]; rfl)
              clear hP
              go_wp2
              refine ⟨⟨k + 1, HK.out, by first | rfl | rw [HWK.out], by rw [HFT.out], HBr.out.trans (hBc.mono HBr.out.size)⟩, ?_⟩
              have := HK.out
              first | (rw [HWK.out]; simp only [intOf]; omega) | (simp only [intOf]; omega)
    · have hke : k = n := by omega
      subst hke
      have hT : N.take k = N := List.take_of_length_le (by rw [HNN.out]; exact Nat.le_refl _)
      rw [hT, ← HMN.out, HMM.out]
      have hlt' : ¬ (k : Int) < k := by omega
      have HB6 := Lib.hid (HB5.out.trans (HBr.out.mono HB5.out.size))
      clear hT hlt hk hBr
      go_wp2
      go_ret
      exact ⟨rfl, HB6.out⟩
end Go.Proofs.YtifbjccioklaoaaDoor
