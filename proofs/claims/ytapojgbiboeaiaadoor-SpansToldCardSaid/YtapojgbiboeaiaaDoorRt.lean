/- The reference's Text answers as Text. Conditions: a readable slice of at most 100 ranges. -/
import Derived.Test.YtapojgbiboeaiaaDoorRd
import Derived.Test.YtapojgbiboeaiaaDoorHd
import Derived.Deep.DeepCutAuto
import Derived.Deep.CutBlock
namespace Go.Proofs.YtapojgbiboeaiaaDoor
set_option linter.unusedVariables false
set_option linter.unusedSimpArgs false
open Go.RowKit Rng
theorem join_snoc (c : UInt8) (x : List UInt8) : ∀ (xs : List (List UInt8)), Lib.join (xs ++ [x]) [c] = if xs = [] then x else Lib.join xs [c] ++ c :: x
  | [] => by rw [List.nil_append, Lib.join_one, if_pos rfl]
  | [y] => by
    rw [if_neg (by simp), List.singleton_append, join_cons2, Lib.join_one, Lib.join_one]
  | y :: z :: r => by
    have ih := join_snoc c x (z :: r)
    rw [if_neg (by simp)] at ih ⊢
    rw [List.cons_append, List.cons_append, join_cons2, ← List.cons_append, ih, join_cons2]
    simp
/-- The text of the first ranges. -/
def textK (l : List (Int × Int)) (k : Nat) : List UInt8 := Lib.join (((l.take k).map oneS).map (·.data.toList)) [44]
theorem textK_succ {l : List (Int × Int)} {k : Nat} {r : Int × Int} (hr : l[k]? = some r) : textK l (k + 1) = if k = 0 then (oneS r).data.toList else textK l k ++ 44 :: (oneS r).data.toList := by
  have hk := (List.getElem?_eq_some_iff.1 hr).1
  unfold textK
  rw [List.take_add_one, hr, Option.toList_some, List.map_append, List.map_append, List.map_cons, List.map_nil, List.map_cons, List.map_nil, join_snoc]
  by_cases h : k = 0
  · subst h
    rw [if_pos rfl, if_pos (by simp)]
  · rw [if_neg h, if_neg (by
      intro e
      rw [List.map_eq_nil_iff, List.map_eq_nil_iff] at e
      have := congrArg List.length e
      rw [List.length_take, List.length_nil] at this
      omega)]
theorem textK_len {l : List (Int × Int)} (h : okR l = true) (hl : l.length ≤ 100) (k : Nat) : (textK l k).length ≤ 1200 := by
  unfold textK
  refine Nat.le_trans (join_len [44] 11 _ fun x hx => ?_) ?_
  · rw [List.map_map, List.mem_map] at hx
    obtain ⟨r, hr, rfl⟩ := hx
    exact (oneS_fit r (fit_of h r (List.mem_of_mem_take hr))).2.2.2
  · simp only [List.length_map, List.length_singleton, List.length_take]
    omega
def commaB : ByteArray := ⟨#[44]⟩
def dashB : ByteArray := ⟨#[45]⟩
theorem app_list (a b : ByteArray) : (a ++ b).data.toList = a.data.toList ++ b.data.toList := by simp [ByteArray.data_append]
theorem size_list (a : ByteArray) : a.size = a.data.toList.length := Lib.size_eq a
set_option maxRecDepth 100000 in
set_option maxHeartbeats 2000000 in
theorem rtext_no {B : Nat} {v : Value} {l : List (Int × Int)} {w : World} (h : Rd B w v l) (hB : B ≤ w.heap.size) (hl : okR l = false) :
    Calls Tryd.prog 11 #[v] w fun e w' => e = .returned (.tuple #[.string ⟨#[]⟩, .int .i64 2]) ∧ Below w.heap.size w w' := by
  have HV := Lib.hid (rvalid_calls h hB)
  rw [hl] at HV
  clear h hl
  go_enter Tryd.func11, Tryd.ntmps11
  go_wp2_with (go_at_call 30; refine HV.out.mono ?_; rintro e w1 ⟨rfl, hB1⟩)
  go_ret2
  exact ⟨rfl, hB1⟩
set_option maxRecDepth 100000 in
set_option maxHeartbeats 2000000 in
theorem rtext_ok {B : Nat} {v : Value} {l : List (Int × Int)} {w : World} (h : Rd B w v l) (hB : B ≤ w.heap.size) (hl : okR l = true) (hlen : l.length ≤ 100) :
    Calls Tryd.prog 11 #[v] w fun e w' => e = .returned (.tuple #[.string (textOf l), .int .i64 0]) ∧ Below w.heap.size w w' := by
  have HV := Lib.hid (rvalid_calls h hB)
  have HOK := Lib.hid hl
  rw [hl] at HV
  obtain ⟨ao, cap, rfl, q1, q2, q3⟩ := h
  have H3 := Lib.hid q3
  obtain ⟨p, hp⟩ : ∃ p, l.length = p := ⟨_, rfl⟩
  rw [hp] at HV q1 ⊢
  have HP := Lib.hid hp
  have HLN := Lib.hid hlen
  have Q1 := Lib.hid q1
  have Q2 := Lib.hid q2
  clear q1 q2 q3 hl hp hlen
  go_enter Tryd.func11, Tryd.ntmps11
  go_upto_region 5 with (go_at_call 30; refine HV.out.mono ?_; rintro e w1 ⟨rfl, hB1⟩)
  clear HV
  go_wp2
  go_loopw [5, 6] (fun v i wr => ∃ (k : Nat) (t : ByteArray), k ≤ p ∧ i = .int .i64 k ∧ v = .string t ∧ t.data.toList = textK l k ∧ Below w.heap.size w wr) (fun _ i _ => p - (intOf i).toNat)
  case atStart => exact ⟨0, ⟨#[]⟩, Nat.zero_le _, rfl, rfl, rfl, hB1⟩
  case round =>
    clear hB1
    obtain ⟨k, t, hk, rfl, rfl, ht, hBr⟩ := hrel
    by_cases hlt : k < p
    · obtain ⟨r, hr⟩ : ∃ r, l[k]? = some r := ⟨_, List.getElem?_eq_getElem (by rw [HP.out]; exact hlt)⟩
      obtain ⟨b, o, rfl, hb, c1, c2⟩ := H3.out k r hr
      have HS := Lib.hid (textK_succ hr)
      have hfit := fit_of HOK.out r (List.mem_of_getElem? hr)
      obtain ⟨x, y⟩ := r
      obtain ⟨f1, f2, f3⟩ := hfit
      simp only at f1 f2 f3 c1 c2
      obtain ⟨a, rfl⟩ : ∃ a : Nat, x = a := ⟨x.toNat, by omega⟩
      obtain ⟨z, rfl⟩ : ∃ z : Nat, y = z := ⟨y.toNat, by omega⟩
      have HO := Lib.hid (oneS_list a z)
      have C1 := Lib.hid (fun (w' : World) (hw : Below w.heap.size w w') => (World.cell?_of_block (hw.block b (Nat.lt_of_lt_of_le hb hB))).trans c1)
      have C2 := Lib.hid (fun (w' : World) (hw : Below w.heap.size w w') => (World.cell?_of_block (hw.block b (Nat.lt_of_lt_of_le hb hB))).trans c2)
      have hlt' : (k : Int) < p := by omega
      have HK := Lib.hid hlt
      have HW := Lib.hid (show wrap64 ((k : Int) + 1) = ((k + 1 : Nat) : Int) from wrap_succ hlt Q1.out Q2.out)
      have HT := Lib.hid ht
      have htz : t.size ≤ 1200 := by rw [size_list, ht]; exact textK_len HOK.out HLN.out k
      have HTZ := Lib.hid htz
      have HF := Lib.hid (And.intro f2 f3)
      have HBR := Lib.hid hBr
      have hz1 : ¬ 9223372036854775807 < t.size + 1 := by omega
      clear hr hb c1 c2 ht f1 f2 f3 htz hBr hlt
      go_upto_if 18 with fail
      go_cut [5] (fun v wx => (∃ t1 : ByteArray, v = .string t1 ∧ t1.data.toList = (if k = 0 then [] else textK l k ++ [44]) ∧ t1.size ≤ 1201) ∧ wr = wx)
      case first =>
        by_cases h0 : k = 0
        · have e : t.data.toList = [] := by rw [HT.out, h0]; rfl
          subst h0
          have HE := Lib.hid (And.intro e HTZ.out)
          clear e hz1
          go_wp2
          go_meet
          case rel => exact ⟨⟨t, rfl, by simpa using HE.out.1, Nat.le_trans HE.out.2 (by omega)⟩, rfl⟩
        · have h0' : 0 < (k : Int) := by omega
          have HE := Lib.hid h0
          clear h0
          go_wp2
          go_meet
          case rel => exact ⟨⟨t ++ commaB, rfl, by rw [if_neg HE.out, app_list, HT.out]; rfl, by rw [ByteArray.size_append]; have := HTZ.out; have : commaB.size = 1 := rfl; omega⟩, rfl⟩
      case rest =>
        obtain ⟨⟨t1, rfl, ht1, hz⟩, rfl⟩ := hcut
        have HT1 := Lib.hid ht1
        have HZ := Lib.hid hz
        have D1 := Lib.hid (fun (w' : World) => digits_calls (a + 1) (by omega) (by have := HF.out; omega) w')
        have D2 := Lib.hid (fun (w' : World) => digits_calls z (by have := HF.out; omega) (by have := HF.out; omega) w')
        rw [show ((a + 1 : Nat) : Int) = (a : Int) + 1 by push_cast; rfl] at D1
        have c1' := C1.out _ HBR.out
        have hw1 : wrap64 ((a : Int) + 1) = (a : Int) + 1 := wrap_in _ (by have := HF.out; omega)
        have hd1 : (decB (a + 1)).size ≤ 5 := by rw [size_list]; exact dec_len 4 _ (by have := HF.out; omega)
        have hd2 : (decB z).size ≤ 5 := by rw [size_list]; exact dec_len 4 _ (by have := HF.out; omega)
        obtain ⟨u1, hu1⟩ : ∃ u, decB (a + 1) = u := ⟨_, rfl⟩
        obtain ⟨u2, hu2⟩ : ∃ u, decB z = u := ⟨_, rfl⟩
        rw [hu1] at hd1 D1
        rw [hu2] at hd2 D2
        have HU1 := Lib.hid hu1
        have HU2 := Lib.hid hu2
        have hs1 : ¬ 9223372036854775807 < t1.size + u1.size := by clear hw1; omega
        have hs2 : ¬ 9223372036854775807 < t1.size + u1.size + 1 := by clear hw1; omega
        have hs3 : ¬ 9223372036854775807 < t1.size + u1.size + 1 + u2.size := by clear hw1; omega
        clear ht1 hz hz1 hu1 hu2 hd1 hd2
        go_upto_region 11 with (go_at_call 31; refine (D1.out _).mono ?_; rintro e w2 ⟨rfl, hB2⟩)
        have hBw := HBR.out.trans (hB2.mono HBR.out.size)
        have HBW := Lib.hid hBw
        have c1'' := C1.out _ hBw
        have c2'' := C2.out _ hBw
        have hc1 := fun d os => cell_regrown c1'' d os
        have hc2 := fun d os => cell_regrown c2'' d os
        clear c1' c1'' c2'' hBw
        obtain ⟨g, hg⟩ : ∃ g : Int, (z : Int) - a = g := ⟨_, rfl⟩
        have hw2 : wrap64 ((z : Int) - a) = g := by rw [wrap_in _ (by have := HF.out; clear hw1; omega)]; exact hg
        have HGG := Lib.hid hg
        clear hg
        refine wp_region_quiet_below (by kernel_rfl) (by kernel_rfl) ?_
        repeat (go_big_quiet_step (fail))
        refine wpQuiet_nil ?_
        rintro _ ⟨pp, rfl⟩
        have hB3 := below_regrown w2 pp.d pp.os
        obtain ⟨w3, hw3⟩ : ∃ x, Go.Sort.grow (redrawn w2 pp.d) pp.os = x := ⟨_, rfl⟩
        rw [hw3] at hB3 ⊢
        have HB3 := Lib.hid (HBW.out.trans (hB3.mono HBW.out.size))
        clear hw3 hB3 hc1 hc2
        by_cases hgt : 1 < g
        · have c2' := C2.out _ HB3.out
          have HGT := Lib.hid hgt
          go_wp2_with (go_at_call 31; refine (D2.out _).mono ?_; rintro e w4 ⟨rfl, hB4⟩)
          go_roundw
          case rel =>
            refine ⟨k + 1, _, HK.out, by rw [HW.out], rfl, ?_, HB3.out.trans (hB4.mono HB3.out.size)⟩
            have hlt : a + 1 < z := by have := HGT.out; have := HGG.out; omega
            rw [HS.out, HO.out, if_pos hlt]
            simp only [app_list, HT1.out, ← HU1.out, ← HU2.out]
            by_cases h0 : k = 0
            · rw [if_pos h0, if_pos h0]; simp [decB]
            · rw [if_neg h0, if_neg h0]; simp [decB]
          case measure => rw [HW.out]; have := HK.out; simp only [intOf]; omega
        · have hq : decide (1 < g) = false := decide_eq_false hgt
          have HGT := Lib.hid hgt
          clear hgt
          go_wp2
          go_roundw
          case rel =>
            refine ⟨k + 1, _, HK.out, by rw [HW.out], rfl, ?_, HB3.out⟩
            have hlt : ¬ a + 1 < z := by have := HGT.out; have := HGG.out; omega
            rw [HS.out, HO.out, if_neg hlt]
            simp only [app_list, HT1.out, ← HU1.out]
            by_cases h0 : k = 0
            · rw [if_pos h0, if_pos h0]; simp [decB]
            · rw [if_neg h0, if_neg h0]; simp [decB]
          case measure => rw [HW.out]; have := HK.out; simp only [intOf]; omega
    · have hlt' : ¬ (k : Int) < p := by omega
      have e : t = textOf l := ba_ext (by rw [ht]; unfold textK; rw [List.take_of_length_le (by rw [HP.out]; omega)]; rfl)
      have HE := Lib.hid e
      clear e ht
      go_wp2
      go_ret2
      exact ⟨by rw [HE.out]; rfl, hBr⟩
end Go.Proofs.YtapojgbiboeaiaaDoor
