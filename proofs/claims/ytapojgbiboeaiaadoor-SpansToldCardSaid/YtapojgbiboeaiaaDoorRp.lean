/- The reference's Parse: the set that a text says, or an error where a part of it is no range. Condition: at most 1000 bytes. -/
import Derived.Test.YtapojgbiboeaiaaDoorRq
import Derived.Deep.DeepCutAuto
import Derived.Deep.CutBlock
namespace Go.Proofs.YtapojgbiboeaiaaDoor
set_option linter.unusedVariables false
set_option linter.unusedSimpArgs false
open Go.RowKit Rng
theorem lines_fitN {B : Nat} {v : Value} {l : List (Int × Int)} {w : World} (N : Nat) (hN : 65536 = N) (h : Rd B w v l) (hB : B ≤ w.heap.size) (hok : ∀ r ∈ l, 0 ≤ r.1 ∧ r.1 < r.2 ∧ r.2 ≤ 65536) :
    Calls Tryd.prog 25 #[v] w fun e w' => ∃ b, e = .returned (.slice (some ⟨b, 0, none⟩) N N) ∧ w.heap.size ≤ b ∧ w'.heap[b]? = some (.cells (marks N (mem l)) 4 (0, 0)) ∧ Below w.heap.size w w' := by
  subst hN
  exact lines_fit h hB hok
/-- The ranges of the parts. -/
def rgs (s : ByteArray) : List (Int × Int) := (partsOf s).map rgP
def RParseEnds (s : ByteArray) (base : Nat) (x : Value) (c : Int) (w' : World) : Prop :=
  (s.size = 0 ∧ c = 0 ∧ x = .slice none 0 0) ∨ (s.size ≠ 0 ∧ (partsOf s).all okP = true ∧ c = 0 ∧ Own w' base x (setUp (mem (rgs s)) 65536)) ∨ (s.size ≠ 0 ∧ (partsOf s).all okP = false ∧ c = 190 ∧ x = .slice none 0 0)
theorem parts_bad {s : ByteArray} {done rest : List (List UInt8)} {x : List UInt8} (h : parts 44 s.data.toList = done ++ x :: rest) (hx : okP (mkB x) = false) : (partsOf s).all okP = false := by
  rw [parts_mk, h, List.all_eq_false]
  exact ⟨mkB x, by simp, by rw [hx]; simp⟩
theorem parts_good {s : ByteArray} {done : List (List UInt8)} (h : parts 44 s.data.toList = done) (hd : ∀ x ∈ done, okP (mkB x) = true) : (partsOf s).all okP = true ∧ rgs s = done.map fun x => rgP (mkB x) := by
  unfold rgs
  rw [parts_mk, h]
  refine ⟨?_, by rw [List.map_map]; rfl⟩
  rw [List.all_map, List.all_eq_true]
  exact hd
set_option maxRecDepth 100000 in
set_option maxHeartbeats 4000000 in
theorem rparse_calls (s : ByteArray) (hs : s.size ≤ 1000) (w : World) :
    Calls Tryd.prog 9 #[.string s] w fun e w' => (∃ x c, e = .returned (.tuple #[x, .int .i64 c]) ∧ RParseEnds s w.heap.size x c w') ∧ Below w.heap.size w w' := by
  obtain ⟨i0, hi, hz0, hz1, hz2⟩ := info_rg
  obtain ⟨n, hn⟩ : ∃ n, s.size = n := ⟨_, rfl⟩
  have hl : s.data.toList.length = n := by rw [← hn]; exact (Lib.size_eq s).symm
  have HL := Lib.hid hl
  have HSN := Lib.hid hn
  have HNB := Lib.hid (show n ≤ 1000 by omega)
  have HG := Lib.hid (fun (s : ByteArray) (k : Nat) (b : UInt8) (hb : s.data.toList[k]? = some b) => show ∃ h : k < s.size, s[k]'h = b by
    obtain ⟨h1, h2⟩ := List.getElem?_eq_some_iff.1 hb
    exact ⟨by rw [Lib.size_eq s]; exact h1, by rw [← h2]; rfl⟩)
  clear hl hs
  go_enter Tryd.func9, Tryd.ntmps9
  by_cases h0 : n = 0
  · have hse : s = ⟨#[]⟩ := by
      apply ByteArray.ext
      exact Array.eq_empty_of_size_eq_zero (by have := HSN.out; rw [h0] at this; exact this)
    have HE := Lib.hid (show s.size = 0 by rw [HSN.out, h0])
    subst hse
    clear HL HSN HG hn h0
    go_wp2
    go_ret2
    exact ⟨⟨_, _, rfl, .inl ⟨HE.out, rfl, rfl⟩⟩, Below.refl _ _⟩
  have hne : (s.toList == []) = false := by
    rw [ByteArray.toList_eq]
    cases hd : s.data.toList with
    | nil => exact absurd (by rw [← HL.out, hd]; rfl) h0
    | cons b l => rfl
  have HZ := Lib.hid (show s.size ≠ 0 by rw [HSN.out]; exact h0)
  clear h0
  go_upto_region 3 with fail
  clear hne
  go_wp2
  go_loopw [4, 5, 6] (fun v fr i wr => ∃ (k f : Nat) (done : List (List UInt8)), k ≤ n + 1 ∧ i = .int .i64 k ∧ fr = .int .i64 f ∧ f ≤ k ∧ parts 44 s.data.toList = done ++ leftP s.data.toList f k ∧ (k ≤ n → (44 : UInt8) ∉ (s.data.toList.drop f).take (k - f)) ∧ (∀ x ∈ done, okP (mkB x) = true) ∧ Own wr w.heap.size v (done.map fun x => rgP (mkB x)) ∧ done.length ≤ k ∧ Below w.heap.size w wr) (fun _ _ i _ => n + 1 - (intOf i).toNat)
  case atStart => exact ⟨0, 0, [], Nat.zero_le _, rfl, rfl, Nat.le_refl _, by unfold leftP; rw [if_pos (Nat.zero_le _), List.drop_zero]; rfl, fun _ => by simp, (fun x hx => by cases hx), World.ownsRow_nil _ _ _ _, Nat.zero_le _, Below.refl _ _⟩
  case round =>
    obtain ⟨k, f, done, hk, rfl, rfl, hf, hp, hfree, hok, hO, hdl, hBr⟩ := hrel
    by_cases hkn : k ≤ n
    · have hkn' : (k : Int) ≤ n := by omega
      have HWK := Lib.hid (show wrap64 ((k : Int) + 1) = ((k + 1 : Nat) : Int) by rw [wrap_in _ (by have := HNB.out; omega)]; push_cast; rfl)
      have HKN := Lib.hid hkn
      have HF := Lib.hid hf
      have HFR := Lib.hid (hfree hkn)
      have HPP := Lib.hid hp
      have HOK := Lib.hid hok
      have HO := Lib.hid hO
      have HDL := Lib.hid hdl
      have HBR := Lib.hid hBr
      clear hfree hp hok hO hdl hBr hf hk
      by_cases hcont : ∃ b, s.data.toList[k]? = some b ∧ b ≠ 44
      · obtain ⟨b, hb, hb44⟩ := hcont
        have hlt := (List.getElem?_eq_some_iff.1 hb).1
        rw [HL.out] at hlt
        obtain ⟨p, hg⟩ := HG.out s k b hb
        obtain ⟨c, hc⟩ : ∃ c : Int, (b.toNat : Int) = c := ⟨_, rfl⟩
        have hgc : (((s[k]'p).toNat : Nat) : Int) = c := by rw [hg]; exact hc
        have hc44 : (c == 44) = false := by
          rw [beq_eq_false_iff_ne]
          intro e
          exact hb44 (byte_ext (by have : (44 : UInt8).toNat = 44 := rfl; omega))
        have hlt' : (k : Int) < n := by omega
        have HLT := Lib.hid hlt
        have HNX := Lib.hid (And.intro (leftP_go (l := s.data.toList) (f := f) (by rw [HL.out]; exact hlt)) (free_go HF.out HFR.out hb hb44))
        clear hb hb44 hlt hg hc hkn
        go_wp2
        go_roundw
        case rel => exact ⟨k + 1, f, done, by have := HLT.out; omega, by rw [HWK.out], rfl, Nat.le_succ_of_le HF.out, by rw [HNX.out.1]; exact HPP.out, fun _ => HNX.out.2, HOK.out, HO.out, Nat.le_succ_of_le HDL.out, HBR.out⟩
        case measure => rw [HWK.out]; have := HLT.out; simp only [intOf]; omega
      · have hend : k = s.data.toList.length ∨ s.data.toList[k]? = some 44 := by
          rcases Nat.lt_or_ge k n with h | h
          · right
            obtain ⟨b, hb⟩ : ∃ b, s.data.toList[k]? = some b := ⟨_, List.getElem?_eq_getElem (by rw [HL.out]; exact h)⟩
            by_cases e : b = 44
            · rw [hb, e]
            · exact absurd ⟨b, hb, e⟩ hcont
          · left; rw [HL.out]; omega
        have HEND := Lib.hid hend
        have HLE := Lib.hid (leftP_end HF.out (by rw [HL.out]; exact HKN.out) HFR.out hend)
        clear hcont hend
        go_upto_region 8 with fail
        go_cut [29] (fun v wx => v = .bool false ∧ wr = wx)
        case first =>
          rcases Nat.lt_or_ge k n with h | h
          · have hb := HEND.out.resolve_left (by rw [HL.out]; omega)
            obtain ⟨p, hg⟩ := HG.out s k 44 hb
            have hgc : (((s[k]'p).toNat : Nat) : Int) = 44 := by rw [hg]; rfl
            have hlt' : (k : Int) < n := by omega
            clear hb hg
            go_wp2
            go_meet
            case rel => exact ⟨rfl, rfl⟩
          · have hlt' : ¬ (k : Int) < n := by omega
            go_wp2
            go_meet
            case rel => exact ⟨rfl, rfl⟩
        case rest =>
          obtain ⟨rfl, rfl⟩ := hcut
          obtain ⟨X, hX⟩ : ∃ X, s.extract f k = X := ⟨_, rfl⟩
          have HX := Lib.hid (show X.data.toList = (s.data.toList.drop f).take (k - f) by rw [← hX, ext_list2])
          have hfk : (f : Int) ≤ k := by have := HF.out; omega
          have hf0 : f ≤ k := HF.out
          have hks : k ≤ n := HKN.out
          go_upto_region 10 with fail
          clear hX hfk hf0
          obtain ⟨z, hz⟩ : ∃ z, X.size = z := ⟨_, rfl⟩
          have HZX := Lib.hid hz
          have HXL := Lib.hid (show X.data.toList.length = z by rw [← hz]; exact (Lib.size_eq X).symm)
          have HZN := Lib.hid (show z ≤ 1000 by have h1 := HXL.out; rw [HX.out, List.length_take, List.length_drop, HL.out] at h1; have := HNB.out; omega)
          go_upto_block 2 with fail
          go_cut [8] (fun v wx => (∃ c : Nat, v = .int .i64 c ∧ CutAt X.data.toList c) ∧ wr = wx)
          case first =>
            go_wp2
            go_loopw [8] (fun v wi => ∃ c : Nat, v = .int .i64 c ∧ c ≤ z ∧ (45 : UInt8) ∉ X.data.toList.take c ∧ wi = wr) (fun v _ => z - (intOf v).toNat)
            case atStart => exact ⟨0, rfl, Nat.zero_le _, by simp, rfl⟩
            case round =>
              obtain ⟨c, rfl, hc, hfr, rfl⟩ := hrel
              by_cases hlt : c < z
              · obtain ⟨b, hb⟩ : ∃ b, X.data.toList[c]? = some b := ⟨_, List.getElem?_eq_getElem (by rw [HXL.out]; exact hlt)⟩
                obtain ⟨p, hg⟩ := HG.out X c b hb
                obtain ⟨d, hd⟩ : ∃ d : Int, (b.toNat : Int) = d := ⟨_, rfl⟩
                have hgc : (((X[c]'p).toNat : Nat) : Int) = d := by rw [hg]; exact hd
                have hlt' : (c : Int) < z := by omega
                have HLT := Lib.hid hlt
                by_cases e : b = 45
                · have hd45 : d = 45 := by rw [← hd, e]; rfl
                  subst hd45
                  have HC := Lib.hid (show CutAt X.data.toList c from ⟨by rw [HXL.out]; exact hc, hfr, .inr (by rw [hb, e])⟩)
                  clear hb hg hd hlt hfr hc e
                  go_wp2
                  go_meet
                  case rel => exact ⟨⟨c, rfl, HC.out⟩, rfl⟩
                · have hd45 : (d == 45) = false := by
                    rw [beq_eq_false_iff_ne]
                    intro h
                    exact e (byte_ext (by have : (45 : UInt8).toNat = 45 := rfl; omega))
                  have HC := Lib.hid (cutAt_step hfr hb e)
                  have HWC := Lib.hid (show wrap64 ((c : Int) + 1) = ((c + 1 : Nat) : Int) by rw [wrap_in _ (by have := HZN.out; omega)]; push_cast; rfl)
                  clear hb hg hd hlt hfr hc e
                  go_wp2
                  go_roundw
                  case rel => exact ⟨c + 1, by rw [HWC.out], HLT.out, HC.out, trivial⟩
                  case measure => rw [HWC.out]; have := HLT.out; simp only [intOf]; omega
              · have hlt' : ¬ (c : Int) < z := by omega
                have HC := Lib.hid (show CutAt X.data.toList c from ⟨by rw [HXL.out]; exact hc, hfr, .inl (by rw [HXL.out]; omega)⟩)
                clear hfr hc hlt
                go_wp2
                go_meet
                case rel => exact ⟨⟨c, rfl, HC.out⟩, rfl⟩
          case rest =>
            obtain ⟨⟨c, rfl, hcut⟩, rfl⟩ := hcut
            obtain ⟨t1, t2, t3⟩ := from_to hcut
            have hcz : c ≤ z := by rw [← HXL.out]; exact hcut.1
            have HXM := Lib.hid (show mkB ((s.data.toList.drop f).take (k - f)) = X by rw [← HX.out]; exact mkB_list X)
            have HOKX := Lib.hid (okP_ref X)
            have HRG := Lib.hid (fun h : okP X = true => rgP_ref h)
            have HR1 := Lib.hid (refN_range (fromS X))
            have HR2 := Lib.hid (refN_range (toS X))
            have N1 := Lib.hid (fun (w' : World) => rnumber_calls (X.extract 0 c) w' (by rw [ByteArray.size_extract, HZX.out]; have := HZN.out; omega))
            have N2 := Lib.hid (fun (w' : World) => rnumber_calls (X.extract (c + 1) z) w' (by rw [ByteArray.size_extract, HZX.out]; have := HZN.out; omega))
            obtain ⟨a, ha⟩ : ∃ a, refN (fromS X) = a := ⟨_, rfl⟩
            obtain ⟨q, hq⟩ : ∃ q, refN (toS X) = q := ⟨_, rfl⟩
            have ha1 : refN (X.extract 0 c) = a := by rw [← t1]; exact ha
            rw [ha] at HOKX HRG HR1
            rw [hq] at HOKX HRG HR2
            rw [ha1] at N1
            have HAQ := Lib.hid (show c = z → q = a from fun e => by rw [← hq, t2 (by rw [HXL.out]; exact e)]; exact ha1)
            have HTQ := Lib.hid (show c < z → refN (X.extract (c + 1) z) = q from fun e => by rw [← hq, t3 (by rw [HXL.out]; exact e), HZX.out])
            have hc0 : (c : Int) ≤ z := by omega
            have HCZ := Lib.hid hcz
            clear t1 t2 t3 ha hq ha1 hcut
            go_upto_region 15 with (go_at_call 24; refine (N1.out _).mono ?_; rintro e w2 ⟨rfl, hB2⟩)
            have HB2 := Lib.hid hB2
            clear hB2 N1 hc0
            go_upto_if 56 with fail
            go_cut [10] (fun v wx => v = .int .i64 q ∧ Below wr.heap.size wr wx)
            case first =>
              by_cases hc : c < z
              · have hc' : (c : Int) < z := by omega
                have hq := HTQ.out hc
                rw [hq] at N2
                have hwc : wrap64 ((c : Int) + 1) = ((c + 1 : Nat) : Int) := by rw [wrap_in _ (by have := HZN.out; omega)]; push_cast; rfl
                have hcz' : ((c + 1 : Nat) : Int) ≤ z := by clear hwc; omega
                have hcz2 : c + 1 ≤ z := hc
                clear hq hcz
                go_wp2_with (go_at_call 24; refine (N2.out _).mono ?_; rintro e w3 ⟨rfl, hB3⟩)
                go_meet
                case rel => exact ⟨rfl, HB2.out.trans (hB3.mono HB2.out.size)⟩
              · have hc' : ¬ (c : Int) < z := by omega
                have hq : q = a := HAQ.out (by omega)
                subst hq
                go_wp2
                go_meet
                case rel => exact ⟨rfl, HB2.out⟩
            case rest =>
              obtain ⟨rfl, hB4⟩ := hcut
              have HB4 := Lib.hid (HBR.out.trans (hB4.mono HBR.out.size))
              have HO4 := Lib.hid (own_below HO.out hB4 (Nat.le_refl _))
              clear hB4 HAQ HTQ N2 hcz
              cases hx : okP X with
              | false =>
                have HBAD := Lib.hid (parts_bad (by rw [HPP.out, HLE.out]) (by rw [HXM.out]; exact hx))
                rw [hx] at HOKX
                have htest := HOKX.out
                clear hx
                by_cases e1 : a = 0
                · have e1' : (a == 0) = true := by simpa using e1
                  clear e1 htest
                  go_wp2
                  go_ret2
                  exact ⟨⟨_, _, rfl, .inr (.inr ⟨HZ.out, HBAD.out, rfl, rfl⟩)⟩, HB4.out⟩
                · have e1' : (a == 0) = false := by simpa using e1
                  have e2 : q < a := by
                    rw [decide_eq_false e1] at htest
                    simpa using htest
                  clear e1 htest
                  go_wp2
                  go_ret2
                  exact ⟨⟨_, _, rfl, .inr (.inr ⟨HZ.out, HBAD.out, rfl, rfl⟩)⟩, HB4.out⟩
              | true =>
                obtain ⟨hrg, hfit⟩ := HRG.out hx
                have HRX := Lib.hid hrg
                have HX2 := Lib.hid hx
                rw [hrg] at hfit
                obtain ⟨f1, f2, f3⟩ := hfit
                simp only at f1 f2 f3
                rw [hx] at HOKX
                have e1 : (a == 0) = false := by
                  rw [beq_eq_false_iff_ne]
                  omega
                have e2 : decide (q < a) = false := decide_eq_false (by omega)
                obtain ⟨a1, ha1⟩ : ∃ x, a - 1 = x := ⟨_, rfl⟩
                have hw1 : wrap64 (a - 1) = a1 := by rw [wrap_in _ (by omega)]; exact ha1
                have HA1 := Lib.hid ha1
                have HLK := Lib.hid (show (done.map fun x => rgP (mkB x)).length = done.length from List.length_map ..)
                have E1 := Lib.hid (show (done.map fun x => rgP (mkB x)).length + 1 ≤ maxLen by have := HDL.out; have := HNB.out; have := HKN.out; rw [HLK.out]; unfold maxLen; omega)
                have E2 := Lib.hid (show ((done.map fun x => rgP (mkB x)).length + 1) * 16 ≤ 140737488355328 by have := HDL.out; have := HNB.out; have := HKN.out; rw [HLK.out]; omega)
                have hszr := HB4.out.size
                have E3 := Lib.hid (show w.heap.size ≤ wc.heap.size + 1 from Nat.le_trans hszr (Nat.le_succ _))
                have HM := Lib.hid (show (done ++ [(s.data.toList.drop f).take (k - f)]).map (fun x => rgP (mkB x)) = done.map (fun x => rgP (mkB x)) ++ [(a1, q)] by rw [List.map_append, List.map_singleton, HXM.out, HRX.out, ← HA1.out])
                clear hx hrg f1 f2 f3 ha1
                go_upto_region 20 with fail
                clear e1 e2
                go_wp2_with (at_builtin; refine wpList_append_own _ rfl _ _ 22 rfl w.heap.size 38 i0 _ 2 16 Tryd.underlying22 hi hz0 hz1 hz2 rfl (by decide) _ _ _ rfl (HO4.out.alloc _) ⟨wc.heap.size, 0, none⟩ 1 1 [.int .i64 a1, _] rfl rfl (new2 wc _ _ _) (by simp [Value.oneCell']) E1.out E2.out (by simpa using E3.out) ?_; intro v' w5 hown' hgrow hnil')
                go_roundw
                case rel =>
                  have ho : Own w5 w.heap.size v' (done.map (fun x => rgP (mkB x)) ++ [(a1, q)]) := own_more (r := (a1, q)) hown'
                  rw [← HM.out] at ho
                  refine ⟨k + 1, k + 1, done ++ [(s.data.toList.drop f).take (k - f)], Nat.succ_le_succ HKN.out, by rw [HWK.out], by rw [HWK.out], Nat.le_refl _, by rw [HPP.out, HLE.out]; simp, fun _ => by simp, ?_, ho, by rw [List.length_append]; exact Nat.succ_le_succ HDL.out, (HB4.out.alloc hszr _).grown hgrow (by simpa using E3.out) (fun j ej => (HO4.out.lt j ej).1)⟩
                  intro x hx
                  rcases List.mem_append.1 hx with h | h
                  · exact HOK.out x h
                  · rw [List.mem_singleton] at h
                    rw [h, HXM.out]
                    exact HX2.out
                case measure => rw [HWK.out]; have := HKN.out; simp only [intOf]; omega
    · have hkn' : ¬ (k : Int) ≤ n := by omega
      have hlo : leftP s.data.toList f k = [] := by unfold leftP; rw [if_neg (by rw [HL.out]; omega)]
      rw [hlo, List.append_nil] at hp
      obtain ⟨p1, p2⟩ := parts_good hp hok
      rw [← p2] at hO
      have hfit : ∀ r ∈ rgs s, 0 ≤ r.1 ∧ r.1 < r.2 ∧ r.2 ≤ 65536 := by
        intro r hr
        unfold rgs at hr
        obtain ⟨x, hx, rfl⟩ := List.mem_map.1 hr
        exact (rgP_ref (List.all_eq_true.1 p1 x hx)).2
      obtain ⟨N, hN⟩ : ∃ N : Nat, 65536 = N := ⟨_, rfl⟩
      have HLI := Lib.hid (lines_fitN N hN (own_rd hO) (Nat.le_refl _) hfit)
      have HST := Lib.hid (fun (w' : World) (b : Nat) (h : w'.heap[b]? = some (.cells (marks N (mem (rgs s))) 4 (0, 0))) => set_calls (cap := N) h (by omega))
      have HNN := Lib.hid hN
      have HP1 := Lib.hid p1
      have HBR := Lib.hid hBr
      clear hlo hp hok hO hfit hN p1 p2 hBr hfree hdl hkn
      go_wp2_with (first | (go_at_call 25; refine HLI.out.mono ?_; rintro e w6 ⟨b6, rfl, _, h6, B6⟩; have H6 := Lib.hid h6; clear h6) | (go_at_call 26; refine (HST.out _ _ H6.out).mono ?_; rintro e w7 ⟨x7, rfl, o7, B7⟩))
      go_ret2
      have B8 := HBR.out.trans (B6.mono HBR.out.size)
      exact ⟨⟨x7, 0, rfl, .inr (.inl ⟨HZ.out, HP1.out, rfl, by rw [HNN.out]; exact own_mono o7 B8.size⟩)⟩, B8.trans (B7.mono B8.size)⟩
end Go.Proofs.YtapojgbiboeaiaaDoor
