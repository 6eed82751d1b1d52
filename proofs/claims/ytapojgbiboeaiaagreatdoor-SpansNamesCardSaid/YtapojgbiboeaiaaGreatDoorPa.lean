/- Parse: the set that a text says, or an error where a part of it is no range. Conditions: at most 1000 bytes; the library's variables are as they are laid. -/
import Derived.Test.YtapojgbiboeaiaaGreatDoorNu
import Derived.Test.YtapojgbiboeaiaaGreatDoorJo
import Derived.Test.YtapojgbiboeaiaaGreatDoorNt
import Derived.Deep.DeepCutAuto
namespace Go.Proofs.YtapojgbiboeaiaaGreatDoor
set_option linter.unusedVariables false
set_option linter.unusedSimpArgs false
open Go.RowKit Go.Shelf Rng
def comma : ByteArray := ⟨#[44]⟩
def dash : ByteArray := ⟨#[45]⟩
/-- The parts of a text. -/
def partsOf (s : ByteArray) : List ByteArray := Lib.splitB comma 0 (Lib.countB s comma) s
def cutA (p : ByteArray) : ByteArray := ⟨(Lib.cut p.data.toList dash.data.toList).1.toArray⟩
def cutB (p : ByteArray) : ByteArray := ⟨(Lib.cut p.data.toList dash.data.toList).2.1.toArray⟩
def cutT (p : ByteArray) : Bool := (Lib.cut p.data.toList dash.data.toList).2.2
def fromS (p : ByteArray) : ByteArray := cutA p
def toS (p : ByteArray) : ByteArray := if cutT p then cutB p else cutA p
def okP (p : ByteArray) : Bool := numB (fromS p) && numB (toS p) && !decide (atV (toS p) < atV (fromS p))
def rgP (p : ByteArray) : Int × Int := (atV (fromS p) - 1, atV (toS p))
theorem split_size (sep : ByteArray) : ∀ (k : Nat) (s p : ByteArray), p ∈ Lib.splitB sep 0 k s → p.size ≤ s.size
  | 0, s, p, h => by
    have : p = s := by simpa [Lib.splitB] using h
    rw [this]
    exact Nat.le_refl _
  | k + 1, s, p, h => by
    unfold Lib.splitB at h
    split at h
    · have : p = s := by simpa using h
      rw [this]
      exact Nat.le_refl _
    · rcases List.mem_cons.1 h with rfl | h
      · simp only [ByteArray.size_extract]; omega
      · have := split_size sep k _ p h
        simp only [ByteArray.size_extract] at this
        omega
theorem cutA_size (p : ByteArray) : (cutA p).size ≤ p.size := by
  have h : (cutA p).size = (Lib.cut p.data.toList dash.data.toList).1.length := List.size_toArray
  rw [h, Lib.size_eq p]
  unfold Lib.cut
  split
  · simp only [List.length_take]; omega
  · exact Nat.le_refl _
theorem cutB_size (p : ByteArray) : (cutB p).size ≤ p.size := by
  have h : (cutB p).size = (Lib.cut p.data.toList dash.data.toList).2.1.length := List.size_toArray
  rw [h, Lib.size_eq p]
  unfold Lib.cut
  split
  · simp only [List.length_drop]; omega
  · exact Nat.zero_le _
theorem cut_calls {B : Nat} (p : ByteArray) (hp : p.size ≤ 1000) (w : World) (hB : B ≤ w.heap.size) (ht : Env B w) :
    Calls Tryz.prog 14 #[.string p, .string dash] w fun e w' => e = .returned (.tuple #[.string (cutA p), .string (cutB p), .bool (cutT p)]) ∧ Below w.heap.size w w' := by
  obtain ⟨_, ⟨m, hm⟩, _⟩ := ht
  refine (Tryz.strings_Cut p dash m w (by omega) hm).mono fun e w' ⟨he, n, hw⟩ => ⟨he, ?_⟩
  rw [hw]
  exact ⟨rfl, rfl, rfl, Nat.le_refl _, fun _ _ => rfl⟩
theorem split_calls {B : Nat} (s : ByteArray) (hs : s.size ≤ 1000) (w : World) (hB : B ≤ w.heap.size) (ht : Env B w) :
    Calls Tryz.prog 13 #[.string s, .string comma] w fun e w' => ∃ g L, e = .returned (.slice (some ⟨g, 0, none⟩) L L) ∧ L = (partsOf s).length ∧ L ≤ 1001 ∧ w'.heap[g]? = some (.cells ((partsOf s).map Value.string).toArray 9 (0, 0)) ∧ Below w.heap.size w w' := by
  obtain ⟨_, ⟨m, hm⟩, _⟩ := ht
  refine (Tryz.strings_Split s comma m w (by omega) hm (by decide)).mono fun e w' ⟨he, hw⟩ => ⟨w.heap.size, _, he, ?_, ?_, ?_, ?_⟩
  · exact (Lib.splitB_all comma (by decide) 0 _ s rfl).symm
  · have := Lib.countB_le comma (by decide) s.size s (Nat.le_refl _); omega
  · rw [hw]; exact World.alloc_heap_new w _
  · rw [hw]; exact (Below.refl _ w).alloc (Nat.le_refl _) _
/-- What Parse ends in. -/
def ParseEnds (s : ByteArray) (base : Nat) (x : Value) (c : Int) (w' : World) : Prop :=
  (s.size = 0 ∧ c = 0 ∧ x = .slice none 0 0) ∨ (s.size ≠ 0 ∧ (partsOf s).all okP = true ∧ c = 0 ∧ ∃ m, m.Perm ((partsOf s).map rgP) ∧ Rises m ∧ Own w' base x (putAll m)) ∨ (s.size ≠ 0 ∧ (partsOf s).all okP = false ∧ c = 190 ∧ x = .slice none 0 0)
set_option maxRecDepth 100000 in
set_option maxHeartbeats 2000000 in
theorem parse_calls {B : Nat} (s : ByteArray) (hs : s.size ≤ 1000) (w : World) (hB : B ≤ w.heap.size) (ht : Env B w) :
    Calls Tryz.prog 4 #[.string s] w fun e w' => (∃ x c, e = .returned (.tuple #[x, .int .i64 c]) ∧ ParseEnds s w.heap.size x c w') ∧ Below w.heap.size w w' := by
  have HS := Lib.hid (split_calls s hs w hB ht)
  have HT := Lib.hid (fun (w' : World) (hb : Below w.heap.size w w') => ht.later (hb.mono hB))
  have HSZ := Lib.hid hs
  obtain ⟨i0, hi, hz0, hz1, hz2⟩ := info_rg
  clear ht hs
  go_enter Tryz.func4, Tryz.ntmps4
  by_cases h0 : s.size = 0
  · have hse : s = ⟨#[]⟩ := by
      apply ByteArray.ext
      exact Array.eq_empty_of_size_eq_zero h0
    have HE := Lib.hid h0
    subst hse
    clear HS HT h0
    go_wp2
    go_ret2
    exact ⟨⟨_, _, rfl, .inl ⟨HE.out, rfl, rfl⟩⟩, Below.refl _ _⟩
  · have hne : (s.toList == []) = false := by
      rw [ByteArray.toList_eq]
      cases hd : s.data.toList with
      | nil => exact absurd (by rw [Lib.size_eq s, hd]; rfl) h0
      | cons b l => rfl
    have HE := Lib.hid h0
    clear h0
    go_upto_region 3 with fail
    clear hne
    go_wp2_with (go_at_call 13; refine HS.out.mono ?_; rintro e w1 ⟨g, L, rfl, hL, hL1, hg, hB1⟩; have HL := Lib.hid hL; clear hL)
    have HG := Lib.hid hg
    have HB1 := Lib.hid hB1
    have hgs := (Array.getElem?_eq_some_iff.1 hg).1
    have hB1s := Nat.le_trans hB hB1.size
    have HT1 := Lib.hid (fun (w' : World) (hb : Below w1.heap.size w1 w') => show Env B w' from HT.out w' (hB1.trans (hb.mono hB1.size)))
    have HPS := Lib.hid (fun p (h : p ∈ partsOf s) => show p.size ≤ 1000 from Nat.le_trans (split_size _ _ _ _ h) HSZ.out)
    clear HS HT hg hB1
    go_loopw [4, 19] (fun v i wr => ∃ k : Nat, k ≤ L ∧ i = .int .i64 k ∧ ((partsOf s).take k).all okP = true ∧ Own wr w1.heap.size v (((partsOf s).take k).map rgP) ∧ Below w1.heap.size w1 wr) (fun _ i _ => L - (intOf i).toNat)
    case atStart => exact ⟨0, Nat.zero_le _, rfl, rfl, World.ownsRow_nil _ _ _ _, Below.refl _ _⟩
    case round =>
      obtain ⟨k, hk, rfl, hall, hO, hBr⟩ := hrel
      by_cases hlt : k < L
      · obtain ⟨p, hp⟩ : ∃ p, (partsOf s)[k]? = some p := ⟨_, List.getElem?_eq_getElem (by rw [← HL.out]; exact hlt)⟩
        have hcell : wr.cell? ⟨g, k, none⟩ = some (.string p) := by
          rw [cell_of ((hBr.block g hgs).trans HG.out) k]
          simp [hp]
        have hlt' : (k : Int) < L := by omega
        have HP := Lib.hid (HPS.out p (List.mem_of_getElem? hp))
        have HK := Lib.hid hlt
        have HWK := Lib.hid (show wrap64 ((k : Int) + 1) = ((k + 1 : Nat) : Int) by rw [wrap_in _ (by omega)]; omega)
        have HTk := Lib.hid (show (partsOf s).take (k + 1) = (partsOf s).take k ++ [p] by rw [List.take_add_one, hp]; rfl)
        have hlk : (((partsOf s).take k).map rgP).length = k := by rw [List.length_map, List.length_take, ← HL.out]; omega
        have HNO := Lib.hid (show okP p = false → (partsOf s).all okP = false from fun h => List.all_eq_false.2 ⟨p, List.mem_of_getElem? hp, by simp [h]⟩)
        have HYES := Lib.hid (show okP p = true → ((partsOf s).take (k + 1)).all okP = true from fun h => by rw [HTk.out, List.all_append, hall]; simp [h])
        have HMAP := Lib.hid (show ((partsOf s).take (k + 1)).map rgP = ((partsOf s).take k).map rgP ++ [rgP p] by rw [HTk.out, List.map_append]; rfl)
        have HO := Lib.hid hO
        have HBr := Lib.hid hBr
        have E1 := Lib.hid (show (((partsOf s).take k).map rgP).length + 1 ≤ maxLen by rw [hlk]; unfold maxLen; omega)
        have E2 := Lib.hid (show ((((partsOf s).take k).map rgP).length + 1) * 16 ≤ 140737488355328 by rw [hlk]; omega)
        have hbs := Nat.le_trans hB1s hBr.size
        have HCT := Lib.hid (cut_calls p HP.out wr hbs (HT1.out _ hBr))
        have HNA := Lib.hid (fun (w' : World) (hb : Below wr.heap.size wr w') => number_calls (cutA p) (Nat.le_trans (cutA_size p) (Nat.le_trans HP.out (by omega))) w' (Nat.le_trans hbs hb.size) (HT1.out _ (hBr.trans (hb.mono hBr.size))))
        have HNB := Lib.hid (fun (w' : World) (hb : Below wr.heap.size wr w') => number_calls (toS p) (Nat.le_trans (show (toS p).size ≤ p.size by unfold toS; split; exact cutB_size p; exact cutA_size p) (Nat.le_trans HP.out (by omega))) w' (Nat.le_trans hbs hb.size) (HT1.out _ (hBr.trans (hb.mono hBr.size))))
        clear hp hlt hO hBr hall hlk hbs
        have HOK := Lib.hid (show okP p = (numB (cutA p) && numB (toS p) && !decide (atV (toS p) < atV (cutA p))) from rfl)
        have HRG := Lib.hid (show rgP p = (atV (cutA p) - 1, atV (toS p)) from rfl)
        have HVA := Lib.hid (show numB (cutA p) = true → 1 ≤ atV (cutA p) ∧ atV (cutA p) ≤ 65536 from fun h => by
          simp only [numB, Bool.and_eq_true, decide_eq_true_eq] at h
          exact ⟨h.1.1.2, h.1.2⟩)
        obtain ⟨tb, htb⟩ : ∃ x, toS p = x := ⟨_, rfl⟩
        have HTB := Lib.hid (show tb = if cutT p then cutB p else cutA p from htb.symm)
        rw [htb] at HNB HOK HRG
        clear htb
        obtain ⟨sa, hsa⟩ : ∃ x, cutA p = x := ⟨_, rfl⟩
        obtain ⟨sb, hsb⟩ : ∃ x, cutB p = x := ⟨_, rfl⟩
        rw [hsa] at HNA HOK HRG HVA HTB HCT
        rw [hsb] at HTB HCT
        clear hsa hsb
        obtain ⟨va, hva⟩ : ∃ x, atV sa = x := ⟨_, rfl⟩
        obtain ⟨na, hna⟩ : ∃ x, numB sa = x := ⟨_, rfl⟩
        obtain ⟨vb, hvb⟩ : ∃ x, atV tb = x := ⟨_, rfl⟩
        obtain ⟨nb, hnb⟩ : ∃ x, numB tb = x := ⟨_, rfl⟩
        rw [hva, hna] at HNA HVA HOK
        rw [hva] at HRG
        rw [hvb, hnb] at HNB HOK
        rw [hvb] at HRG
        clear hva hna hvb hnb
        go_upto_if 30 with (go_at_call 14; refine HCT.out.mono ?_; rintro e w2 ⟨rfl, hB2⟩)
        go_cut [8, 9, 29, 30] (fun x _ _ _ wx => x = .string tb ∧ wx = w2)
        case first =>
          cases hct : cutT p with
          | true =>
            rw [hct] at HTB
            go_wp2
            go_meet
            case rel => exact ⟨by rw [HTB.out]; rfl, rfl⟩
          | false =>
            rw [hct] at HTB
            go_wp2
            go_meet
            case rel => exact ⟨by rw [HTB.out]; rfl, rfl⟩
        case rest =>
          obtain ⟨rfl, rfl⟩ := hcut
          cases na with
          | false =>
            have HX := Lib.hid (HNO.out (by rw [HOK.out]; rfl))
            go_wp2_with (first | (go_at_call 15; refine (HNA.out _ hB2).mono ?_; clear HNA; rintro e w3 ⟨rfl, hB3⟩; have hB4 := hB2.trans (hB3.mono hB2.size)) | (go_at_call 15; refine (HNB.out _ hB4).mono ?_; clear HNB; rintro e w4 ⟨rfl, hB5⟩; have hB6 := hB4.trans (hB5.mono hB4.size)))
            go_ret2
            exact ⟨⟨_, _, rfl, .inr (.inr ⟨HE.out, HX.out, rfl, rfl⟩)⟩, HB1.out.trans ((HBr.out.trans (hB6.mono HBr.out.size)).mono HB1.out.size)⟩
          | true =>
            have hva := HVA.out rfl
            cases nb with
            | false =>
              have HX := Lib.hid (HNO.out (by rw [HOK.out]; rfl))
              clear hva
              go_wp2_with (first | (go_at_call 15; refine (HNA.out _ hB2).mono ?_; clear HNA; rintro e w3 ⟨rfl, hB3⟩; have hB4 := hB2.trans (hB3.mono hB2.size)) | (go_at_call 15; refine (HNB.out _ hB4).mono ?_; clear HNB; rintro e w4 ⟨rfl, hB5⟩; have hB6 := hB4.trans (hB5.mono hB4.size)))
              go_ret2
              exact ⟨⟨_, _, rfl, .inr (.inr ⟨HE.out, HX.out, rfl, rfl⟩)⟩, HB1.out.trans ((HBr.out.trans (hB6.mono HBr.out.size)).mono HB1.out.size)⟩
            | true =>
              by_cases hlt2 : vb < va
              · have HX := Lib.hid (HNO.out (by rw [HOK.out, decide_eq_true hlt2]; rfl))
                clear hva
                go_wp2_with (first | (go_at_call 15; refine (HNA.out _ hB2).mono ?_; clear HNA; rintro e w3 ⟨rfl, hB3⟩; have hB4 := hB2.trans (hB3.mono hB2.size)) | (go_at_call 15; refine (HNB.out _ hB4).mono ?_; clear HNB; rintro e w4 ⟨rfl, hB5⟩; have hB6 := hB4.trans (hB5.mono hB4.size)))
                go_ret2
                exact ⟨⟨_, _, rfl, .inr (.inr ⟨HE.out, HX.out, rfl, rfl⟩)⟩, HB1.out.trans ((HBr.out.trans (hB6.mono HBr.out.size)).mono HB1.out.size)⟩
              · have HX := Lib.hid (HYES.out (by rw [HOK.out, decide_eq_false hlt2]; rfl))
                have hd := decide_eq_false hlt2
                have hw : wrap64 (va - 1) = va - 1 := wrap_in _ (by omega)
                have HWV := Lib.hid hw
                clear hlt2 hva hw
                go_upto_region 14 with (first | (go_at_call 15; refine (HNA.out _ hB2).mono ?_; clear HNA; rintro e w3 ⟨rfl, hB3⟩; have hB4 := hB2.trans (hB3.mono hB2.size)) | (go_at_call 15; refine (HNB.out _ hB4).mono ?_; clear HNB; rintro e w4 ⟨rfl, hB5⟩; have hB6 := hB4.trans (hB5.mono hB4.size)))
                have HO4 := Lib.hid (own_below HO.out hB6 (Nat.le_refl _))
                have hbw := HBr.out.trans (hB6.mono HBr.out.size)
                have E3 := Lib.hid (show w1.heap.size ≤ w4.heap.size + 1 from Nat.le_trans hbw.size (Nat.le_succ _))
                go_wp2_with (at_builtin; refine wpList_append_own _ rfl _ _ 22 rfl w1.heap.size 28 i0 _ 2 16 Tryz.underlying22 hi hz0 hz1 hz2 rfl (by decide) _ _ _ rfl (HO4.out.alloc _) ⟨w4.heap.size, 0, none⟩ 1 1 [_, .int .i64 vb] rfl rfl (new2 w4 _ _ _) (by simp [Value.oneCell']) E1.out E2.out (by simpa using E3.out) ?_; intro v' w5 hown' hgrow hnil')
                have hlt := HK.out
                go_roundw
                case rel =>
                  have ho : Own w5 w1.heap.size v' (((partsOf s).take k).map rgP ++ [rgP p]) := own_more (r := rgP p) (by rw [HRG.out]; have h := hown'; simp only [HWV.out] at h; exact h)
                  rw [← HMAP.out] at ho
                  exact ⟨k + 1, hlt, by push_cast; rfl, HX.out, ho, (hbw.alloc hbw.size _).grown hgrow (by simpa using E3.out) (fun j ej => (HO4.out.lt j ej).1)⟩
                case measure => simp only [intOf]; omega
      · have hlt' : ¬ (k : Int) < L := by omega
        have hT : (partsOf s).take k = partsOf s := List.take_of_length_le (by rw [← HL.out]; omega)
        rw [hT] at hall hO
        have HJ := Lib.hid (joined_calls (own_rd hO) (Nat.le_refl _) (by rw [List.length_map, ← HL.out]; omega))
        have HX := Lib.hid hall
        clear hO hall hT
        go_wp2_with (go_at_call 16; refine HJ.out.mono ?_; rintro e w5 ⟨x, mm, rfl, hp, hri, hO5, hB5⟩)
        go_ret2
        have hbw := HB1.out.trans (hBr.mono HB1.out.size)
        exact ⟨⟨x, 0, rfl, .inr (.inl ⟨HE.out, HX.out, rfl, mm, hp, hri, own_mono hO5 hbw.size⟩)⟩, hbw.trans (hB5.mono hbw.size)⟩
end Go.Proofs.YtapojgbiboeaiaaGreatDoor
