/- Under's walk. Conditions: readable files, of at most 3000 bytes as great reckons them; a folder of at most 1000 bytes; the library's variable is there. -/
import Derived.Test.YtifbjccioklaoaaDoorUn
namespace Go.Proofs.YtifbjccioklaoaaDoor
set_option linter.unusedVariables false
set_option linter.unusedSimpArgs false
open Go.RowKit Rng Go.Maps
/-- What Under ends in. -/
def UnderEnds (l : List (ByteArray × ByteArray)) (s : ByteArray) (w : World) (e : Ending) (w' : World) : Prop :=
  ∃ x c, e = .returned (.tuple #[x, .int .i64 c]) ∧ Below w.heap.size w w' ∧ ((s.size ≠ 0 ∧ pathB s = false ∧ c = 220 ∧ x = .slice none 0 0) ∨ ((s.size = 0 ∨ pathB s = true) ∧ c = 0 ∧ Rs w'.heap.size w' x (underL l s.data.toList)))
set_option maxRecDepth 100000 in
set_option maxHeartbeats 2000000 in
theorem under_calls {B C : Nat} {v : Value} {l : List (ByteArray × ByteArray)} {w : World} (h : Rf B w v l) (hB : B ≤ w.heap.size) (hs : sumF l ≤ 3000) (ht : EnvT C w) (hC : C ≤ w.heap.size) (s : ByteArray) (hz : s.size ≤ 1000) :
    Calls Tryd.prog 8 #[v, .string s] w (UnderEnds l s w) := by
  have hBa0 : Below w.heap.size w (w.alloc (.cells #[.string s] 9)) := (Below.refl _ w).alloc (Nat.le_refl _) _
  have HP := Lib.hid (path_calls s (by omega) (w.alloc (.cells #[.string s] 9)) (Nat.le_trans hC hBa0.size) (ht.later (hBa0.mono hC)))
  have HFi := Lib.hid (fun (w1 : World) (hb : Below w.heap.size w w1) => files_calls ((h.below hb hB).mono (Nat.le_trans hB hb.size)) (Nat.le_refl _) hs (ht.later (hb.mono hC)) (Nat.le_trans hC hb.size))
  have HZ := Lib.hid hz
  have HN := Lib.hid (show l.length ≤ 150 by have := sumF_length l; omega)
  have HBA0 := Lib.hid hBa0
  obtain ⟨a1, c1, rfl, q1⟩ := h
  clear q1 hs ht hB hC hz hBa0
  by_cases h0 : s.size = 0
  · have hse : s = ⟨#[]⟩ := ByteArray.ext (Array.eq_empty_of_size_eq_zero h0)
    subst hse
    have HOR := Lib.hid (show (ByteArray.mk #[]).size = 0 ∨ pathB ⟨#[]⟩ = true from .inl rfl)
    obtain ⟨fp, hfp⟩ : ∃ fp, foldP (ByteArray.mk #[]).data.toList = fp := ⟨_, rfl⟩
    have HFP := Lib.hid (show inF (ByteArray.mk #[]).data.toList = fun x => fp.isPrefixOf x by unfold inF; rw [hfp])
    have hfe : fp = [] := by rw [← hfp]; rfl
    clear h0 hfp
    go_enter Tryd.func8, Tryd.ntmps8
    go_upto_region 5 with fail
    obtain ⟨W1, hW1⟩ : ∃ W1, w.alloc (.cells #[.string ⟨#[]⟩] 9) = W1 := ⟨_, rfl⟩
    have hcc : W1.cell? ⟨w.heap.size, 0, none⟩ = some (.string ⟨fp.toArray⟩) := by rw [← hW1, hfe]; simp
    have hhw : w.heap.size < W1.heap.size := by rw [← hW1]; simp
    have hB1 : Below w.heap.size w W1 := by rw [← hW1]; exact HBA0.out
    rw [hW1]
    clear hW1 hfe
    have HCc := Lib.hid hcc
    have HHW := Lib.hid hhw
    have HB1 := Lib.hid hB1
    have HFi2 := Lib.hid (HFi.out _ hB1)
    clear hcc hhw hB1
    go_upto_region 6 with (first
      | (go_at_call 15; refine HFi2.out.mono ?_; rintro e w2 ⟨b, rfl, hM, hb2, hB2⟩; obtain ⟨D, m, g1, g2, g3⟩ := mapF_has hM)
      | (go_at_call 14; refine (callsIn_wide.1 (Tryd.maps_Keys_14 _ _)).mono ?_; rintro e w' ⟨rfl, rfl⟩)
      | (go_at_call 13; refine (callsIn_wide.1 (Tryd.slices_Sorted_keys_13_14 b m D _ w2 g1 (by have := g1.size_le; have := HN.out; unfold maxLen; omega) (by have := g1.size_le; have := HN.out; omega))).mono ?_; rintro e w4 ⟨v, ss, rfl, hS, hrow, hnil, hB4⟩))
    have hO : OwnB w4 (w2.alloc (.cells #[.map (some b)] 45)).heap.size v (namesL l) := by
      have e := sorted_names g1 g3 hS
      unfold OwnB
      rw [← e, List.length_mergeSort]
      exact hrow
    have hBa : Below w2.heap.size w2 (w2.alloc (.cells #[.map (some b)] 45)) := (Below.refl _ w2).alloc (Nat.le_refl _) _
    have hB24 : Below w2.heap.size w2 w4 := hBa.trans (hB4.mono hBa.size)
    have hB14 : Below W1.heap.size W1 w4 := hB2.trans (hB24.mono hB2.size)
    have hc4 : w4.cell? ⟨w.heap.size, 0, none⟩ = some (.string ⟨fp.toArray⟩) := (hB14.cell (p := ⟨w.heap.size, 0, none⟩) HHW.out).trans HCc.out
    have hbase : w.heap.size < (w2.alloc (.cells #[.map (some b)] 45)).heap.size := by have := HHW.out; have := hB2.size; have := hBa.size; omega
    have HD := Lib.hid (del_calls hO fp w.heap.size hbase hB4.size hc4)
    have HB4 := Lib.hid (HB1.out.trans (hB14.mono HB1.out.size))
    have HBA := Lib.hid (Nat.le_trans hB2.size hBa.size)
    clear hO hrow hS hnil hB4 g1 g2 g3 hM hb2 hB2 hBa hB24 hB14 hc4 hbase
    go_wp2_with (go_at_call 16; refine HD.out.mono ?_; rintro e w5 ⟨v', rfl, hO5, hB5⟩)
    go_ret2
    refine ⟨_, _, rfl, HB4.out.trans (hB5.mono (Nat.le_trans HB1.out.size HBA.out)), .inr ⟨HOR.out, rfl, ?_⟩⟩
    have := ownB_rs hO5
    rw [← HFP.out] at this
    exact this
  · have hne : (s.toList == []) = false := by
      rw [ByteArray.toList_eq]
      cases hd : s.data.toList with
      | nil => exact absurd (by rw [Lib.size_eq s, hd]; rfl) h0
      | cons b l => rfl
    have HH0 := Lib.hid h0
    cases hp : pathB s with
    | false =>
      rw [hp] at HP
      have HPF := Lib.hid hp
      clear h0 hp
      go_enter Tryd.func8, Tryd.ntmps8
      go_wp2_with (go_at_call 9; refine HP.out.mono ?_; rintro e w1 ⟨rfl, hB1⟩)
      go_ret2
      exact ⟨_, _, rfl, HBA0.out.trans (hB1.mono HBA0.out.size), .inl ⟨HH0.out, HPF.out, rfl, rfl⟩⟩
    | true =>
      rw [hp] at HP
      have HOR := Lib.hid (show s.size = 0 ∨ pathB s = true from .inr hp)
      obtain ⟨fp, hfp⟩ : ∃ fp, foldP s.data.toList = fp := ⟨_, rfl⟩
      have HFP := Lib.hid (show inF s.data.toList = fun x => fp.isPrefixOf x by unfold inF; rw [hfp])
      have hfe : (s ++ (⟨#[47]⟩ : ByteArray)) = ⟨fp.toArray⟩ := by
        rw [← hfp]
        unfold foldP
        rw [if_neg (fun hd => h0 (by rw [Lib.size_eq s, hd]; rfl))]
        apply ByteArray.ext
        apply Array.toList_inj.1
        simp
      have hcz : ¬ 9223372036854775807 < s.size + (ByteArray.mk #[47]).size := by have := HZ.out; have : (ByteArray.mk #[47]).size = 1 := rfl; omega
      clear h0 hp hfp
      go_enter Tryd.func8, Tryd.ntmps8
      go_upto_region 3 with (go_at_call 9; refine HP.out.mono ?_; rintro e w1 ⟨rfl, hB1⟩)
      have hb0 : (w.alloc (.cells #[.string s] 9)).heap[w.heap.size]? = some (.cells #[.string s] 9 (0, 0)) := World.alloc_heap_new w _
      have hb1 := (hB1.block w.heap.size (by simp)).trans hb0
      have hc1 := cell_of hb1 0
      simp only [List.getElem?_toArray, List.getElem?_cons_zero] at hc1
      have hfz := frozen_of_row _ w.heap.size 0 _ _ hb1
      have hB01 : Below w.heap.size w w1 := HBA0.out.trans (hB1.mono HBA0.out.size)
      have hhw1 : w.heap.size < w1.heap.size := World.block_lt_of_cell? _ _ hc1
      have HB01 := Lib.hid hB01
      have HB1b := Lib.hid hb1
      clear hB1 hb0 hb1 hB01
      go_upto_region 5 with fail
      obtain ⟨W1, hW1⟩ : ∃ W1, w1.setCell ⟨w.heap.size, 0, none⟩ (.string ⟨fp.toArray⟩) = W1 := ⟨_, rfl⟩
      have hcc : W1.cell? ⟨w.heap.size, 0, none⟩ = some (.string ⟨fp.toArray⟩) := by
        rw [← hW1, cell_of ((heap_setCell_same _ _ _ _ _ _ HB1b.out).trans rfl) 0]
        rfl
      have hhw : w.heap.size < W1.heap.size := by rw [← hW1]; simpa using hhw1
      have hB1 : Below w.heap.size w W1 := by rw [← hW1]; exact HB01.out.setCell (Nat.le_refl _) _
      clear hne
      rw [hW1]
      clear hW1 hfe hcz hc1 hfz hhw1
      have HCc := Lib.hid hcc
      have HHW := Lib.hid hhw
      have HB1 := Lib.hid hB1
      have HFi2 := Lib.hid (HFi.out _ hB1)
      clear hcc hhw hB1
      go_upto_region 6 with (first
        | (go_at_call 15; refine HFi2.out.mono ?_; rintro e w2 ⟨b, rfl, hM, hb2, hB2⟩; obtain ⟨D, m, g1, g2, g3⟩ := mapF_has hM)
        | (go_at_call 14; refine (callsIn_wide.1 (Tryd.maps_Keys_14 _ _)).mono ?_; rintro e w' ⟨rfl, rfl⟩)
        | (go_at_call 13; refine (callsIn_wide.1 (Tryd.slices_Sorted_keys_13_14 b m D _ w2 g1 (by have := g1.size_le; have := HN.out; unfold maxLen; omega) (by have := g1.size_le; have := HN.out; omega))).mono ?_; rintro e w4 ⟨v, ss, rfl, hS, hrow, hnil, hB4⟩))
      have hO : OwnB w4 (w2.alloc (.cells #[.map (some b)] 45)).heap.size v (namesL l) := by
        have e := sorted_names g1 g3 hS
        unfold OwnB
        rw [← e, List.length_mergeSort]
        exact hrow
      have hBa : Below w2.heap.size w2 (w2.alloc (.cells #[.map (some b)] 45)) := (Below.refl _ w2).alloc (Nat.le_refl _) _
      have hB24 : Below w2.heap.size w2 w4 := hBa.trans (hB4.mono hBa.size)
      have hB14 : Below W1.heap.size W1 w4 := hB2.trans (hB24.mono hB2.size)
      have hc4 : w4.cell? ⟨w.heap.size, 0, none⟩ = some (.string ⟨fp.toArray⟩) := (hB14.cell (p := ⟨w.heap.size, 0, none⟩) HHW.out).trans HCc.out
      have hbase : w.heap.size < (w2.alloc (.cells #[.map (some b)] 45)).heap.size := by have := HHW.out; have := hB2.size; have := hBa.size; omega
      have HD := Lib.hid (del_calls hO fp w.heap.size hbase hB4.size hc4)
      have HB4 := Lib.hid (HB1.out.trans (hB14.mono HB1.out.size))
      have HBA := Lib.hid (Nat.le_trans hB2.size hBa.size)
      clear hO hrow hS hnil hB4 g1 g2 g3 hM hb2 hB2 hBa hB24 hB14 hc4 hbase
      go_wp2_with (go_at_call 16; refine HD.out.mono ?_; rintro e w5 ⟨v', rfl, hO5, hB5⟩)
      go_ret2
      refine ⟨_, _, rfl, HB4.out.trans (hB5.mono (Nat.le_trans HB1.out.size HBA.out)), .inr ⟨HOR.out, rfl, ?_⟩⟩
      have := ownB_rs hO5
      rw [← HFP.out] at this
      exact this
end Go.Proofs.YtifbjccioklaoaaDoor
