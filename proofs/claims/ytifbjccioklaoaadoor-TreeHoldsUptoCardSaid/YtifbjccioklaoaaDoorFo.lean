/- folders' iterator gives the files that would hold for a path, from its own folder's up. Conditions: the captured variable's block holds the path, of at most 1000 bytes. -/
import Derived.Test.YtifbjccioklaoaaDoorFi
import Derived.Test.YtifbjccioklaoaaDoorTp
namespace Go.Proofs.YtifbjccioklaoaaDoor
set_option linter.unusedVariables false
set_option linter.unusedSimpArgs false
open Go.RowKit Rng Go.Maps
attribute [local go_sem] Oper.semAt_some
/-- The captured variable holds the path. -/
def PathAt (C : Nat) (s : ByteArray) (W : World) : Prop := W.heap[C]? = some (.cells #[.string s] 9 (0, 0))
def szAt (W : World) (b : Nat) : Nat := match W.cell? ⟨b, 0, none⟩ with | some (.string s) => s.size | _ => 0
theorem PathAt.size {C : Nat} {s : ByteArray} {W : World} (h : PathAt C s W) : szAt W C = s.size := by
  unfold szAt
  rw [cell_of h 0]
  rfl
def dotB : ByteArray := ⟨#[46, 99, 102, 109, 116]⟩
theorem dot_val : (ByteArray.mk dotL.toArray) = dotB := rfl
theorem cut_toList (s : ByteArray) (a b : Nat) (hb : b ≤ s.size) : (s.extract a b).data.toList = (s.data.toList.take b).drop a := by
  simp [ByteArray.data_extract, Array.toList_extract, List.extract_eq_take_drop]
  rw [List.drop_take]
theorem folder_val (s : ByteArray) (k j : Nat) (hj : j < k) (hk : k ≤ s.size) : ((s.extract 0 k).extract 0 (j + 1)) ++ dotB = ⟨(s.data.toList.take (j + 1) ++ dotL).toArray⟩ := by
  apply ByteArray.ext
  apply Array.toList_inj.1
  have e1 : (((s.extract 0 k).extract 0 (j + 1)) ++ dotB).data.toList = ((s.extract 0 k).extract 0 (j + 1)).data.toList ++ dotB.data.toList := by simp
  rw [e1, cut_toList _ _ _ (by simp; omega), cut_toList _ _ _ hk, List.drop_zero, List.drop_zero, List.take_take, Nat.min_eq_left (by omega)]
  rfl
theorem path_cut (s : ByteArray) (k j : Nat) (hj : j < k) (hk : k ≤ s.size) : (s.extract 0 k).extract 0 j = s.extract 0 j := by
  apply ByteArray.ext
  apply Array.toList_inj.1
  rw [cut_toList _ _ _ (by simp; omega), cut_toList _ _ _ hk, cut_toList _ _ _ (by omega), List.drop_zero, List.drop_zero, List.drop_zero, List.take_take, Nat.min_eq_left (by omega)]
theorem none_val : (s : ByteArray) → (s.extract 0 0) ++ dotB = dotB := by
  intro s
  apply ByteArray.ext
  apply Array.toList_inj.1
  have e1 : ((s.extract 0 0) ++ dotB).data.toList = (s.extract 0 0).data.toList ++ dotB.data.toList := by simp
  rw [e1, cut_toList _ _ _ (by omega)]
  rfl
set_option maxRecDepth 100000 in
set_option maxHeartbeats 1000000 in
theorem folders1_iter (C : Nat) (s : ByteArray) (hs : s.size ≤ 1000) :
    Iter Tryd.prog 8 48 #[.pointer (some ⟨C, 0, none⟩)] (fun x : List UInt8 => #[.string ⟨x.toArray⟩]) [C] [C] (PathAt C s) (fol s.data.toList s.size) := by
  intro q J Jx W hH hJ hJx hY h0
  refine callsIn_of_wp Tryd.func48 rfl trivial ?_ rfl
  simp only [Tryd.ntmps48, List.size_toArray, List.length_cons, List.length_nil, Nat.reduceAdd, Nat.reduceSub, Array.replicate_succ, Array.replicate_zero, List.push_toArray, List.append_toArray, List.nil_append, List.cons_append]
  have HS := Lib.hid hs
  have HH := Lib.hid hH
  have H0 := Lib.hid h0
  clear hs hH h0
  gi_wp2
  gi_loopw [3] (fun _ wr => ∃ (k : Nat) (pre : List (List UInt8)), k ≤ s.size ∧ PathAt C (s.extract 0 k) wr ∧ fol s.data.toList s.size = pre ++ fol s.data.toList k ∧ J pre wr)
    (fun _ wr => szAt wr C)
  case atStart => exact ⟨s.size, [], Nat.le_refl _, by rw [show s.extract 0 s.size = s by simp]; exact HH.out, rfl, H0.out⟩
  case round =>
    obtain ⟨k, pre, hk, hP, hL, hJr⟩ := hrel
    have hPc := cell_of hP 0
    simp only [List.getElem?_toArray, List.getElem?_cons_zero] at hPc
    have hsz : (s.extract 0 k).size = k := by simp; omega
    have HLI := Lib.hid (Tryd.strings_LastIndexByte (s.extract 0 k) 47 (by have := HS.out; omega) wr)
    have HP := Lib.hid hP
    have HJr := Lib.hid hJr
    have HK := Lib.hid hk
    have hLI : Lib.lastIndexByte (s.extract 0 k) 47 = Lib.lastIdx s 47 k := by
      unfold Lib.lastIndexByte
      rw [hsz]
      exact last_cut s k hk k (Nat.le_refl _)
    rw [hLI] at HLI
    rcases fol_last s k hk with ⟨h1, h2⟩ | ⟨j, h1, hj, h2⟩
    · rw [h1] at HLI
      rw [h2] at hL
      have hYd := hY pre dotL [] wr hL hJr
      rw [show (ByteArray.mk dotL.toArray) = ⟨#[46, 99, 102, 109, 116]⟩ from rfl] at hYd
      obtain ⟨fn, tmps, assign, body, hy, hR⟩ := hYd
      have hv : (s.extract 0 k).extract 0 0 ++ (⟨#[46, 99, 102, 109, 116]⟩ : ByteArray) = ⟨#[46, 99, 102, 109, 116]⟩ := none_val (s.extract 0 k)
      have hvs : ((s.extract 0 k).extract 0 0).size = 0 := by simp
      obtain ⟨sk, hsk⟩ : ∃ sk, s.extract 0 k = sk := ⟨_, rfl⟩
      rw [hsk] at HLI hPc hv hsz hvs
      have hcz : ¬ 9223372036854775807 < (sk.extract 0 0).size + (ByteArray.mk #[46, 99, 102, 109, 116]).size := by rw [hvs]; decide
      have HL := Lib.hid hL
      clear h1 h2 hLI hL hJr hP hk hsk
      gi_wp2_with (refine ⟨trivial, ?_⟩; gi_at_call 49; refine (callsIn_wide.2 HLI.out).mono ?_; rintro e w' ⟨rfl, rfl⟩)
      refine hR.mono ?_
      rintro e' W3 (⟨rfl, hJ3, hk3⟩ | ⟨rfl, hJx3⟩)
      · gi_wp2
        refine bodyPost_ret (results_none rfl _ _ _) rfl ?_
        exact ⟨⟨_, rfl⟩, .inl (by rw [HL.out]; exact hJ3)⟩
      · gi_wp2
        refine bodyPost_ret (results_none rfl _ _ _) rfl ?_
        exact ⟨⟨_, rfl⟩, .inr ⟨_, [], by rw [List.append_nil]; exact HL.out, hJx3⟩⟩
    · rw [h1] at HLI
      rw [h2] at hL
      have hYd := hY pre _ _ wr hL hJr
      have hv := folder_val s k j hj hk
      have hsx : ((s.extract 0 k).extract 0 (j + 1)).size = j + 1 := by simp; omega
      have hcut := path_cut s k j hj hk
      have hL2 : fol s.data.toList s.size = (pre ++ [s.data.toList.take (j + 1) ++ dotL]) ++ fol s.data.toList j := by rw [hL]; simp
      obtain ⟨x, hx⟩ : ∃ x, s.data.toList.take (j + 1) ++ dotL = x := ⟨_, rfl⟩
      rw [hx] at hYd hv hL2
      obtain ⟨X, hX⟩ : ∃ X : ByteArray, (⟨x.toArray⟩ : ByteArray) = X := ⟨_, rfl⟩
      rw [hX] at hYd hv
      obtain ⟨fn, tmps, assign, body, hy, hR⟩ := hYd
      have hsj : (s.extract 0 j).size = j := by simp; omega
      obtain ⟨sk, hsk⟩ : ∃ sk, s.extract 0 k = sk := ⟨_, rfl⟩
      rw [hsk] at HLI hPc hv hsz hsx hcut HP
      obtain ⟨sj, hsj2⟩ : ∃ sj, s.extract 0 j = sj := ⟨_, rfl⟩
      rw [hsj2] at hcut hsj
      have HSJ := Lib.hid hsj2
      have hv' : sk.extract 0 (j + 1) ++ (⟨#[46, 99, 102, 109, 116]⟩ : ByteArray) = X := hv
      have hcz : ¬ 9223372036854775807 < (sk.extract 0 (j + 1)).size + (ByteArray.mk #[46, 99, 102, 109, 116]).size := by rw [hsx]; have := HS.out; have : (ByteArray.mk #[46, 99, 102, 109, 116]).size = 5 := rfl; omega
      have hw : wrap64 ((j : Int) + 1) = ((j + 1 : Nat) : Int) := by have := HS.out; rw [wrap_in _ (by omega)]; omega
      have hjs : j + 1 ≤ sk.size := by omega
      have HL2 := Lib.hid hL2
      have HSZ := Lib.hid hsz
      have HCUT := Lib.hid hcut
      have HJJ := Lib.hid hj
      have HSJS := Lib.hid hsj
      clear h1 h2 hLI hL hJr hP hsk hL2 hx hX hv hsx hsj2 hk hcut hsz hj hsj
      gi_wp2_with (refine ⟨trivial, ?_⟩; gi_at_call 49; refine (callsIn_wide.2 HLI.out).mono ?_; rintro e w' ⟨rfl, rfl⟩)
      refine hR.mono ?_
      rintro e' W3 (⟨rfl, hJ3, hk3⟩ | ⟨rfl, hJx3⟩)
      · have hP3 : PathAt C sk W3 := (hk3 C (by simp)).trans HP.out
        have hc3 := cell_of hP3 0
        simp only [List.getElem?_toArray, List.getElem?_cons_zero] at hc3
        have hcut := HCUT.out
        have hjk : j ≤ sk.size := by have := HSZ.out; have := HJJ.out; omega
        have hfz := frozen_of_row _ C 0 _ _ hP3
        gi_wp2
        have hP4 : PathAt C sj (W3.setCell ⟨C, 0, none⟩ (.string sj)) := (heap_setCell_same _ _ _ _ _ _ hP3).trans rfl
        have hJ4 := hJ _ _ _ (some C) hJ3 (grownBy_setCell' W3 C (.string sj)) (fun r e => by cases e; simp)
        go_roundw
        case rel => exact ⟨j, _, by have := HSZ.out; have := HJJ.out; have := HK.out; omega, by rw [HSJ.out]; exact hP4, HL2.out, hJ4⟩
        case measure => rw [PathAt.size hP4, PathAt.size HP.out, HSJS.out]; have := HSZ.out; have := HJJ.out; omega
      · gi_wp2
        refine bodyPost_ret (results_none rfl _ _ _) rfl ?_
        exact ⟨⟨_, rfl⟩, .inr ⟨_, _, HL2.out, hJx3⟩⟩
end Go.Proofs.YtifbjccioklaoaaDoor
