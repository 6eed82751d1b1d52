/- strings.SplitSeq at a line's end: its iterator gives the lines of a text. Conditions: at most 70000 bytes; the captured variables' blocks hold the text, the line's end and 0. -/
import Derived.Test.YtjfpfmknngkgaaaDoorRgn
import Derived.Test.YtjfpfmknngkgaaaDoorShm
import Derived.Lib.Hide
import Derived.Lib.IndexLaws
import Derived.WalkKit
import Derived.WalkSpells
import Derived.WalkLawsBesides
import Derived.KernelRfl
import Derived.Outline
import Derived.OwnWalkIn
import Derived.TacticsInMore
import Derived.LoopNIn
import Derived.LoopIn
import Derived.Sort.CutIn
import Derived.WalkMore
namespace Go.Proofs.YtjfpfmknngkgaaaDoor
set_option linter.unusedVariables false
set_option linter.unusedSimpArgs false
open Go.RowKit Rng
attribute [local go_sem] Oper.semAt_some
theorem wrap_in2 (n : Int) (h : -9223372036854775808 ≤ n ∧ n ≤ 9223372036854775807) : wrap64 n = n := by unfold wrap64; omega
/-- A text's lines. -/
def splitNl : List UInt8 → List (List UInt8)
  | [] => [[]]
  | c :: r => if c = 10 then [] :: splitNl r else match splitNl r with
    | [] => [[c]]
    | h :: t => (c :: h) :: t
theorem splitNl_ne : ∀ l, splitNl l ≠ []
  | [] => by simp [splitNl]
  | c :: r => by
    have ih := splitNl_ne r
    unfold splitNl
    split
    · simp
    · cases h : splitNl r with
      | nil => exact absurd h ih
      | cons a t => simp
theorem splitNl_at : ∀ (l : List UInt8) (j : Nat), l[j]? = some 10 → (∀ (i : Nat), i < j → l[i]? ≠ some 10) → splitNl l = l.take j :: splitNl (l.drop (j + 1))
  | [], j, h, _ => by simp at h
  | c :: r, 0, h, _ => by
    have hc : c = 10 := by simpa using h
    conv => lhs; unfold splitNl
    rw [if_pos hc]
    rfl
  | c :: r, j + 1, h, hn => by
    have hc : c ≠ 10 := fun e => hn 0 (by omega) (by simp [e])
    have ih := splitNl_at r j (by simpa using h) (fun i hi => by have := hn (i + 1) (by omega); simpa using this)
    conv => lhs; unfold splitNl
    rw [if_neg hc, ih]
    rfl
theorem splitNl_none : ∀ (l : List UInt8), (∀ (i : Nat), l[i]? ≠ some 10) → splitNl l = [l]
  | [], _ => rfl
  | c :: r, hn => by
    have hc : c ≠ 10 := fun e => hn 0 (by simp [e])
    have ih := splitNl_none r (fun i => by have := hn (i + 1); simpa using this)
    unfold splitNl
    rw [if_neg hc, ih]
def szAt (W : World) (b : Nat) : Nat := match W.cell? ⟨b, 0, none⟩ with | some (.string s) => s.size | _ => 0
/-- The captured variables hold the text, the line's end and 0. -/
def SplAt (PS PP PV : Nat) (s : ByteArray) (W : World) : Prop := W.heap[PS]? = some (.cells #[.string s] 9 (0, 0)) ∧ W.heap[PP]? = some (.cells #[.string ⟨#[10]⟩] 9 (0, 0)) ∧ W.heap[PV]? = some (.cells #[.int .i64 0] 3 (0, 0))
theorem SplAt.size {PS PP PV : Nat} {s : ByteArray} {W : World} (h : SplAt PS PP PV s W) : szAt W PS = s.size := by
  unfold szAt
  rw [cell_of h.1 0]
  rfl
theorem SplAt.of_same {PS PP PV : Nat} {s : ByteArray} {W W' : World} (h : SplAt PS PP PV s W) (hs : Same [PS, PP, PV] W W') : SplAt PS PP PV s W' :=
  ⟨(hs PS (by simp)).trans h.1, (hs PP (by simp)).trans h.2.1, (hs PV (by simp)).trans h.2.2⟩
theorem cutL (s : ByteArray) (a b : Nat) (hb : b ≤ s.size) : (s.extract a b).data.toList = (s.data.toList.take b).drop a := by
  simp [ByteArray.data_extract, Array.toList_extract, List.extract_eq_take_drop]
  rw [List.drop_take]
set_option maxRecDepth 100000 in
set_option maxHeartbeats 1000000 in
theorem split1_iter (PS PP PV : Nat) (h1 : PS ≠ PP) (h2 : PS ≠ PV) (s : ByteArray) (hs : s.size ≤ 70000) :
    Iter Tryd.prog 8 51 #[.pointer (some ⟨PP, 0, none⟩), .pointer (some ⟨PS, 0, none⟩), .pointer (some ⟨PV, 0, none⟩)] (fun x : List UInt8 => #[.string ⟨x.toArray⟩]) [PS] [PS, PP, PV] (SplAt PS PP PV s) (splitNl s.data.toList) := by
  intro q J Jx W hH hJ hJx hY h0
  refine callsIn_of_wp Tryd.func51 rfl trivial ?_ rfl
  simp only [Tryd.ntmps51, List.size_toArray, List.length_cons, List.length_nil, Nat.reduceAdd, Nat.reduceSub, Array.replicate_succ, Array.replicate_zero, List.push_toArray, List.append_toArray, List.nil_append, List.cons_append]
  have HS := Lib.hid hs
  have HH := Lib.hid hH
  have H0 := Lib.hid h0
  have hp := cell_of hH.2.1 0
  simp only [List.getElem?_toArray, List.getElem?_cons_zero] at hp
  have hpz : (ByteArray.mk #[10]).size = 1 := rfl
  clear hs hH h0
  gi_wp2
  clear hp
  gi_loopw [7, 8] (fun _ _ wr => ∃ (cur : ByteArray) (pre : List (List UInt8)), cur.size ≤ s.size ∧ SplAt PS PP PV cur wr ∧ splitNl s.data.toList = pre ++ splitNl cur.data.toList ∧ J pre wr)
    (fun _ _ wr => szAt wr PS)
  case atStart => exact ⟨s, [], Nat.le_refl _, HH.out, rfl, H0.out⟩
  case round =>
    obtain ⟨cur, pre, hk, hP, hL, hJr⟩ := hrel
    have hc1 := cell_of hP.1 0
    have hc2 := cell_of hP.2.1 0
    have hc3 := cell_of hP.2.2 0
    simp only [List.getElem?_toArray, List.getElem?_cons_zero] at hc1 hc2 hc3
    have HI := Lib.hid (Tryd.strings_Index_one cur 10 wr)
    have HP := Lib.hid hP
    have HK := Lib.hid hk
    have HJr := Lib.hid hJr
    have HL := Lib.hid hL
    obtain ⟨ix, hix⟩ : ∃ ix, Lib.indexByte cur.data.toList 10 = ix := ⟨_, rfl⟩
    rw [hix] at HI
    have hge : -1 ≤ ix := by rw [← hix]; exact Lib.indexByte_ge _ _
    by_cases hneg : ix < 0
    · have hm1 : ix = -1 := by omega
      subst hm1
      have HN := Lib.hid (splitNl_none _ (Lib.indexByte_none hix))
      clear hk hP hL hJr hge hneg hix
      have hYd := hY pre cur.data.toList [] wr (by rw [HL.out, HN.out]) HJr.out
      rw [show (ByteArray.mk cur.data.toList.toArray) = cur from rfl] at hYd
      obtain ⟨fn, tmps, assign, body, hy, hR⟩ := hYd
      gi_wp2_with (refine ⟨trivial, ?_⟩; gi_at_call 53; refine (callsIn_wide.2 HI.out).mono ?_; rintro e w' ⟨rfl, rfl⟩)
      refine hR.mono ?_
      rintro e' W3 (⟨rfl, hJ3, hk3⟩ | ⟨rfl, hJx3⟩)
      · gi_wp2
        go_end0
        exact ⟨⟨_, rfl⟩, .inl (by rw [HL.out, HN.out]; exact hJ3)⟩
      · gi_wp2
        go_end0
        exact ⟨⟨_, rfl⟩, .inr ⟨_, [], by rw [List.append_nil, HL.out, HN.out], hJx3⟩⟩
    · obtain ⟨j, rfl⟩ : ∃ j : Nat, ix = j := ⟨ix.toNat, by omega⟩
      obtain ⟨g1, g2⟩ := Lib.indexByte_some hix
      have hjc : j < cur.size := by
        have := (List.getElem?_eq_some_iff.1 g1).1
        rwa [← Lib.size_eq] at this
      have HA := Lib.hid (splitNl_at _ j g1 g2)
      obtain ⟨fr, hfr⟩ : ∃ fr, cur.extract 0 j = fr := ⟨_, rfl⟩
      obtain ⟨re, hre⟩ : ∃ re, cur.extract (j + 1) cur.size = re := ⟨_, rfl⟩
      have hrl : re.data.toList = cur.data.toList.drop (j + 1) := by rw [← hre, cutL _ _ _ (Nat.le_refl _), List.take_of_length_le (by rw [← Lib.size_eq]; exact Nat.le_refl _)]
      have hrs : re.size = cur.size - (j + 1) := by rw [← hre]; simp
      have hfv : fr = ⟨(cur.data.toList.take j).toArray⟩ := by
        apply ByteArray.ext
        apply Array.toList_inj.1
        rw [← hfr, cutL _ _ _ (by omega), List.drop_zero]
      have hL2 : splitNl s.data.toList = (pre ++ [cur.data.toList.take j]) ++ splitNl re.data.toList := by rw [HL.out, HA.out, hrl]; simp
      have HL2 := Lib.hid hL2
      have hYd := hY pre (cur.data.toList.take j) (splitNl re.data.toList) wr (by rw [hL2]; simp) HJr.out
      rw [← hfv] at hYd
      obtain ⟨fn, tmps, assign, body, hy, hR⟩ := hYd
      have HRS := Lib.hid hrs
      have HJC := Lib.hid hjc
      have HRE := Lib.hid hre
      have hw0 : wrap64 (j : Int) = (j : Int) := wrap_in2 _ (by have := HS.out; have := HK.out; omega)
      have hw1 : wrap64 ((j : Int) + 1) = ((j + 1 : Nat) : Int) := by have := HS.out; have := HK.out; clear hw0; rw [wrap_in2 _ (by omega)]; omega
      have HW1 := Lib.hid hw1
      have hj0 : (0 : Int) ≤ j := by omega
      have hjz : j ≤ cur.size := by omega
      clear hk hP hL hJr hge hneg hix g1 g2 hrl hrs hL2 hjc hre hw1 hfv
      gi_wp2_with (refine ⟨trivial, ?_⟩; gi_at_call 53; refine (callsIn_wide.2 HI.out).mono ?_; rintro e w' ⟨rfl, rfl⟩)
      refine hR.mono ?_
      rintro e' W3 (⟨rfl, hJ3, hk3⟩ | ⟨rfl, hJx3⟩)
      · have hP3 : SplAt PS PP PV cur W3 := HP.out.of_same hk3
        have d1 := cell_of hP3.1 0
        have d2 := cell_of hP3.2.1 0
        simp only [List.getElem?_toArray, List.getElem?_cons_zero] at d1 d2
        have hfz := frozen_of_row _ PS 0 _ _ hP3.1
        have hre := HRE.out
        have hw1 := HW1.out
        have hj1 : j + 1 ≤ cur.size := by have := HJC.out; omega
        have HP3 := Lib.hid hP3
        clear hP3
        gi_wp2
        have hP4 : SplAt PS PP PV re (W3.setCell ⟨PS, 0, none⟩ (.string re)) := ⟨(heap_setCell_same _ _ _ _ _ _ HP3.out.1).trans rfl, (Below.heap_setCell _ _ _ _ (fun e => h1 (show PP = PS from e).symm)).trans HP3.out.2.1, (Below.heap_setCell _ _ _ _ (fun e => h2 (show PV = PS from e).symm)).trans HP3.out.2.2⟩
        have hJ4 := hJ _ _ _ (some PS) hJ3 (grownBy_setCell' W3 PS (.string re)) (fun r e => by cases e; simp)
        go_roundw
        case rel => exact ⟨re, _, by have := HRS.out; have := HK.out; omega, hP4, HL2.out, hJ4⟩
        case measure => rw [SplAt.size hP4, SplAt.size HP.out, HRS.out]; have := HJC.out; omega
      · gi_wp2
        refine bodyPost_ret (results_none rfl _ _ _) rfl ?_
        exact ⟨⟨_, rfl⟩, .inr ⟨_, _, HL2.out, hJx3⟩⟩
theorem split_maker (s : ByteArray) (w : World) :
    Calls Tryd.prog 26 #[.string s, .string ⟨#[10]⟩] w fun e w' => e = .returned (.func (.func 51) #[] #[.pointer (some ⟨w.heap.size + 1, 0, none⟩), .pointer (some ⟨w.heap.size, 0, none⟩), .pointer (some ⟨w.heap.size + 1 + 1, 0, none⟩)]) ∧
      w' = ((w.alloc (.cells #[.string s] 9)).alloc (.cells #[.string ⟨#[10]⟩] 9)).alloc (.cells #[.int .i64 0] 3) := by
  go_enter Tryd.func26, Tryd.ntmps26
  go_wp2_with (go_in)
  go_ret
  exact ⟨rfl, rfl⟩
end Go.Proofs.YtjfpfmknngkgaaaDoor
