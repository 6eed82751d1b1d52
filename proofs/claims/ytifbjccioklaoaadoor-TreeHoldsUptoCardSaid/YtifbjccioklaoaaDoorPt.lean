/- Path: whether a text is a path: at most twenty names, each fit. Conditions: at most 3000 bytes; the library's variable of the longest needle is there. -/
import Derived.Test.YtifbjccioklaoaaDoorTr
import Derived.Test.YtifbjccioklaoaaDoorShelf
import Derived.Lib.SplitLaws
import Derived.Lib.Hide
import Derived.Deep.DeepCutAuto
import Derived.WalkKit
namespace Go.Proofs.YtifbjccioklaoaaDoor
set_option linter.unusedVariables false
set_option linter.unusedSimpArgs false
open Go.RowKit Go.Shelf Rng
/-- The library's variable that is read. -/
def EnvT (B : Nat) (w : World) : Prop := 0 < B ∧ ∃ m : Int, w.cell? ⟨0, 0, none⟩ = some (.int .i64 m)
theorem EnvT.later {B : Nat} {w w' : World} (h : EnvT B w) (hb : Below B w w') : EnvT B w' := by
  obtain ⟨b0, m, h1⟩ := h
  exact ⟨b0, m, (hb.cell (p := ⟨0, 0, none⟩) b0).trans h1⟩
def slash : ByteArray := ⟨#[47]⟩
def namesIn (s : ByteArray) : List ByteArray := Lib.splitB slash 0 (Lib.countB s slash) s
/-- A letter that no name has. -/
def badC (c : Nat) : Bool := decide (c < 33) || decide (126 < c)
def badN (n : ByteArray) : Bool := decide (0 ≤ Lib.idxFunc badC true n)
def nameB (n : ByteArray) : Bool := !decide (n.size < 1) && !decide (32 < n.size) && !decide (n = ⟨#[46]⟩) && !decide (n = ⟨#[46, 46]⟩) && !badN n
def pathB (s : ByteArray) : Bool := decide ((namesIn s).length ≤ 20) && (namesIn s).all nameB
theorem split_calls {B : Nat} (s : ByteArray) (hs : s.size ≤ 3000) (w : World) (hB : B ≤ w.heap.size) (ht : EnvT B w) :
    Calls Tryd.prog 19 #[.string s, .string slash] w fun e w' => ∃ g L, e = .returned (.slice (some ⟨g, 0, none⟩) L L) ∧ L = (namesIn s).length ∧ L ≤ 3001 ∧ w'.heap[g]? = some (.cells ((namesIn s).map Value.string).toArray 9 (0, 0)) ∧ Below w.heap.size w w' := by
  obtain ⟨_, m, hm⟩ := ht
  refine (Tryd.strings_Split s slash m w (by omega) hm (by decide)).mono fun e w' ⟨he, hw⟩ => ⟨w.heap.size, _, he, ?_, ?_, ?_, ?_⟩
  · exact (Lib.splitB_all slash (by decide) 0 _ s rfl).symm
  · have := Lib.countB_le slash (by decide) s.size s (Nat.le_refl _); omega
  · rw [hw]; exact World.alloc_heap_new w _
  · rw [hw]; exact (Below.refl _ w).alloc (Nat.le_refl _) _
theorem path1_pred (w : World) : PredAt Tryd.prog 21 #[] encR badC w := by
  intro W c _
  unfold FnGives
  by_cases h1 : c < 33
  · have e : badC c = true := by simp [badC, h1]
    have h1' : (c : Int) < 33 := by omega
    rw [e]
    clear e
    go_enter Tryd.func21, Tryd.ntmps21
    go_wp2
    go_ret
    exact ⟨rfl, 0, rfl⟩
  · have h1' : ¬ (c : Int) < 33 := by omega
    by_cases h2 : 126 < c
    · have e : badC c = true := by simp [badC, h2]
      have h2' : 126 < (c : Int) := by omega
      rw [e]
      clear e
      go_enter Tryd.func21, Tryd.ntmps21
      go_wp2
      go_ret
      exact ⟨rfl, 0, rfl⟩
    · have e : badC c = false := by simp [badC, h1, h2]
      have h2' : ¬ 126 < (c : Int) := by omega
      rw [e]
      clear e
      go_enter Tryd.func21, Tryd.ntmps21
      go_wp2
      go_ret
      exact ⟨rfl, 0, rfl⟩
theorem bad_calls (n : ByteArray) (w : World) :
    Calls Tryd.prog 20 #[.string n, .func (.func 21) #[] #[]] w fun e w' => e = .returned (.bool (badN n)) ∧ Below w.heap.size w w' :=
  Tryd.strings_ContainsFunc 21 #[] (enters_of Tryd.func21 (by kernel_rfl) rfl) badC n w (path1_pred w)
set_option maxRecDepth 100000 in
set_option maxHeartbeats 2000000 in
theorem path_calls {B : Nat} (s : ByteArray) (hs : s.size ≤ 3000) (w : World) (hB : B ≤ w.heap.size) (ht : EnvT B w) :
    Calls Tryd.prog 9 #[.string s] w fun e w' => e = .returned (.bool (pathB s)) ∧ Below w.heap.size w w' := by
  have HS := Lib.hid (split_calls s hs w hB ht)
  clear ht hs hB
  go_enter Tryd.func9, Tryd.ntmps9
  go_upto_region 2 with (go_at_call 19; refine HS.out.mono ?_; rintro e w1 ⟨g, L, rfl, hL, hL1, hg, hB1⟩; have HL := Lib.hid hL; clear hL)
  have HG := Lib.hid hg
  have HB1 := Lib.hid hB1
  have hgs := (Array.getElem?_eq_some_iff.1 hg).1
  clear HS hg hB1
  by_cases h20 : 20 < L
  · have h20' : 20 < (L : Int) := by omega
    have e : pathB s = false := by
      unfold pathB
      rw [← HL.out, decide_eq_false (by omega)]
      rfl
    go_wp2
    go_ret
    exact ⟨by rw [e]; rfl, HB1.out⟩
  · have h20' : ¬ 20 < (L : Int) := by omega
    have e : pathB s = (namesIn s).all nameB := by
      unfold pathB
      rw [← HL.out, decide_eq_true (by omega)]
      rfl
    have HEQ := Lib.hid e
    clear e
    have H20 := Lib.hid h20
    go_upto_region 4 with fail
    clear h20 h20'
    go_wp2
    go_loopw [5, 13] (fun _ i wr => ∃ k : Nat, k ≤ L ∧ i = .int .i64 k ∧ ((namesIn s).take k).all nameB = true ∧ Below w1.heap.size w1 wr) (fun _ i _ => L - (intOf i).toNat)
    case atStart => exact ⟨0, Nat.zero_le _, rfl, rfl, Below.refl _ _⟩
    case round =>
      obtain ⟨k, hk, rfl, hall, hBr⟩ := hrel
      by_cases hlt : k < L
      · obtain ⟨p, hp⟩ : ∃ p, (namesIn s)[k]? = some p := ⟨_, List.getElem?_eq_getElem (by rw [← HL.out]; exact hlt)⟩
        have hcell : wr.cell? ⟨g, k, none⟩ = some (.string p) := by
          rw [cell_of ((hBr.block g hgs).trans HG.out) k]
          simp [hp]
        have hlt' : (k : Int) < L := by omega
        have HK := Lib.hid hlt
        have HWK := Lib.hid (show wrap64 ((k : Int) + 1) = ((k + 1 : Nat) : Int) by rw [wrap_in _ (by omega)]; omega)
        have HTk := Lib.hid (show (namesIn s).take (k + 1) = (namesIn s).take k ++ [p] by rw [List.take_add_one, hp]; rfl)
        have HNO := Lib.hid (show nameB p = false → (namesIn s).all nameB = false from fun h => List.all_eq_false.2 ⟨p, List.mem_of_getElem? hp, by simp [h]⟩)
        have HYES := Lib.hid (show nameB p = true → ((namesIn s).take (k + 1)).all nameB = true from fun h => by rw [HTk.out, List.all_append, hall]; simp [h])
        have HBr := Lib.hid hBr
        have HC := Lib.hid (bad_calls p wr)
        obtain ⟨bn, hbn⟩ : ∃ bn, badN p = bn := ⟨_, rfl⟩
        have HNB := Lib.hid (show nameB p = (!decide (p.size < 1) && !decide (32 < p.size) && !decide (p = ⟨#[46]⟩) && !decide (p = ⟨#[46, 46]⟩) && !bn) by rw [← hbn]; rfl)
        rw [hbn] at HC
        clear hp hlt hBr hall hbn
        go_upto_region 7 with fail
        clear hcell
        have no : ∀ (w' : World), Below wr.heap.size wr w' → nameB p = false → (Ending.returned (Value.bool false) = Ending.returned (Value.bool (pathB s)) ∧ Below w.heap.size w w') := fun w' hb h => ⟨by rw [HEQ.out, HNO.out h], HB1.out.trans ((HBr.out.trans (hb.mono HBr.out.size)).mono HB1.out.size)⟩
        have NO := Lib.hid no
        clear no
        by_cases h1 : p.size < 1
        · have HF := Lib.hid (show nameB p = false by rw [HNB.out, decide_eq_true h1]; simp)
          have h1' : (p.size : Int) < 1 := by omega
          clear h1
          go_wp2
          go_ret
          exact NO.out _ (Below.refl _ _) HF.out
        have h1' : ¬ (p.size : Int) < 1 := by omega
        by_cases h2 : 32 < p.size
        · have HF := Lib.hid (show nameB p = false by rw [HNB.out, decide_eq_true h2]; simp)
          have h2' : 32 < (p.size : Int) := by omega
          clear h1 h2
          go_wp2
          go_ret
          exact NO.out _ (Below.refl _ _) HF.out
        have h2' : ¬ 32 < (p.size : Int) := by omega
        by_cases h3 : p = ⟨#[46]⟩
        · have HF := Lib.hid (show nameB p = false by rw [HNB.out, decide_eq_true h3]; simp)
          subst h3
          clear h1 h2 h1' h2'
          go_wp2
          go_ret
          exact NO.out _ (Below.refl _ _) HF.out
        have h3' : (p.toList == [46]) = false := by
          rw [ByteArray.toList_eq]
          refine beq_eq_false_iff_ne.2 fun h => h3 (ByteArray.ext ?_)
          exact Array.toList_inj.1 h
        by_cases h4 : p = ⟨#[46, 46]⟩
        · have HF := Lib.hid (show nameB p = false by rw [HNB.out, decide_eq_true h4]; simp)
          subst h4
          clear h1 h2 h1' h2' h3 h3'
          go_wp2
          go_ret
          exact NO.out _ (Below.refl _ _) HF.out
        have h4' : (p.toList == [46, 46]) = false := by
          rw [ByteArray.toList_eq]
          refine beq_eq_false_iff_ne.2 fun h => h4 (ByteArray.ext ?_)
          exact Array.toList_inj.1 h
        have HE := Lib.hid (show nameB p = !bn by
          rw [HNB.out, decide_eq_false h1, decide_eq_false h2, decide_eq_false h3, decide_eq_false h4]
          rfl)
        clear h1 h2 h3 h4
        cases bn with
        | true =>
          go_wp2_with (go_at_call 20; refine HC.out.mono ?_; rintro e w3 ⟨rfl, hB3⟩)
          go_ret
          exact NO.out _ hB3 HE.out
        | false =>
          go_wp2_with (go_at_call 20; refine HC.out.mono ?_; rintro e w3 ⟨rfl, hB3⟩)
          go_roundw
          case rel => exact ⟨k + 1, HK.out, rfl, HYES.out HE.out, HBr.out.trans (hB3.mono HBr.out.size)⟩
          case measure => have := HK.out; simp [intOf]; omega
      · have hke : k = L := by omega
        subst hke
        have HF := Lib.hid (show (namesIn s).all nameB = true by rw [HL.out, List.take_length] at hall; exact hall)
        have HBr := Lib.hid hBr
        clear hall hBr
        go_wp2
        go_ret
        exact ⟨by rw [HEQ.out, HF.out]; rfl, HB1.out.trans (HBr.out.mono HB1.out.size)⟩
end Go.Proofs.YtifbjccioklaoaaDoor
