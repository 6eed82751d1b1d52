/- Not: what a set has not of the lines under n, or an error where it is no set, or n no line. Condition: at most 50 ranges. -/
import Derived.Test.YtapojgbiboeaiaaGreatDoorNo
import Derived.Test.YtapojgbiboeaiaaGreatDoorRv
namespace Go.Proofs.YtapojgbiboeaiaaGreatDoor
set_option linter.unusedVariables false
set_option linter.unusedSimpArgs false
open Go.RowKit Rng
set_option maxRecDepth 100000 in
set_option maxHeartbeats 1000000 in
theorem snot_no {B : Nat} {v : Value} {l : List (Int × Int)} {w : World} (n : Int) (h : Rd B w v l) (hB : B ≤ w.heap.size) (hno : okR l = false ∨ n < 0 ∨ 65536 < n) :
    Calls Tryz.prog 5 #[v, .int .i64 n] w fun e w' => e = .returned (.tuple #[.slice none 0 0, .int .i64 2]) ∧ Below w.heap.size w w' := by
  have HV := Lib.hid (fun (W : World) (hb : Below w.heap.size w W) => valid_calls (h.below hb hB) (Nat.le_trans hB hb.size))
  clear h
  go_enter Tryz.func5, Tryz.ntmps5
  go_upto_region 1 with fail
  obtain ⟨W0, hW0⟩ : ∃ W0, w.alloc (.cells #[.int .i64 n] 3) = W0 := ⟨_, rfl⟩
  have hb0 : W0.heap[w.heap.size]? = some (.cells #[.int .i64 n] 3 (0, 0)) := by rw [← hW0]; exact World.alloc_heap_new w _
  have hB0 : Below w.heap.size w W0 := by rw [← hW0]; exact (Below.refl _ w).alloc (Nat.le_refl _) _
  change Code.wp _ _ _ _ (w.alloc (.cells #[.int .i64 n] 3))
  rw [hW0]
  clear hW0
  have HC := Lib.hid hb0
  have HV0 := HV.out _ hB0
  cases hl : okR l with
  | false =>
    rw [hl] at HV0
    have HV1 := Lib.hid HV0
    clear hno hb0 HV0
    go_wp2_with (go_at_call 17; refine HV1.out.mono ?_; rintro e w1 ⟨rfl, hB1⟩)
    go_ret2
    exact ⟨rfl, hB0.trans (hB1.mono hB0.size)⟩
  | true =>
    rw [hl] at HV0 hno
    have HV1 := Lib.hid HV0
    clear HV0
    by_cases h1 : n < 0
    · clear hno hb0
      go_wp2_with (go_at_call 17; refine HV1.out.mono ?_; rintro e w1 ⟨rfl, hB1⟩; have hc1 := cell_of ((hB1.block _ (Array.getElem?_eq_some_iff.1 HC.out).1).trans HC.out) 0)
      go_ret2
      exact ⟨rfl, hB0.trans (hB1.mono hB0.size)⟩
    · have h2 : 65536 < n := by rcases hno with h | h | h; cases h; exact absurd h h1; exact h
      clear hno hb0
      go_wp2_with (go_at_call 17; refine HV1.out.mono ?_; rintro e w1 ⟨rfl, hB1⟩; have hc1 := cell_of ((hB1.block _ (Array.getElem?_eq_some_iff.1 HC.out).1).trans HC.out) 0)
      go_ret2
      exact ⟨rfl, hB0.trans (hB1.mono hB0.size)⟩
/-- A round of Not. -/
def notStep (n : Int) (s : List (Int × Int) × Int) (r : Int × Int) : List (Int × Int) × Int := (addR s.1 s.2 r.1 n, r.2)
def notR (l : List (Int × Int)) (n : Int) : List (Int × Int) :=
  let s := l.foldl (notStep n) ([], 0)
  addR s.1 s.2 n n
theorem addR_length (l : List (Int × Int)) (a b c : Int) : (addR l a b c).length ≤ l.length + 1 := by
  unfold addR
  split <;> simp
theorem notStep_take {l : List (Int × Int)} {k : Nat} {r : Int × Int} (n : Int) (hr : l[k]? = some r) : (l.take (k + 1)).foldl (notStep n) ([], 0) = notStep n ((l.take k).foldl (notStep n) ([], 0)) r := by
  rw [List.take_add_one, hr, List.foldl_append]
  rfl
theorem notStep_length (l : List (Int × Int)) (n : Int) : ∀ k, ((l.take k).foldl (notStep n) ([], 0)).1.length ≤ k := by
  intro k
  induction k with
  | zero => simp
  | succ k ih =>
    cases hr : l[k]? with
    | none =>
      have : l.take (k + 1) = l.take k := by rw [List.take_add_one, hr]; simp
      rw [this]; omega
    | some r =>
      rw [notStep_take n hr]
      have := addR_length ((l.take k).foldl (notStep n) ([], 0)).1 ((l.take k).foldl (notStep n) ([], 0)).2 r.1 n
      show (addR _ _ _ _).length ≤ k + 1
      omega
set_option maxRecDepth 100000 in
set_option maxHeartbeats 1000000 in
theorem snot_ok {B : Nat} {v : Value} {l : List (Int × Int)} {w : World} (n : Nat) (h : Rd B w v l) (hB : B ≤ w.heap.size) (hl : okR l = true) (hn : n ≤ 65536) (hlen : l.length ≤ 1000) :
    Calls Tryz.prog 5 #[v, .int .i64 n] w fun e w' => ∃ x, e = .returned (.tuple #[x, .int .i64 0]) ∧ Own w' w.heap.size x (notR l n) ∧ Below w.heap.size w w' := by
  have HV := Lib.hid (fun (W : World) (hb : Below w.heap.size w W) => valid_calls (h.below hb hB) (Nat.le_trans hB hb.size))
  obtain ⟨ao, cap, rfl, q1, q2, q3⟩ := h
  have H3 := Lib.hid q3
  rw [hl] at HV
  have hn1 : ¬ (n : Int) < 0 := by omega
  have hn2 : ¬ 65536 < (n : Int) := by omega
  have HLEN := Lib.hid hlen
  clear q3 hl hn hlen
  go_enter Tryz.func5, Tryz.ntmps5
  go_upto_region 1 with fail
  obtain ⟨W0, hW0⟩ : ∃ W0, w.alloc (.cells #[.int .i64 n] 3) = W0 := ⟨_, rfl⟩
  have hb0 : W0.heap[w.heap.size]? = some (.cells #[.int .i64 n] 3 (0, 0)) := by rw [← hW0]; exact World.alloc_heap_new w _
  have hB0 : Below w.heap.size w W0 := by rw [← hW0]; exact (Below.refl _ w).alloc (Nat.le_refl _) _
  change Code.wp _ _ _ _ (w.alloc (.cells #[.int .i64 n] 3))
  rw [hW0]
  clear hW0
  have hbl0 := (Array.getElem?_eq_some_iff.1 hb0).1
  have hc0 := cell_of hb0 0
  have HC := Lib.hid hb0
  have HV1 := Lib.hid (HV.out _ hB0)
  clear hb0 HV
  go_upto_region 3 with (go_at_call 17; refine HV1.out.mono ?_; rintro e w1 ⟨rfl, hB1⟩; have hc1 := (hB1.cell (p := ⟨w.heap.size, 0, none⟩) hbl0).trans hc0)
  have hN := (hB1.block _ hbl0).trans HC.out
  have hB2 := hB0.trans (hB1.mono hB0.size)
  have hs1 : w.heap.size < w1.heap.size := Nat.lt_of_lt_of_le hbl0 hB1.size
  clear hc1 hc0 HC HV1 hbl0 hB0 hB1
  go_upto_region 6 with fail
  obtain ⟨O, hO⟩ : ∃ O, w1.heap.size = O := ⟨_, rfl⟩
  obtain ⟨N, hNN⟩ : ∃ N, w.heap.size = N := ⟨_, rfl⟩
  obtain ⟨W2, hW2⟩ : ∃ W2, (w1.alloc (.cells #[.slice none 0 0] 22)).alloc (.cells #[.int .i64 0] 3) = W2 := ⟨_, rfl⟩
  have hb1 : W2.heap[O]? = some (.cells #[.slice none 0 0] 22 (0, 0)) := by rw [← hW2, ← hO]; exact (Below.heap_alloc _ _ _ (by simp)).trans (World.alloc_heap_new w1 _)
  have hb2 : W2.heap[O + 1]? = some (.cells #[.int .i64 0] 3 (0, 0)) := by rw [← hW2, ← hO]; have := World.alloc_heap_new (w1.alloc (.cells #[.slice none 0 0] 22)) (.cells #[.int .i64 0] 3); rwa [World.size_alloc] at this
  have hN2 : W2.heap[N]? = some (.cells #[.int .i64 n] 3 (0, 0)) := by rw [← hW2, ← hNN]; exact (Below.heap_alloc _ _ _ (by simp; omega)).trans ((Below.heap_alloc _ _ _ hs1).trans hN)
  have hB3 : Below w.heap.size w W2 := by rw [← hW2]; exact (hB2.alloc hB2.size _).alloc (by simp; omega) _
  have hsz2 : W2.heap.size = O + 2 := by rw [← hW2, ← hO]; simp
  change Code.wp _ _ _ _ ((w1.alloc (.cells #[.slice none 0 0] 22)).alloc (.cells #[.int .i64 0] 3))
  rw [hW2]
  have hNO : N < O := by omega
  rw [hO, hNN]
  rw [hNN] at hB3 hB
  clear hW2 hN hB2 hs1 hO
  go_wp2
  go_loopw [25] (fun i wr => ∃ k : Nat, k ≤ l.length ∧ i = .int .i64 k ∧ ∃ v, wr.heap[O]? = some (.cells #[v] 22 (0, 0)) ∧ Own wr (O + 2) v ((l.take k).foldl (notStep n) ([], 0)).1 ∧ wr.heap[O + 1]? = some (.cells #[.int .i64 ((l.take k).foldl (notStep n) ([], 0)).2] 3 (0, 0)) ∧ wr.heap[N]? = some (.cells #[.int .i64 n] 3 (0, 0)) ∧ O + 2 ≤ wr.heap.size ∧ Below N w wr) (fun i _ => l.length - (intOf i).toNat)
  case atStart => exact ⟨0, Nat.zero_le _, rfl, _, hb1, World.ownsRow_nil _ _ _ _, hb2, hN2, by omega, hB3⟩
  case round =>
    clear hb1 hb2 hN2 hB3 hsz2
    obtain ⟨k, hk, rfl, v, gO, gW, gA, gN, gs, hBr⟩ := hrel
    have hle := notStep_length l n k
    by_cases hlt : k < l.length
    · obtain ⟨r, hr⟩ : ∃ r, l[k]? = some r := ⟨_, List.getElem?_eq_getElem hlt⟩
      obtain ⟨b, o, rfl, hb, c1, c2⟩ := H3.out k r hr
      have c1' := (World.cell?_of_block (hBr.block b (Nat.lt_of_lt_of_le hb hB))).trans c1
      have c2' := (World.cell?_of_block (hBr.block b (Nat.lt_of_lt_of_le hb hB))).trans c2
      have hlt' : (k : Int) < l.length := by omega
      have HT := Lib.hid (notStep_take (n : Int) hr)
      have HK := Lib.hid hlt
      have HW := Lib.hid (wrap_succ hlt q1 q2)
      obtain ⟨s, hs⟩ : ∃ s, (l.take k).foldl (notStep n) ([], 0) = s := ⟨_, rfl⟩
      rw [hs] at gW gA HT hle
      have hle2 : s.1.length ≤ 1000 := by have := HLEN.out; omega
      clear hr hlt c1 c2 hs hle
      go_upto_region 9 with fail
      obtain ⟨P, hP⟩ : ∃ P, wr.heap.size = P := ⟨_, rfl⟩
      obtain ⟨W0, hW0⟩ : ∃ W0, wr.alloc (.cells #[.int .i64 r.1, .int .i64 r.2] 28) = W0 := ⟨_, rfl⟩
      have p0 : W0.heap[P]? = some (.cells #[.int .i64 r.1, .int .i64 r.2] 28 (0, 0)) := by rw [← hW0, ← hP]; exact World.alloc_heap_new wr _
      have pB : Below P wr W0 := by rw [← hW0, ← hP]; exact (Below.refl _ wr).alloc (Nat.le_refl _) _
      have pW : Own W0 (O + 2) v s.1 := by rw [← hW0]; exact gW.alloc _
      have hPs : P < W0.heap.size := (Array.getElem?_eq_some_iff.1 p0).1
      change Code.wp _ _ _ _ (wr.alloc (.cells #[.int .i64 r.1, .int .i64 r.2] 28))
      rw [hW0, hP]
      have hlt2 : ∀ j, v.ownBlock = some j → O + 2 ≤ j ∧ j < P := by rw [← hP]; exact gW.lt
      rw [hP] at gs
      have jO := (pB.block O (by omega)).trans gO
      have jA := (pB.block (O + 1) (by omega)).trans gA
      have jN := (pB.block N (by omega)).trans gN
      have HCL := Lib.hid (not1_calls s.2 r.1 n jA jN jO hNO (Nat.lt_succ_self _) (Nat.lt_succ_self _) (by omega) pW hle2)
      have hc1 := cell_of p0 0
      have hc2 := cell_of p0 1
      have HP0 := Lib.hid p0
      have HJA := Lib.hid jA
      have HJN := Lib.hid jN
      have HB0 := Lib.hid (hBr.trans (pB.mono (show N ≤ P by omega)))
      clear hW0 c1' c2' gO gA gN gW pW p0 jA jN jO hBr pB
      go_wp2_with (go_at_call 18; refine HCL.out.mono ?_; rintro e w2 ⟨⟨x, rfl⟩, v2, kO, kW, kall, kB⟩; have kP := (kall P hPs (by omega) (fun e => by have := hlt2 _ e; omega)).trans HP0.out; have kc2 := cell_of kP 1; have kA := (kall (O + 1) (by omega) (by omega) (fun e => by have := hlt2 _ e; omega)).trans HJA.out; have kcA := cell_of kA 0; have kfA := frozen_of_row _ (O + 1) 0 _ _ kA)
      have kN := (kall N (by omega) (by omega) (fun e => by have := hlt2 _ e; omega)).trans HJN.out
      have hlt := HK.out
      go_roundw
      case rel =>
        refine ⟨k + 1, hlt, by rw [HW.out], v2, (Below.heap_setCell _ _ _ _ (by simp)).trans kO, ?_, ?_, (Below.heap_setCell _ _ _ _ (by simp; omega)).trans kN, ?_, ?_⟩
        · rw [HT.out]; exact own_setCell kW (by simp) _
        · rw [HT.out]; exact (heap_setCell_same _ _ _ _ _ _ kA).trans rfl
        · have := kB.size; simp; omega
        · exact (HB0.out.trans (kB.mono (Nat.le_of_lt hNO))).setCell (by simp; omega) _
      case measure => rw [HW.out]; simp only [intOf]; omega
    · have hlt' : ¬ (k : Int) < l.length := by omega
      have hk2 : k = l.length := by omega
      have hT : (l.take k).foldl (notStep n) ([], 0) = l.foldl (notStep n) ([], 0) := by rw [List.take_of_length_le (by omega)]
      rw [hT] at gW gA hle
      have HNR := Lib.hid (show notR l n = addR (l.foldl (notStep n) ([], 0)).1 (l.foldl (notStep n) ([], 0)).2 n n from rfl)
      obtain ⟨s, hs⟩ : ∃ s, l.foldl (notStep n) ([], 0) = s := ⟨_, rfl⟩
      rw [hs] at gW gA hle HNR
      have hle2 : s.1.length ≤ 1000 := by have := HLEN.out; omega
      have HCL := Lib.hid (not1_calls s.2 n n gA gN gO hNO (Nat.lt_succ_self _) (Nat.lt_succ_self _) gs gW hle2)
      have hcN := cell_of gN 0
      clear gA gN gO hs hT hk2 hle
      go_wp2_with (go_at_call 18; refine HCL.out.mono ?_; rintro e w2 ⟨⟨x, rfl⟩, v2, kO, kW, kall, kB⟩; have kcO := cell_of kO 0)
      go_ret2
      refine ⟨v2, rfl, ?_, ?_⟩
      · rw [HNR.out]; exact own_mono kW (by omega)
      · rw [hNN]; exact hBr.trans (kB.mono (Nat.le_of_lt hNO))
end Go.Proofs.YtapojgbiboeaiaaGreatDoor
