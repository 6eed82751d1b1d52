/- Lines marks just the lines that ranges have, one cell for each of 65536. Condition: the ranges are a set. -/
import Derived.Test.YtapojgbiboeaiaaDoorSm
import Derived.Laws.MakeOwn
namespace Go.Proofs.YtapojgbiboeaiaaDoor
set_option linter.unusedVariables false
set_option linter.unusedSimpArgs false
open Go.RowKit Rng
/-- n cells, each saying whether f holds of its number. -/
def marks (n : Nat) (f : Nat → Bool) : Array Value := ((List.range n).map fun i => Value.bool (f i)).toArray
theorem marks_size (n : Nat) (f : Nat → Bool) : (marks n f).size = n := by simp [marks]
theorem marks_get (n : Nat) (f : Nat → Bool) (i : Nat) (h : i < n) : (marks n f)[i]? = some (.bool (f i)) := by simp [marks, h]
theorem marks_set (n : Nat) (f : Nat → Bool) (i : Nat) (h : i < n) (b : Bool) : (marks n f).setIfInBounds i (.bool b) = marks n (fun j => if j = i then b else f j) := by
  apply Array.ext
  · simp [marks]
  · intro j h1 h2
    simp only [marks, List.size_toArray, List.length_map, List.length_range, Array.size_setIfInBounds] at h1 h2
    by_cases e : i = j
    · subst e; simp [marks, Array.getElem_setIfInBounds]
    · simp [marks, Array.getElem_setIfInBounds, e, Ne.symm e, show ¬ j = i from fun x => e x.symm]
theorem marks_none (n : Nat) : madeCells #[.bool false] n = marks n fun _ => false := by
  apply Array.ext
  · simp [madeCells, marks]
  · intro j h1 h2
    have e : ∀ k : Nat, (#[Value.bool false])[k % 1]! = Value.bool false := fun k => by rw [Nat.mod_one]; rfl
    simp only [madeCells, marks, Array.getElem_map, List.getElem_toArray, List.getElem_map]
    exact e _
theorem info_bool : ∃ i, Tryd.prog.info? 4 = some i ∧ i.zero = some (.bool false) ∧ i.size = 1 ∧ i.bytes = 1 := by
  have e1 : (Tryd.prog.info? 4).bind (·.zero) = some (.bool false) := by kernel_rfl
  have e2 : (Tryd.prog.info? 4).map (·.size) = some 1 := by kernel_rfl
  have e3 : (Tryd.prog.info? 4).map (·.bytes) = some 1 := by kernel_rfl
  cases h : Tryd.prog.info? 4 with
  | none => rw [h] at e2; cases e2
  | some i =>
    rw [h] at e1 e2 e3
    simp only [Option.bind_some, Option.map_some, Option.some.injEq] at e1 e2 e3
    exact ⟨i, rfl, e1, e2, e3⟩
theorem make_bools (w : World) : (Instr.makeSlice 55 (.int .i64 65536) (.int .i64 65536)).run Tryd.prog w = .ok (.slice (some ⟨w.heap.size, 0, none⟩) 65536 65536) (w.alloc (.cells (marks 65536 fun _ => false) 4)) := by
  obtain ⟨i, hi, hz, hs, hb⟩ := info_bool
  have h := run_make (P := Tryd.prog) w 55 4 i (.bool false) Tryd.underlying55 hi hz .i64 .i64 65536 65536 (by omega) (Int.le_refl _) (by rw [hb]; omega) (by omega)
  rw [h, hs]
  have e : ((65536 : Int).toNat * 1) = 65536 := rfl
  rw [e, ← marks_none]
  rfl
/-- Is line i in one of the ranges? -/
def mem (l : List (Int × Int)) (i : Nat) : Bool := l.any fun r => decide (r.1 ≤ i) && decide ((i : Int) < r.2)
theorem mem_take_succ {l : List (Int × Int)} {k : Nat} {r : Int × Int} (hr : l[k]? = some r) (i : Nat) : mem (l.take (k + 1)) i = (mem (l.take k) i || (decide (r.1 ≤ i) && decide ((i : Int) < r.2))) := by
  unfold mem
  rw [List.take_add_one, hr, List.any_append]
  simp
theorem okFrom_get : ∀ {l : List (Int × Int)} {last : Int} {k : Nat} {r : Int × Int}, okFrom last l = true → l[k]? = some r → last < r.1 ∧ r.1 < r.2 ∧ r.2 ≤ 65536
  | [], last, k, r, _, hr => by simp at hr
  | q :: l, last, 0, r, h, hr => by
    simp only [List.getElem?_cons_zero, Option.some.injEq] at hr
    subst hr
    simp only [okFrom_cons, Bool.and_eq_true, Bool.not_eq_true', Bool.or_eq_false_iff, decide_eq_false_iff_not] at h
    omega
  | q :: l, last, k + 1, r, h, hr => by
    simp only [List.getElem?_cons_succ] at hr
    simp only [okFrom_cons, Bool.and_eq_true, Bool.not_eq_true', Bool.or_eq_false_iff, decide_eq_false_iff_not] at h
    have := okFrom_get h.2 hr
    omega
theorem marks_congr {n : Nat} {f g : Nat → Bool} (h : ∀ i, i < n → f i = g i) : marks n f = marks n g := by
  apply Array.ext
  · simp [marks]
  · intro i h1 h2
    simp only [marks, List.size_toArray, List.length_map, List.length_range] at h1
    simp [marks, h i h1]
set_option maxRecDepth 100000 in
set_option maxHeartbeats 1000000 in
theorem lines_fit {B : Nat} {v : Value} {l : List (Int × Int)} {w : World} (h : Rd B w v l) (hB : B ≤ w.heap.size) (hok : ∀ r ∈ l, 0 ≤ r.1 ∧ r.1 < r.2 ∧ r.2 ≤ 65536) :
    Calls Tryd.prog 25 #[v] w fun e w' => ∃ b, e = .returned (.slice (some ⟨b, 0, none⟩) 65536 65536) ∧ w.heap.size ≤ b ∧ w'.heap[b]? = some (.cells (marks 65536 (mem l)) 4 (0, 0)) ∧ Below w.heap.size w w' := by
  obtain ⟨ao, cap, rfl, h1, h2, h3⟩ := h
  have H3 := Lib.hid h3
  have HOK := Lib.hid hok
  clear h3 hok
  go_enter Tryd.func25, Tryd.ntmps25
  have hmk := make_bools w
  obtain ⟨N, hN⟩ : ∃ N : Nat, 65536 = N := ⟨_, rfl⟩
  rw [hN] at hmk ⊢
  go_wp2
  obtain ⟨W1, hW1⟩ : ∃ W1, w.alloc (.cells (marks N fun _ => false) 4) = W1 := ⟨_, rfl⟩
  have hb1 : W1.heap[w.heap.size]? = some (.cells (marks N fun _ => false) 4 (0, 0)) := by rw [← hW1]; exact World.alloc_heap_new w _
  have hB1 : Below w.heap.size w W1 := by rw [← hW1]; exact (Below.refl _ w).alloc (Nat.le_refl _) _
  clear hmk
  obtain ⟨g, hg⟩ : ∃ g, w.heap.size = g := ⟨_, rfl⟩
  change Code.wp _ _ _ _ (w.alloc (.cells (marks N fun _ => false) 4))
  rw [hW1]
  rw [hg] at hb1 hB1 hB ⊢
  clear hW1
  go_loopw [4] (fun i wr => ∃ k : Nat, k ≤ l.length ∧ i = .int .i64 k ∧ wr.heap[g]? = some (.cells (marks N (mem (l.take k))) 4 (0, 0)) ∧ Below g w wr) (fun i _ => l.length - (intOf i).toNat)
  case atStart => exact ⟨0, by omega, rfl, by rw [hb1]; rfl, hB1⟩
  case round =>
    obtain ⟨k, hk, rfl, hbr, hBr⟩ := hrel
    clear hb1 hB1
    by_cases hlt : k < l.length
    · obtain ⟨r, hr⟩ : ∃ r, l[k]? = some r := ⟨_, List.getElem?_eq_getElem hlt⟩
      obtain ⟨b, o, rfl, hb, c1, c2⟩ := H3.out k r hr
      have c1' := (World.cell?_of_block (hBr.block b (Nat.lt_of_lt_of_le hb hB))).trans c1
      have hlt' : (k : Int) < l.length := by omega
      have hrng := HOK.out r (List.mem_of_getElem? hr)
      obtain ⟨n0, hn0⟩ : ∃ n : Nat, r.1 = n := ⟨r.1.toNat, by omega⟩
      have HM := Lib.hid (mem_take_succ hr)
      have hw := wrap_succ hlt h1 h2
      have HW := Lib.hid hw
      have HK := Lib.hid hlt
      have HR := Lib.hid hrng
      have HN := Lib.hid hn0
      have HB := Lib.hid hbr
      clear hr hlt hrng hw hn0 hbr
      rw [show r.1 = (n0 : Int) from HN.out] at c1'
      go_wp2
      go_loopw [5] (fun v wi => ∃ n : Nat, v = .int .i64 n ∧ n0 ≤ n ∧ (n : Int) ≤ r.2 ∧ wi.heap[g]? = some (.cells (marks N (fun i => mem (l.take k) i || (decide (n0 ≤ i) && decide (i < n)))) 4 (0, 0)) ∧ Below g w wi) (fun v _ => r.2.toNat - (intOf v).toNat)
      case atStart =>
        have := HR.out
        have e := HN.out
        refine ⟨n0, rfl, Nat.le_refl _, by omega, ?_, hBr⟩
        rw [HB.out]
        congr 2
        refine marks_congr fun i _ => ?_
        have : (decide (n0 ≤ i) && decide (i < n0)) = false := by
          simp only [Bool.and_eq_false_iff, decide_eq_false_iff_not]; omega
        rw [this, Bool.or_false]
      case round =>
        obtain ⟨n, rfl, hn0, hn2, hbi, hBi⟩ := hrel
        clear c1'
        have c2' := (World.cell?_of_block (hBi.block b (Nat.lt_of_lt_of_le hb hB))).trans c2
        have HBI := Lib.hid hbi
        have hrng := HR.out
        by_cases hlt : (n : Int) < r.2
        · have hn3 : (n : Int) < N := by omega
          have hcell := (cell_of hbi n).trans (marks_get _ _ n (by omega))
          have hfz := frozen_of_row _ g n _ _ hbi
          have HLT := Lib.hid hlt
          have HN0 := Lib.hid hn0
          clear hbi hrng hn0 hn2
          go_wp2
          have hlt := HLT.out
          have hn0 := HN0.out
          refine ⟨⟨n + 1, by push_cast; rfl, by omega, by push_cast; omega, ?_, hBi.setCell (Nat.le_refl _) _⟩, ?_⟩
          · rw [heap_setCell_same _ _ _ _ _ _ HBI.out, marks_set _ _ _ (by omega)]
            congr 2
            refine marks_congr fun i hi => ?_
            by_cases e : i = n
            · subst e
              simp [hn0]
            · have : (decide (i < n + 1)) = decide (i < n) := by
                by_cases h : i < n
                · rw [decide_eq_true h, decide_eq_true (by omega)]
                · rw [decide_eq_false h, decide_eq_false (by omega)]
              rw [if_neg e, this]
          · simp only [intOf]; omega
        · have HEQ := Lib.hid (show (n : Int) = r.2 by omega)
          clear hbi hrng
          go_wp2
          have hlt := HK.out
          go_roundw
          case rel =>
            refine ⟨k + 1, hlt, by rw [HW.out], ?_, hBi⟩
            rw [HBI.out]
            congr 2
            refine marks_congr fun i hi => ?_
            have e1 := HEQ.out
            have e2 := HN.out
            rw [HM.out i]
            congr 2
            · rw [decide_eq_decide]; omega
            · rw [decide_eq_decide]; omega
          case measure => rw [HW.out]; simp only [intOf]; omega
    · have hlt' : ¬ (k : Int) < l.length := by omega
      have HE := Lib.hid (show wr.heap[g]? = some (.cells (marks N (mem l)) 4 (0, 0)) by rw [hbr, List.take_of_length_le (by omega)])
      clear hbr
      go_wp2
      go_ret
      exact ⟨g, rfl, Nat.le_refl _, HE.out, hBr⟩
theorem lines_calls {B : Nat} {v : Value} {l : List (Int × Int)} {w : World} (h : Rd B w v l) (hB : B ≤ w.heap.size) (hok : okR l = true) :
    Calls Tryd.prog 25 #[v] w fun e w' => ∃ b, e = .returned (.slice (some ⟨b, 0, none⟩) 65536 65536) ∧ w.heap.size ≤ b ∧ w'.heap[b]? = some (.cells (marks 65536 (mem l)) 4 (0, 0)) ∧ Below w.heap.size w w' :=
  lines_fit h hB fun r hr => by
    obtain ⟨i, hi, e⟩ := List.getElem_of_mem hr
    have := okFrom_get (show okFrom (-1) l = true from hok) (List.getElem?_eq_some_iff.2 ⟨hi, e⟩)
    omega
end Go.Proofs.YtapojgbiboeaiaaDoor
