/- slices.SortFunc on the call's own ranges: the same ranges, sorted by where they begin, then where they end. Condition: at least one range. -/
import Derived.Test.YtapojgbiboeaiaaGreatDoorCp
import Derived.Test.YtapojgbiboeaiaaGreatDoorCl
import Derived.Test.YtapojgbiboeaiaaGreatDoorLayS
namespace Go.Proofs.YtapojgbiboeaiaaGreatDoor
set_option linter.unusedVariables false
set_option linter.unusedSimpArgs false
open Go.RowKit Go.Shelf Go.Sort Rng
abbrev encR (x : Int × Int) : List Value := [.int .i64 x.1, .int .i64 x.2]
theorem flat_get (d : Array (Int × Int)) (j : Nat) (hj : j < d.size * 2) : (rcells d.toList)[j]? = some ((flatK encR 2 d)[j]!) := by
  rw [get_flatK _ _ _ _ hj]
  have hd : j / 2 < d.size := by omega
  have g := rcells_get d.toList (j / 2) d[j / 2]! (by rw [Array.getElem?_toList, getElem!_pos d (j / 2) hd]; exact Array.getElem?_eq_getElem hd)
  by_cases e : j % 2 = 0
  · have ej : j / 2 * 2 = j := by omega
    rw [ej] at g
    rw [g.1, e]
    rfl
  · have ej : j / 2 * 2 + 1 = j := by omega
    have e1 : j % 2 = 1 := by omega
    rw [ej] at g
    rw [g.2, e1]
    rfl
theorem own_holds {w : World} {base g n cap : Nat} {l : List (Int × Int)} (hn : n = l.length) (h : Own w base (.slice (some ⟨g, 0, none⟩) n cap) l) : HoldsK encR 2 w g 0 l.toArray := by
  subst hn
  intro j hj
  have hj' : j < l.length * 2 := by simpa using hj
  rw [Nat.zero_add]
  refine ⟨?_, h.frozenAt j⟩
  rw [h.cellAt j hj', show l = l.toArray.toList from rfl, flat_get l.toArray j (by simpa using hj')]
  rfl
theorem sorted_own {w : World} {base g n cap m : Nat} {l : List (Int × Int)} {d : Array (Int × Int)} {os : Array Obj} (hn : n = l.length) (hd : d.size = l.length) (h : Own w base (.slice (some ⟨g, 0, none⟩) n cap) l) :
    Own (sortWorldK encR 2 w g 0 m d os) base (.slice (some ⟨g, 0, none⟩) n cap) d.toList ∧ Go.RowKit.Below base w (sortWorldK encR 2 w g 0 m d os) := by
  subst hn
  obtain ⟨hx, ⟨h0, _⟩ | ⟨g', cap', cur, he, hb, hc, hnc, hm, hcs, htk⟩⟩ := h
  · cases h0
  · cases he
    have hg := (Array.getElem?_eq_some_iff.1 hc).1
    have hF : (flatK encR 2 d).size = l.length * 2 := by rw [size_flatK, hd]
    refine ⟨⟨by rw [rcells_length], .inr ⟨g, cap, putCells id 0 (flatK encR 2 d) cur, by simp [hd], hb, ?_, by simpa [hd] using hnc, hm, by simpa [putCells] using hcs, ?_⟩⟩, ?_⟩
    · unfold sortWorldK putRowK putRow mapBlock grow Sort.ahead
      simp only
      rw [Array.getElem?_append_left (by simpa using hg), Array.getElem?_modify, if_pos rfl, hc]
      rfl
    · apply List.ext_getElem?
      intro j
      by_cases hj : j < l.length * 2
      · rw [List.getElem?_take, if_pos (by simpa [hd] using hj), flat_get d j (by rw [hd]; exact hj)]
        have hjc : j < cur.size := by
          have := Nat.mul_le_mul_right 2 hnc
          omega
        simp [putCells, hjc, hF, hj]
      · rw [List.getElem?_eq_none (by simp [hd]; omega), List.getElem?_eq_none (by rw [rcells_length]; simp [hd]; omega)]
    · refine ⟨rfl, rfl, rfl, ?_, fun k hk => ?_⟩
      · unfold sortWorldK putRowK putRow mapBlock grow Sort.ahead
        simp
      · unfold sortWorldK putRowK putRow mapBlock grow Sort.ahead
        simp only
        rw [Array.getElem?_append_left (by simp; omega), Array.getElem?_modify, if_neg (by omega)]
theorem cmpR_lt (x y : Int × Int) : ltOf cmpR x y = decide (x.1 < y.1 ∨ x.1 = y.1 ∧ x.2 < y.2) := by
  unfold ltOf cmpR Lib.compareInt
  by_cases h1 : x.1 < y.1
  · simp [h1]
  · by_cases h2 : y.1 < x.1
    · have : ¬ x.1 = y.1 := by omega
      simp [h1, h2, this]
    · have e : x.1 = y.1 := by omega
      by_cases h3 : x.2 < y.2
      · simp [e, h3]
      · by_cases h4 : y.2 < x.2
        · simp [e, h3, h4]
        · simp [e, h3, h4]
theorem swo_rg : SWO (ltOf cmpR) where
  irrefl x := by rw [cmpR_lt]; simp
  trans x y z h1 h2 := by rw [cmpR_lt] at *; simp at *; omega
  ntrans x y z h1 h2 := by rw [cmpR_lt] at *; simp at *; omega
/-- They rise: each begins where the one before begins, or later. -/
def Rises (l : List (Int × Int)) : Prop := ∀ (i j : Nat) (p q : Int × Int), i < j → l[i]? = some p → l[j]? = some q → p.1 ≤ q.1
set_option maxRecDepth 100000 in
theorem sort_calls {w : World} {base g n cap : Nat} {l : List (Int × Int)} (hn : n = l.length) (h : Own w base (.slice (some ⟨g, 0, none⟩) n cap) l) (hlen : l.length ≤ 65536) :
    Calls Tryz.prog 30 #[.slice (some ⟨g, 0, none⟩) n cap, .func (.func 31) #[] #[]] w fun e w' => e = .returned (.tuple #[]) ∧ ∃ m, m.Perm l ∧ Rises m ∧ Own w' base (.slice (some ⟨g, 0, none⟩) n cap) m ∧ Go.RowKit.Below base w w' := by
  have eg : ∀ args w, (callFunc 31 args).run Tryz.prog w = .ok (.enter 31 args) w := enters_of Tryz.func31 (by kernel_rfl) rfl
  have hg : g < w.heap.size := by
    obtain ⟨_, ⟨h0, _⟩ | ⟨g', cap', cur, he, hb, hc, _⟩⟩ := h
    · cases h0
    · cases he; exact (Array.getElem?_eq_some_iff.1 hc).1
  have hcon := AnyQ.slices_SortFunc Tryz.sortRg 2 Tryz.isAgg28 Tryz.sizeOf28 encR (fun _ => rfl) (fun x v hv => by simp [encR] at hv; rcases hv with rfl | rfl <;> rfl) cmpR swo_rg 31 #[] g 0 cap l.toArray w eg
    (fun m os dk _ x y => cmp_calls x y _) (own_holds hn h) hg (by simp; omega)
  change Calls Tryz.prog 30 _ _ _ at hcon
  have e : l.toArray.size = n := by simp [hn]
  rw [e] at hcon
  refine hcon.mono fun e w' ⟨he, d', m, os, hp, hs, hw⟩ => ⟨he, d'.toList, ?_, ?_, ?_⟩
  · have h3 := hp.2.2
    have e1 : d'.extract 0 n = d' := by rw [show n = d'.size by rw [hp.1]; simp [hn]]; simp
    have e2 : l.toArray.extract 0 n = l.toArray := by rw [show n = l.toArray.size by simp [hn]]; simp
    rw [e1, e2] at h3
    simpa using h3
  · intro i j p q hij hi hj
    have hjd : j < d'.size := by have := (List.getElem?_eq_some_iff.1 hj).1; simpa using this
    have hds : d'.size = n := by rw [hp.1]; simp [hn]
    have h4 := hs i j (Nat.zero_le _) hij (by omega)
    rw [getElem!_pos d' i (by omega), getElem!_pos d' j hjd, cmpR_lt] at h4
    rw [Array.getElem?_toList, Array.getElem?_eq_getElem (by omega)] at hi
    rw [Array.getElem?_toList, Array.getElem?_eq_getElem hjd] at hj
    rw [Option.some.inj hi, Option.some.inj hj] at h4
    simp only [decide_eq_false_iff_not] at h4
    omega
  · subst hw
    have := sorted_own (m := m) (os := os) hn (show d'.size = l.length by rw [hp.1]; simp) h
    exact this
end Go.Proofs.YtapojgbiboeaiaaGreatDoor
