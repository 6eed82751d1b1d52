/- The arguments opened: slices of ranges and of numbers that read as data are readable slices. Conditions: the reading is a row's. -/
import Derived.Test.YtapojgbiboeaiaaGreatDoorLc
import Derived.WalkKit
import Derived.ProofKit
import Derived.OpenShut
import Derived.ChangeOld
import Derived.Below
import Derived.SizedLaws
import Derived.Deep.Slices
import Derived.Deep.Fields
import Derived.ChangeSame
namespace Go.Proofs.YtapojgbiboeaiaaGreatDoor
open Go.ChangeShapes Go.WideShapes Go.ChangeAt Go.RowKit Go.Deep
set_option linter.unusedVariables false
set_option linter.unusedSimpArgs false
theorem own : ownKnob Tryz.prog.godebug = none := by kernel_rfl
theorem laidOut : laidOutB Tryz.prog = true := by kernel_rfl
section
variable {H : Type} {enc : TypeId × Value → H} {P : Program} {w : World} {base : Nat} {spare : Nat → Bool} {held : Bool}
theorem open_slice_fields {t e : TypeId} {fs : Array Field} {fuel : Nat} {cs : List Value} {x : DataW H × List MemPlace} (ht : P.underlying t = some (.slice e)) (he : P.underlying e = some (.struct fs))
    (hone : oneCellFields P fs = true) (hC : P.cellsOf e = fs.size) (h : DataW.trod enc P w base spare held fuel t cs = some x) :
    (cs = [.slice none 0 0] ∧ x = (.nil, [])) ∨
    ∃ (a : Addr) (len cap m : Nat) (D : Nat → DataW H) (Pl : Nat → List MemPlace), cs = [.slice (some a) len cap] ∧ base ≤ a.block ∧ len ≤ cap ∧ cap ≤ maxLen ∧ m = (if spare a.block then cap else len) ∧
      x = (.slice ((List.range len).map D) ((List.range (m - len)).map fun j => D (len + j)), MemPlace.row a (m * fs.size) ++ (List.range m).flatMap Pl) ∧
      ∀ i, i < m → ∃ (ys : List (DataW H × List MemPlace)) (n : Nat), D i = .agg (ys.map (·.1)) ∧ Pl i = ys.flatMap (·.2) ∧ ys.length = fs.size ∧
        ∀ (j : Nat) (f : Field), fs[j]? = some f → ∃ (v : Value) (y : DataW H × List MemPlace), w.cell? (a.add (i * fs.size + j)) = some v ∧ ys[j]? = some y ∧ DataW.trod enc P w base spare held n f.type [v] = some y := by
  rcases open_slice ht h with h0 | ⟨a, len, cap, m, n, D, Pl, hcs, hb, hl, hm, hmm, hx, hi⟩
  · exact .inl h0
  · refine .inr ⟨a, len, cap, m, D, Pl, hcs, hb, hl, hm, hmm, by rw [hC] at hx; exact hx, fun i him => ?_⟩
    obtain ⟨cs', hc, ht'⟩ := hi i him
    rw [hC] at hc
    obtain ⟨ys, n', hn', hy, hlen, hyl, hf⟩ := DataW.trod_struct he ht'
    obtain ⟨_, hcl, hat⟩ := World.cells?_some hc
    simp only [Prod.mk.injEq] at hy
    refine ⟨ys, n', hy.1, hy.2, hyl, fun j f hj => ?_⟩
    obtain ⟨ho, hk⟩ := hone_of hone j f hj
    have hjl : j < fs.size := (Array.getElem?_eq_some_iff.1 hj).1
    have hcell := hat j hjl
    have hv : cs'[j]? = some (cs'[j]'(by omega)) := List.getElem?_eq_getElem (by omega)
    have h1 := hf j f hj
    rw [ho, hk] at h1
    have hone' : (cs'.drop j).take 1 = [cs'[j]'(by omega)] := by
      rw [List.drop_eq_getElem_cons (by omega)]
      rfl
    rw [hone'] at h1
    have hys : ys[j]? = some (ys[j]'(by omega)) := List.getElem?_eq_getElem (by omega)
    refine ⟨_, _, ?_, hys, h1.trans hys⟩
    rw [← Go.Deep.add_add, hcell, hv]
end
def rdv (w : World) (a : Addr) (j : Nat) : Int := match w.cell? (a.add j) with | some (.int _ z) => z | _ => 0
section
variable {H : Type} {enc : TypeId × Value → H} {w : World} {base : Nat} {sp : Nat → Bool} {held : Bool}
theorem rg_type : ∃ fs : Array Field, Tryz.prog.underlying 28 = some (.struct fs) ∧ oneCellFields Tryz.prog fs = true ∧ fs.size = 2 ∧ (fs[0]?.map (·.type)) = some 3 ∧ (fs[1]?.map (·.type)) = some 3 :=
  ⟨_, Tryz.underlying28, by kernel_rfl, by kernel_rfl, by kernel_rfl, by kernel_rfl⟩
theorem rg_cells : Tryz.prog.cellsOf 28 = 2 := by kernel_rfl
theorem int_cells : Tryz.prog.cellsOf 3 = 1 := by kernel_rfl
/-- A slice of ranges that reads as a datum. -/
theorem open_rd {v : Value} {d : DataW H} {p : List MemPlace} (hs : ∃ a len cap, v = .slice a len cap) (h : DataW.Trod enc Tryz.prog w base sp held 22 v d p) : ∃ l, RIn w v l := by
  obtain ⟨ao, len0, cap0, rfl⟩ := hs
  obtain ⟨fuel, hf⟩ := h
  obtain ⟨fs, hu, hone, hsz, ht0, ht1⟩ := rg_type
  rcases open_slice_fields Tryz.underlying22 hu hone (by rw [rg_cells, hsz]) hf with ⟨hcs, _⟩ | ⟨a, len, cap, m, D, Pl, hcs, _, hl, hm, hmm, _, hi⟩
  · simp only [Value.cells, List.cons.injEq, Value.slice.injEq, and_true] at hcs
    obtain ⟨rfl, rfl, rfl⟩ := hcs
    exact ⟨[], none, 0, rfl, Nat.le_refl _, by unfold maxLen; omega, fun i r hr => by simp at hr⟩
  · simp only [Value.cells, List.cons.injEq, Value.slice.injEq, and_true] at hcs
    obtain ⟨rfl, rfl, rfl⟩ := hcs
    have hlm : len0 ≤ m := by rw [hmm]; split <;> omega
    have num : ∀ i, i < len0 → w.cell? (a.add (i * 2)) = some (.int .i64 (rdv w a (i * 2))) ∧ w.cell? (a.add (i * 2 + 1)) = some (.int .i64 (rdv w a (i * 2 + 1))) := by
      intro i hil
      obtain ⟨ys, n, _, _, _, hf⟩ := hi i (by omega)
      rw [hsz] at hf
      obtain ⟨f0, e0, et0⟩ := Option.map_eq_some_iff.1 ht0
      obtain ⟨f1, e1, et1⟩ := Option.map_eq_some_iff.1 ht1
      obtain ⟨v0, y0, c0, _, t0⟩ := hf 0 f0 e0
      obtain ⟨v1, y1, c1, _, t1⟩ := hf 1 f1 e1
      rw [et0] at t0
      rw [et1] at t1
      obtain ⟨z0, hz0, _, _⟩ := DataW.trod_int Tryz.underlying3 t0
      obtain ⟨z1, hz1, _, _⟩ := DataW.trod_int Tryz.underlying3 t1
      simp only [List.cons.injEq, and_true] at hz0 hz1
      subst hz0 hz1
      rw [Nat.add_zero] at c0
      exact ⟨by unfold rdv; rw [c0], by unfold rdv; rw [c1]⟩
    refine ⟨(List.range len0).map fun i => (rdv w a (i * 2), rdv w a (i * 2 + 1)), some a, cap0, by simp, by simpa using hl, hm, fun i r hr => ?_⟩
    have hil : i < len0 := by
      have := (List.getElem?_eq_some_iff.1 hr).1
      simpa using this
    have hr' : r = (rdv w a (i * 2), rdv w a (i * 2 + 1)) := by
      rw [List.getElem?_map, List.getElem?_range hil] at hr
      simpa using hr.symm
    subst hr'
    have h0 := (num 0 (by omega)).1
    have hspot : a.spot = none := by
      rw [Nat.zero_mul] at h0
      exact World.cell?_spot (by simpa [Addr.add] using h0)
    obtain ⟨b, o, sp'⟩ := a
    simp only at hspot
    subst hspot
    have hi' := num i hil
    rw [Addr.add_lit, Addr.add_lit] at hi'
    exact ⟨b, o, rfl, World.block_lt_of_cell? _ _ hi'.1, hi'.1, by rw [← Nat.add_assoc] at hi'; exact hi'.2⟩
/-- A slice of numbers that reads as a datum. -/
theorem open_rn {v : Value} {d : DataW H} {p : List MemPlace} (hs : ∃ a len cap, v = .slice a len cap) (h : DataW.Trod enc Tryz.prog w base sp held 33 v d p) : ∃ l, NIn w v l ∧ ∀ z ∈ l, In64 z := by
  obtain ⟨ao, len0, cap0, rfl⟩ := hs
  obtain ⟨fuel, hf⟩ := h
  rcases open_ints Tryz.underlying33 Tryz.underlying3 int_cells hf with ⟨hcs, _⟩ | ⟨a, len, cap, zs, hcs, _, hl, hm, hzl, _, hc, hw⟩
  · simp only [Value.cells, List.cons.injEq, Value.slice.injEq, and_true] at hcs
    obtain ⟨rfl, rfl, rfl⟩ := hcs
    exact ⟨[], ⟨none, 0, rfl, Nat.le_refl _, by unfold maxLen; omega, fun i r hr => by simp at hr⟩, fun z hz => by cases hz⟩
  · simp only [Value.cells, List.cons.injEq, Value.slice.injEq, and_true] at hcs
    obtain ⟨rfl, rfl, rfl⟩ := hcs
    have hlz : len0 ≤ zs.length := by rw [hzl]; split <;> omega
    have htl : (zs.take len0).length = len0 := by simp; omega
    refine ⟨zs.take len0, ⟨some a, cap0, by rw [htl], by rw [htl]; exact hl, hm, fun i z hz => ?_⟩, fun z hz => ?_⟩
    · have hil : i < len0 := by
        have := (List.getElem?_eq_some_iff.1 hz).1
        rwa [htl] at this
      have h0 := hc 0 (by omega)
      have hspot : a.spot = none := World.cell?_spot (by simpa [Addr.add] using h0)
      obtain ⟨b, o, sp'⟩ := a
      simp only at hspot
      subst hspot
      have hi' := hc i (by omega)
      rw [Addr.add_lit] at hi'
      rw [List.getElem?_take, if_pos hil] at hz
      have hg : zs.getD i 0 = z := by simp [List.getD, hz]
      rw [hg] at hi'
      exact ⟨b, o, rfl, World.block_lt_of_cell? _ _ hi', hi'⟩
    · have := hw z (List.mem_of_mem_take hz)
      have hw' : (decide (-9223372036854775808 ≤ z) && decide (z ≤ 9223372036854775807)) = true := this
      simp only [Bool.and_eq_true, decide_eq_true_eq] at hw'
      exact hw'
end
end Go.Proofs.YtapojgbiboeaiaaGreatDoor
