/- The arguments opened: a slice of files that reads as a datum is a readable slice, and the datum's bulk bounds its bytes. Conditions: the reading is a row's. -/
import Derived.Test.YtifbjccioklaoaaDoorRows
import Derived.Test.YtifbjccioklaoaaDoorGr
import Derived.WalkKit
import Derived.ProofKit
import Derived.OpenShut
import Derived.ChangeOld
import Derived.Below
import Derived.SizedLaws
import Derived.Deep.Slices
import Derived.Deep.Fields
import Derived.ChangeSame
namespace Go.Proofs.YtifbjccioklaoaaDoor
open Go.ChangeShapes Go.WideShapes Go.ChangeAt Go.RowKit Go.Deep
set_option linter.unusedVariables false
set_option linter.unusedSimpArgs false
theorem own : ownKnob Tryd.prog.godebug = none := by kernel_rfl
theorem laidOut : laidOutB Tryd.prog = true := by kernel_rfl
section
variable {H : Type} {enc : TypeId × Value → H} {P : Program} {w : World} {base : Nat} {spare : Nat → Bool} {held : Bool}
theorem open_slice_fields {t e : TypeId} {fs : Array Field} {fuel : Nat} {cs : List Value} {x : DataW H × List MemPlace} (ht : P.underlying t = some (.slice e)) (he : P.underlying e = some (.struct fs))
    (hone : oneCellFields P fs = true) (hC : P.cellsOf e = fs.size) (h : DataW.trod enc P w base spare held fuel t cs = some x) :
    (cs = [.slice none 0 0] ∧ x = (.nil, [])) ∨
    ∃ (a : Addr) (len cap m : Nat) (D : Nat → DataW H) (Pl : Nat → List MemPlace), cs = [.slice (some a) len cap] ∧ base ≤ a.block ∧ len ≤ cap ∧ cap ≤ maxLen ∧ m = (if spare a.block then cap else len) ∧
      x = (.slice ((List.range len).map D) ((List.range (m - len)).map fun j => D (len + j)), MemPlace.row a (m * fs.size) ++ (List.range m).flatMap Pl) ∧
      ∀ i, i < m → ∃ (ys : List (DataW H × List MemPlace)) (n : Nat), D i = .agg (ys.map (·.1)) ∧ Pl i = ys.flatMap (·.2) ∧ ys.length = fs.size ∧
        ∀ (j : Nat) (f : Field), fs[j]? = some f → ∃ (v : Value) (y : DataW H × List MemPlace), w.cell? (a.add (i * fs.size + j)) = some v ∧ ys[j]? = some y ∧ DataW.trod enc P w base spare held n f.type [v] = some y := by
  rcases open_slice ht h with h0 | ⟨a, len, cap, m, n, D, Pl, hcs, hb, hl, hm, hmm, hx, hi⟩
  · exact .inl h0
  · refine .inr ⟨a, len, cap, m, D, Pl, hcs, hb, hl, hm, hmm, by rw [hC] at hx; exact hx, fun i him => ?_⟩
    obtain ⟨cs', hc, ht'⟩ := hi i him
    rw [hC] at hc
    obtain ⟨ys, n', hn', hy, hlen, hyl, hf⟩ := DataW.trod_struct he ht'
    obtain ⟨_, hcl, hat⟩ := World.cells?_some hc
    simp only [Prod.mk.injEq] at hy
    refine ⟨ys, n', hy.1, hy.2, hyl, fun j f hj => ?_⟩
    obtain ⟨ho, hk⟩ := hone_of hone j f hj
    have hjl : j < fs.size := (Array.getElem?_eq_some_iff.1 hj).1
    have hcell := hat j hjl
    have hv : cs'[j]? = some (cs'[j]'(by omega)) := List.getElem?_eq_getElem (by omega)
    have h1 := hf j f hj
    rw [ho, hk] at h1
    have hone' : (cs'.drop j).take 1 = [cs'[j]'(by omega)] := by
      rw [List.drop_eq_getElem_cons (by omega)]
      rfl
    rw [hone'] at h1
    have hys : ys[j]? = some (ys[j]'(by omega)) := List.getElem?_eq_getElem (by omega)
    refine ⟨_, _, ?_, hys, h1.trans hys⟩
    rw [← Go.Deep.add_add, hcell, hv]
end
def rds (w : World) (a : Addr) (j : Nat) : ByteArray := match w.cell? (a.add j) with | some (.string s) => s | _ => ByteArray.empty
section
variable {H : Type} {enc : TypeId × Value → H} {w : World} {base : Nat} {sp : Nat → Bool} {held : Bool}
theorem fl_type : ∃ fs : Array Field, Tryd.prog.underlying 34 = some (.struct fs) ∧ oneCellFields Tryd.prog fs = true ∧ fs.size = 2 ∧ (fs[0]?.map (·.type)) = some 9 ∧ (fs[1]?.map (·.type)) = some 9 :=
  ⟨_, Tryd.underlying34, by kernel_rfl, by kernel_rfl, by kernel_rfl, by kernel_rfl⟩
theorem fl_cells : Tryd.prog.cellsOf 34 = 2 := by kernel_rfl

theorem bulk_range {D : Nat → DataW H} {F : Nat → Nat} : ∀ n : Nat, (∀ i, i < n → F i ≤ 7 * Rows.uptoBulk (D i)) → ((List.range n).map F).sum ≤ 7 * Rows.uptoBulkAll ((List.range n).map D)
  | 0, _ => by simp
  | n + 1, h => by
    have ih := bulk_range (D := D) (F := F) n (fun i hi => h i (by omega))
    have h1 := h n (by omega)
    have app : ∀ (l : List (DataW H)) (r : List (DataW H)), Rows.uptoBulkAll (l ++ r) = Rows.uptoBulkAll l + Rows.uptoBulkAll r := by
      intro l r
      induction l with
      | nil => simp [Rows.uptoBulkAll]
      | cons x l ih => simp only [List.cons_append, Rows.uptoBulkAll, ih]; omega
    rw [List.range_succ, List.map_append, List.map_append, List.sum_append, app]
    simp only [List.map_cons, List.map_nil, List.sum_cons, List.sum_nil, Rows.uptoBulkAll]
    omega
theorem open_rf {v : Value} {d : DataW H} {p : List MemPlace} (hs : ∃ a len cap, v = .slice a len cap) (h : DataW.Trod enc Tryd.prog w base sp held 22 v d p) : ∃ l, FIn w v l ∧ sumF l ≤ 7 * Rows.uptoBulk d := by
  obtain ⟨ao, len0, cap0, rfl⟩ := hs
  obtain ⟨fuel, hf⟩ := h
  obtain ⟨fs, hu, hone, hsz, ht0, ht1⟩ := fl_type
  rcases open_slice_fields Tryd.underlying22 hu hone (by rw [fl_cells, hsz]) hf with ⟨hcs, _⟩ | ⟨a, len, cap, m, D, Pl, hcs, _, hl, hm, hmm, hx, hi⟩
  · simp only [Value.cells, List.cons.injEq, Value.slice.injEq, and_true] at hcs
    obtain ⟨rfl, rfl, rfl⟩ := hcs
    exact ⟨[], ⟨none, 0, rfl, Nat.le_refl _, by unfold maxLen; omega, fun i r hr => by simp at hr⟩, by simp [sumF]⟩
  · simp only [Value.cells, List.cons.injEq, Value.slice.injEq, and_true] at hcs
    obtain ⟨rfl, rfl, rfl⟩ := hcs
    simp only [Prod.mk.injEq] at hx
    obtain ⟨hd, _⟩ := hx
    have hlm : len0 ≤ m := by rw [hmm]; split <;> omega
    have num : ∀ i, i < len0 → w.cell? (a.add (i * 2)) = some (.string (rds w a (i * 2))) ∧ w.cell? (a.add (i * 2 + 1)) = some (.string (rds w a (i * 2 + 1))) ∧ 20 + (rds w a (i * 2)).size + (rds w a (i * 2 + 1)).size ≤ 7 * Rows.uptoBulk (D i) := by
      intro i hil
      obtain ⟨ys, n, hD, _, hyl, hf⟩ := hi i (by omega)
      rw [hsz] at hf hyl
      obtain ⟨f0, e0, et0⟩ := Option.map_eq_some_iff.1 ht0
      obtain ⟨f1, e1, et1⟩ := Option.map_eq_some_iff.1 ht1
      obtain ⟨v0, y0, c0, k0, t0⟩ := hf 0 f0 e0
      obtain ⟨v1, y1, c1, k1, t1⟩ := hf 1 f1 e1
      rw [et0] at t0
      rw [et1] at t1
      obtain ⟨z0, hz0, hy0, _⟩ := DataW.trod_string Tryd.underlying9 t0
      obtain ⟨z1, hz1, hy1, _⟩ := DataW.trod_string Tryd.underlying9 t1
      simp only [List.cons.injEq, and_true] at hz0 hz1
      subst hz0 hz1
      rw [Nat.add_zero] at c0
      have q0 : rds w a (i * 2) = z0 := by unfold rds; rw [c0]
      have q1 : rds w a (i * 2 + 1) = z1 := by unfold rds; rw [c1]
      refine ⟨by rw [q0]; exact c0, by rw [q1]; exact c1, ?_⟩
      have hys : ys = [y0, y1] := by
        match ys, hyl, k0, k1 with
        | [a, b], _, k0, k1 => simp at k0 k1; rw [k0, k1]
      rw [q0, q1, hD, hys, hy0, hy1]
      simp only [List.map_cons, List.map_nil, Rows.uptoBulk, Rows.uptoBulkAll]
      have s0 : z0.data.toList.length = z0.size := by rw [Array.length_toList]; rfl
      have s1 : z1.data.toList.length = z1.size := by rw [Array.length_toList]; rfl
      omega
    refine ⟨(List.range len0).map fun i => (rds w a (i * 2), rds w a (i * 2 + 1)), ⟨some a, cap0, by simp, by simpa using hl, hm, fun i r hr => ?_⟩, ?_⟩
    · have hil : i < len0 := by
        have := (List.getElem?_eq_some_iff.1 hr).1
        simpa using this
      have hr' : r = (rds w a (i * 2), rds w a (i * 2 + 1)) := by
        rw [List.getElem?_map, List.getElem?_range hil] at hr
        simpa using hr.symm
      subst hr'
      have h0 := (num 0 (by omega)).1
      have hspot : a.spot = none := by
        rw [Nat.zero_mul] at h0
        exact World.cell?_spot (by simpa [Addr.add] using h0)
      obtain ⟨b, o, sp'⟩ := a
      simp only at hspot
      subst hspot
      have hi' := num i hil
      rw [Addr.add_lit, Addr.add_lit] at hi'
      exact ⟨b, o, rfl, World.block_lt_of_cell? _ _ hi'.1, hi'.1, by have := hi'.2.1; rw [← Nat.add_assoc] at this; exact this⟩
    · rw [hd]
      have hb := bulk_range (D := D) (F := fun i => 20 + (rds w a (i * 2)).size + (rds w a (i * 2 + 1)).size) len0 (fun i hi => (num i hi).2.2)
      simp only [Rows.uptoBulk]
      have e : sumF ((List.range len0).map fun i => (rds w a (i * 2), rds w a (i * 2 + 1))) = ((List.range len0).map fun i => 20 + (rds w a (i * 2)).size + (rds w a (i * 2 + 1)).size).sum := by
        unfold sumF
        rw [List.map_map]
        rfl
      rw [e]
      omega
end
end Go.Proofs.YtifbjccioklaoaaDoor
