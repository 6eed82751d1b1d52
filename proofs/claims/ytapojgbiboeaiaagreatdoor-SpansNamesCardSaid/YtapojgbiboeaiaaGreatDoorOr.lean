/- Or: what one of two sets has, or an error where one is no set. Condition: at most 50 ranges each. -/
import Derived.Test.YtapojgbiboeaiaaGreatDoorCa
import Derived.Test.YtapojgbiboeaiaaGreatDoorJo
namespace Go.Proofs.YtapojgbiboeaiaaGreatDoor
set_option linter.unusedVariables false
set_option linter.unusedSimpArgs false
open Go.RowKit Rng
set_option maxRecDepth 100000 in
set_option maxHeartbeats 1000000 in
theorem sor_no {B C : Nat} {v u : Value} {l m : List (Int × Int)} {w : World} (h : Rd B w v l) (hB : B ≤ w.heap.size) (h' : Rd C w u m) (hC : C ≤ w.heap.size) (hno : (okR l && okR m) = false) :
    Calls Tryz.prog 8 #[v, u] w fun e w' => e = .returned (.tuple #[.slice none 0 0, .int .i64 2]) ∧ Below w.heap.size w w' := by
  have HA := Lib.hid (valid_calls h hB)
  have HV := Lib.hid (fun (w1 : World) (hb : Below w.heap.size w w1) => valid_calls (h'.below hb hC) (Nat.le_trans hC hb.size))
  go_enter Tryz.func8, Tryz.ntmps8
  cases hl : okR l with
  | false =>
    rw [hl] at HA
    clear hno HV h h'
    go_wp2_with (go_at_call 17; refine HA.out.mono ?_; rintro e w1 ⟨rfl, hB1⟩)
    go_ret2
    exact ⟨rfl, hB1⟩
  | true =>
    rw [hl] at HA hno
    have hm : okR m = false := by simpa using hno
    rw [hm] at HV
    clear hno h h' hl hm
    go_wp2_with (first | (go_at_call 17; refine HA.out.mono ?_; clear HA; rintro e w1 ⟨rfl, hB1⟩) | (go_at_call 17; refine (HV.out _ hB1).mono ?_; rintro e w2 ⟨rfl, hB2⟩))
    go_ret2
    exact ⟨rfl, hB1.trans (hB2.mono hB1.size)⟩
theorem two_cells (w : World) (x y : Value) (t : TypeId) : (w.alloc (.cells #[x, y] t)).heap[w.heap.size]? = some (.cells #[x, y] t (0, 0)) := World.alloc_heap_new w _
set_option maxRecDepth 100000 in
set_option maxHeartbeats 1000000 in
theorem sor_ok {B C : Nat} {v u : Value} {l m : List (Int × Int)} {w : World} (h : Rd B w v l) (hB : B ≤ w.heap.size) (h' : Rd C w u m) (hC : C ≤ w.heap.size) (hl : okR l = true) (hm : okR m = true) (hll : l.length ≤ 1000) (hlm : m.length ≤ 1000) :
    Calls Tryz.prog 8 #[v, u] w fun e w' => ∃ x mm, e = .returned (.tuple #[x, .int .i64 0]) ∧ mm.Perm (l ++ m) ∧ Rises mm ∧ Own w' w.heap.size x (putAll mm) ∧ Below w.heap.size w w' := by
  have HA := Lib.hid (valid_calls h hB)
  have HV := Lib.hid (fun (w1 : World) (hb : Below w.heap.size w w1) => valid_calls (h'.below hb hC) (Nat.le_trans hC hb.size))
  have HC := Lib.hid (fun (w1 : World) (g : Nat) (hb : Below w.heap.size w w1) (hg : w1.heap[g]? = some (.cells #[v, u] 22 (0, 0))) => concat_calls hg (h.below hb hB) (Nat.le_trans hB hb.size) (h'.below hb hC) (Nat.le_trans hC hb.size) (by omega) (by omega))
  have HLL := Lib.hid (show (l ++ m).length ≤ 65536 by rw [List.length_append]; omega)
  rw [hl] at HA
  rw [hm] at HV
  obtain ⟨a1, c1, rfl, q1⟩ := h
  obtain ⟨a2, c2, rfl, q2⟩ := h'
  clear q1 q2 hl hm hll hlm hB hC
  go_enter Tryz.func8, Tryz.ntmps8
  go_upto_region 3 with (first | (go_at_call 17; refine HA.out.mono ?_; clear HA; rintro e w1 ⟨rfl, hB1⟩) | (go_at_call 17; refine (HV.out _ hB1).mono ?_; rintro e w2 ⟨rfl, hB2⟩))
  have hB3 := hB1.trans (hB2.mono hB1.size)
  clear hB1 hB2
  have hs3 := hB3.size
  go_wp2_with (first | (go_at_call 22; refine (HC.out _ w2.heap.size (hB3.alloc hs3 _) (two_cells _ _ _ _)).mono ?_; rintro e w4 ⟨y, rfl, hO4, hB4⟩) | (go_at_call 16; refine (joined_calls (own_rd hO4) (Nat.le_refl _) HLL.out).mono ?_; rintro e w5 ⟨x, mm, rfl, hp, hri, hO5, hB5⟩))
  go_ret2
  have hB6 := (hB3.alloc hs3 _).trans (hB4.mono (hB3.alloc hs3 _).size)
  exact ⟨x, mm, rfl, hp, hri, own_mono hO5 hB6.size, hB6.trans (hB5.mono hB6.size)⟩
end Go.Proofs.YtapojgbiboeaiaaGreatDoor
