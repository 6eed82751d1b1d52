/- The reference's entry: name, range and first number of entry i. Condition: i is from 0 to 17. -/
import Derived.Test.YtjfpfmknngkgaaaDoorSSty
import Derived.BigRegion
namespace Go.Proofs.YtjfpfmknngkgaaaDoor
set_option linter.unusedVariables false
set_option linter.unusedSimpArgs false
open Go.RowKit Rng
def namesA : Array Value := #[.string ⟨#[99, 111, 108, 117, 109, 110, 115]⟩, .string ⟨#[105, 110, 100, 101, 110, 116]⟩, .string ⟨#[104, 97, 110, 103]⟩, .string ⟨#[98, 108, 97, 110, 107, 115]⟩, .string ⟨#[107, 101, 101, 112]⟩, .string ⟨#[97, 108, 105, 103, 110]⟩, .string ⟨#[114, 101, 102, 108, 111, 119]⟩, .string ⟨#[101, 120, 99, 101, 115, 115]⟩, .string ⟨#[111, 112, 101, 110]⟩, .string ⟨#[99, 111, 109, 109, 97]⟩, .string ⟨#[97, 115, 115, 105, 103, 110]⟩, .string ⟨#[99, 104, 111, 105, 99, 101]⟩, .string ⟨#[108, 111, 103, 105, 99]⟩, .string ⟨#[99, 111, 109, 112, 97, 114, 101]⟩, .string ⟨#[115, 117, 109]⟩, .string ⟨#[112, 114, 111, 100, 117, 99, 116]⟩, .string ⟨#[109, 101, 109, 98, 101, 114]⟩, .string ⟨#[101, 108, 115, 101]⟩]
def highA : Array Value := #[.int .i64 4096, .int .i64 16, .int .i64 16, .int .i64 8, .int .i64 1, .int .i64 1, .int .i64 1]
def firstA : Array Value := #[.int .i64 80, .int .i64 4, .int .i64 8, .int .i64 1, .int .i64 0, .int .i64 1, .int .i64 1, .int .i64 1000, .int .i64 10, .int .i64 1, .int .i64 5, .int .i64 3, .int .i64 4, .int .i64 6, .int .i64 7, .int .i64 8, .int .i64 9, .int .i64 20]

theorem entry_at : ∀ (i : Nat) (_ : i < 18) (e : Ent), (entL 0)[i]? = some e → namesA[i]? = some (.string e.nm) ∧ firstA[i]? = some (.int .i64 e.fi) ∧
    (i < 7 → highA[i]? = some (.int .i64 e.hi)) ∧ (7 ≤ i → e.hi = 1000000) ∧ e.lo = (if i = 0 then 1 else 0) := fun i hi e he => match i, hi with
  | 0, _ | 1, _ | 2, _ | 3, _ | 4, _ | 5, _ | 6, _ | 7, _ | 8, _ | 9, _ | 10, _ | 11, _ | 12, _ | 13, _ | 14, _ | 15, _ | 16, _ | 17, _ => by simp [entL] at he; subst he; simp [namesA, highA, firstA]
theorem three (w : World) (Z N H F : Array Value) (t1 t2 t3 t4 : TypeId) (W0 : World) (h : (((w.alloc (.cells Z t1)).alloc (.cells N t2)).alloc (.cells H t3)).alloc (.cells F t4) = W0) :
    W0.heap[w.heap.size]? = some (.cells Z t1 (0, 0)) ∧ W0.heap[w.heap.size + 1]? = some (.cells N t2 (0, 0)) ∧ W0.heap[w.heap.size + 2]? = some (.cells H t3 (0, 0)) ∧ W0.heap[w.heap.size + 3]? = some (.cells F t4 (0, 0)) ∧
    Below w.heap.size w W0 ∧ W0.heap.size = w.heap.size + 4 := by
  subst h
  refine ⟨?_, ?_, ?_, ?_, ((((Below.refl _ w).alloc (Nat.le_refl _) _).alloc (by simp) _).alloc (by simp; omega) _).alloc (by simp; omega) _, by simp⟩
  · rw [Below.heap_alloc _ _ _ (by simp; try omega), Below.heap_alloc _ _ _ (by simp; try omega), Below.heap_alloc _ _ _ (by simp)]; exact World.alloc_heap_new _ _
  · rw [Below.heap_alloc _ _ _ (by simp; try omega), Below.heap_alloc _ _ _ (by simp)]; have := World.alloc_heap_new (w.alloc (.cells Z t1)) (.cells N t2); rwa [World.size_alloc] at this
  · rw [Below.heap_alloc _ _ _ (by simp)]; have := World.alloc_heap_new ((w.alloc (.cells Z t1)).alloc (.cells N t2)) (.cells H t3); rwa [World.size_alloc, World.size_alloc] at this
  · have := World.alloc_heap_new (((w.alloc (.cells Z t1)).alloc (.cells N t2)).alloc (.cells H t3)) (.cells F t4); rwa [World.size_alloc, World.size_alloc, World.size_alloc] at this
set_option maxRecDepth 100000 in
set_option maxHeartbeats 2000000 in
theorem entry_calls (i : Nat) (hi : i < 18) (e : Ent) (he : (entL 0)[i]? = some e) (w : World) :
    Calls Tryd.prog 24 #[.int .i64 i] w fun e' w' => e' = .returned (.agg #[.string e.nm, .int .i64 e.lo, .int .i64 e.hi, .int .i64 e.fi]) ∧ Below w.heap.size w w' := by
  obtain ⟨q1, q2, q3, q4, q5⟩ := entry_at i hi e he
  obtain ⟨nm, lo, hi', fi, n, is⟩ := e
  simp only at q1 q2 q3 q4 q5
  clear he
  go_enter Tryd.func24, Tryd.ntmps24
  go_upto_region 4 with fail
  obtain ⟨W0, hW0⟩ : ∃ W0, (((w.alloc (.cells #[.string ⟨#[]⟩, .int .i64 0, .int .i64 0, .int .i64 0] 65)).alloc (.cells namesA 9)).alloc (.cells highA 3)).alloc (.cells firstA 3) = W0 := ⟨_, rfl⟩
  obtain ⟨b0, b1, b2, b3, hB0, hsz⟩ := three _ _ _ _ _ _ _ _ _ W0 hW0
  change Code.wp _ _ _ _ ((((w.alloc (.cells #[.string ⟨#[]⟩, .int .i64 0, .int .i64 0, .int .i64 0] 65)).alloc (.cells namesA 9)).alloc (.cells highA 3)).alloc (.cells firstA 3))
  rw [hW0]
  clear hW0
  have d1 : W0.cell? ⟨w.heap.size + 1, i, none⟩ = some (.string nm) := (cell_of b1 i).trans q1
  have d3 : W0.cell? ⟨w.heap.size + 1 + 1 + 1, i, none⟩ = some (.int .i64 fi) := (cell_of b3 i).trans q2
  have d2 : i < 7 → W0.cell? ⟨w.heap.size + 1 + 1, i, none⟩ = some (.int .i64 hi') := fun h => (cell_of b2 i).trans (q3 h)
  have e0 : W0.cell? ⟨w.heap.size, 0, none⟩ = some (.string ⟨#[]⟩) := cell_of b0 0
  have e1 : W0.cell? ⟨w.heap.size, 1, none⟩ = some (.int .i64 0) := cell_of b0 1
  have e2 : W0.cell? ⟨w.heap.size, 2, none⟩ = some (.int .i64 0) := cell_of b0 2
  have e3 : W0.cell? ⟨w.heap.size, 3, none⟩ = some (.int .i64 0) := cell_of b0 3
  have f0 : ∀ j, W0.frozen? ⟨w.heap.size, j, none⟩ = false := fun j => by simp [World.frozen?, b0]
  have g0 := f0 0
  have g1 := f0 1
  have g2 := f0 2
  have g3 := f0 3
  have hlt : w.heap.size < W0.heap.size := by omega
  have hi1 : (i : Int) < 18 := by omega
  have HQ4 := Lib.hid q4
  have HQ5 := Lib.hid q5
  clear q1 q2 q3 q4 q5 b0 b1 b2 b3 f0
  have HB := Lib.hid hB0
  have HD := Lib.hid d2
  clear d2
  have HZ := Lib.hid hsz
  clear hsz
  have hl1 : w.heap.size + 1 < W0.heap.size := by rw [HZ.out]; omega
  have hl2 : w.heap.size + 1 + 1 < W0.heap.size := by rw [HZ.out]; omega
  have hl3 : w.heap.size + 1 + 1 + 1 < W0.heap.size := by rw [HZ.out]; omega
  go_region
  by_cases h7 : i < 7
  · have d2 := HD.out h7
    have h7' : (i : Int) < 7 := by omega
    have hn : ¬ (7 ≤ i) := by omega
    by_cases h0 : i = 0
    · subst h0
      go_wp2
      refine bodyPost_ret (v := .agg #[.string nm, .int .i64 lo, .int .i64 hi', .int .i64 fi]) ?_ rfl ⟨rfl, ?_⟩
      · have hlo := HQ5.out
        simp at hlo
        subst hlo
        simp [results, Tryd.f24, go_sem, e0, e1, e2, e3, hlt]
      · have hos := HB.out.size
        repeat (first | exact HB.out | refine Below.drew ?_ | refine Below.setCell ?_ (by simp) _ | refine Below.alloc ?_ (by simp; omega) _)
    · have h0' : ((i : Int) == 0) = false := by simp; omega
      go_wp2
      refine bodyPost_ret (v := .agg #[.string nm, .int .i64 lo, .int .i64 hi', .int .i64 fi]) ?_ rfl ⟨rfl, ?_⟩
      · have hlo := HQ5.out
        rw [if_neg h0] at hlo
        subst hlo
        simp [results, Tryd.f24, go_sem, e0, e1, e2, e3, hlt]
      · have hos := HB.out.size
        repeat (first | exact HB.out | refine Below.drew ?_ | refine Below.setCell ?_ (by simp) _ | refine Below.alloc ?_ (by simp; omega) _)
  · have h7' : ¬ (i : Int) < 7 := by omega
    have h0' : ((i : Int) == 0) = false := by simp; omega
    go_wp2
    refine bodyPost_ret (v := .agg #[.string nm, .int .i64 lo, .int .i64 hi', .int .i64 fi]) ?_ rfl ⟨rfl, ?_⟩
    · have hlo := HQ5.out
      rw [if_neg (by omega)] at hlo
      have h4 := HQ4.out (by omega)
      subst h4
      subst hlo
      simp [results, Tryd.f24, go_sem, e0, e1, e2, e3, hlt]
    · have hos := HB.out.size
      repeat (first | exact HB.out | refine Below.drew ?_ | refine Below.setCell ?_ (by simp) _ | refine Below.alloc ?_ (by simp; omega) _)
end Go.Proofs.YtjfpfmknngkgaaaDoor
