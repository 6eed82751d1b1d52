/- StylePrints answers true. Conditions: the style's numbers are int's; the library's table of powers of ten is as it is laid. -/
import Derived.Test.YtjfpfmknngkgaaaDoorSPrt
import Derived.Test.YtjfpfmknngkgaaaDoorRPrt
namespace Go.Proofs.YtjfpfmknngkgaaaDoor
set_option linter.unusedVariables false
set_option linter.unusedSimpArgs false
open Go.RowKit Go.Shelf Rng
set_option maxRecDepth 100000 in
set_option maxHeartbeats 2000000 in
theorem print_bad (s : Sty) (hbad : s.bad = true) (w : World) :
    Calls Tryd.prog 8 #[s.val] w fun e w' => e = .returned (.tuple #[.string ⟨#[]⟩, .int .i64 90]) ∧ Below w.heap.size w w' := by
  have hc : ∀ W, Calls Tryd.prog 10 #[s.val] W fun e w' => e = .returned (.int .i64 90) ∧ Below W.heap.size W w' := fun W => by
    have h := check_calls s W
    have e : s.chk = 90 := by simp [Sty.chk, hbad]
    rw [e] at h
    exact h
  have HC := Lib.hid hc
  clear hc hbad
  refine (callsIn_wide (n := 8)).1 ?_
  refine callsIn_of_wp_marks Tryd.func8 rfl trivial ?_ rfl
  simp only [Tryd.ntmps8, List.size_toArray, List.length_cons, List.length_nil, Nat.reduceAdd, Nat.reduceSub, Array.replicate_succ, Array.replicate_zero, List.push_toArray, List.append_toArray, List.nil_append, List.cons_append]
  refine wpIn_wide.2 ?_
  go_upto_region 1 with fail
  obtain ⟨W0, hW0⟩ : ∃ W0, w.alloc (.cells s.cells.toArray 23) = W0 := ⟨_, rfl⟩
  have hb0 : W0.heap[w.heap.size]? = some (.cells s.cells.toArray 23 (0, 0)) := by rw [← hW0]; exact World.alloc_heap_new w _
  have hB0 : Below w.heap.size w W0 := by rw [← hW0]; exact (Below.refl _ w).alloc (Nat.le_refl _) _
  change Code.wp _ _ _ _ (w.alloc (.cells s.cells.toArray 23))
  rw [hW0]
  clear hW0
  go_wp2_with (first | (refine wpList_load_row rfl 23 _ rfl w.heap.size rfl 23 _ (0, 0) _ hb0 Tryd.underlying23 rfl (by kernel_rfl) ?_) | (go_at_call 10; refine (HC.out _).mono ?_; rintro e w1 ⟨rfl, hB1⟩))
  refine ⟨.tuple #[.string ⟨#[]⟩, .int .i64 90], ?_, rfl, hB0.trans (hB1.mono hB0.size)⟩
  simp [results, Tryd.f8, go_sem]

set_option maxRecDepth 100000 in
set_option maxHeartbeats 2000000 in
/-- The law, once both Prints answer alike. -/
theorem law_prints (s : Sty) (t : ByteArray) (c : Int) (w : World)
    (h8 : ∀ W, Below w.heap.size w W → Calls Tryd.prog 8 #[s.val] W fun e w' => e = .returned (.tuple #[.string t, .int .i64 c]) ∧ Below W.heap.size W w')
    (h9 : ∀ W, Calls Tryd.prog 9 #[s.val] W fun e w' => e = .returned (.tuple #[.string t, .int .i64 c]) ∧ Below W.heap.size W w') :
    Calls Tryd.prog 3 #[s.val] w fun e w' => e = .returned (.bool true) ∧ Below w.heap.size w w' := by
  have H8 := Lib.hid h8
  have H9 := Lib.hid h9
  clear h8 h9
  go_enter Tryd.func3, Tryd.ntmps3
  go_upto_region 1 with fail
  obtain ⟨W0, hW0⟩ : ∃ W0, w.alloc (.cells s.cells.toArray 23) = W0 := ⟨_, rfl⟩
  have hb0 : W0.heap[w.heap.size]? = some (.cells s.cells.toArray 23 (0, 0)) := by rw [← hW0]; exact World.alloc_heap_new w _
  have hB0 : Below w.heap.size w W0 := by rw [← hW0]; exact (Below.refl _ w).alloc (Nat.le_refl _) _
  have hlt0 : w.heap.size < W0.heap.size := by rw [← hW0]; simp
  change Code.wp _ _ _ _ (w.alloc (.cells s.cells.toArray 23))
  rw [hW0]
  clear hW0
  go_upto_region 3 with (first | (refine wpList_load_row rfl 23 _ rfl w.heap.size rfl 23 _ (0, 0) _ (by assumption) Tryd.underlying23 rfl (by kernel_rfl) ?_) | (go_at_call 8; refine (H8.out _ hB0).mono ?_; rintro e w1 ⟨rfl, hB1⟩; have hb1 := (hB1.block _ hlt0).trans hb0; clear hb0) | (go_at_call 9; refine (H9.out _).mono ?_; rintro e w2 ⟨rfl, hB2⟩; have hb2 := (hB2.block _ (Nat.lt_of_lt_of_le hlt0 hB1.size)).trans hb1; clear hb1))
  have hB3 : Below w.heap.size w w2 := (hB0.trans (hB1.mono hB0.size)).trans (hB2.mono (Nat.le_trans hB0.size hB1.size))
  have hlt2 := Nat.lt_of_lt_of_le (Nat.lt_of_lt_of_le hlt0 hB1.size) hB2.size
  have hrow : ∀ W, Cls w2 W → W.heap[w.heap.size]? = some (.cells s.cells.toArray 23 (0, 0)) := fun W hW => (hW.below.block _ hlt2).trans hb2
  have HR := Lib.hid hrow
  have hcc := fun W => check_calls s W
  have hcr := fun W => rcheck_calls s W
  have HCC := Lib.hid hcc
  have HCR := Lib.hid hcr
  clear hb2 hB0 hB1 hB2 hlt0 hrow hcc hcr
  refine wp_region_quiet_below (by kernel_rfl) (by kernel_rfl) ?_
  repeat (first | (refine quiet_load_row (by rfl) 23 _ rfl w.heap.size rfl 23 _ (0, 0) _ HR.out Tryd.underlying23 rfl (by kernel_rfl) ?_; go_simp) | go_big_quiet_step ((first | (go_at_call 10; exact Calls.regrown_of (HCC.out _)) | (go_at_call 11; exact Calls.regrown_of (HCR.out _)))))
  refine wpQuiet_nil ?_
  intro p
  go_wp2
  go_ret
  exact ⟨rfl, hB3.trans ((below_regrown w2 p.d p.os).mono hB3.size)⟩
theorem prints_true (s : Sty) (hs : s.wf) (w : World) (ht : Pow w.heap.size w) :
    Calls Tryd.prog 3 #[s.val] w fun e w' => e = .returned (.bool true) ∧ Below w.heap.size w w' := by
  cases hb : s.bad with
  | true => exact law_prints s ⟨#[]⟩ 90 w (fun W _ => print_bad s hb W) (fun W => rprint_bad s hb W)
  | false => exact law_prints s (textB s 18) 0 w (fun W hW => print_ok s hs hb W (fun x hx => ht x (hW.trans (hx.mono hW.size)))) (fun W => rprint_ok s hs hb W)
end Go.Proofs.YtjfpfmknngkgaaaDoor
