/- The reference's Check answers as the program's does. No condition. -/
import Derived.Test.YtjfpfmknngkgaaaDoorSChk
import Derived.Test.YtjfpfmknngkgaaaDoorRNum
import Derived.Test.YtjfpfmknngkgaaaDoorREnt
import Derived.Test.YtjfpfmknngkgaaaDoorQt
import Derived.Laws.Rows
import Derived.BigQuiet
namespace Go.Proofs.YtjfpfmknngkgaaaDoor
set_option linter.unusedVariables false
set_option linter.unusedSimpArgs false
open Go.RowKit Go.Shelf Rng
theorem field65_0 (nm : ByteArray) (lo hi fi : Int) (W : World) : (Instr.field 65 (.agg #[.string nm, .int .i64 lo, .int .i64 hi, .int .i64 fi]) 0).run Tryd.prog W = .ok (.string nm) W := by kernel_rfl
theorem field65_1 (nm : ByteArray) (lo hi fi : Int) (W : World) : (Instr.field 65 (.agg #[.string nm, .int .i64 lo, .int .i64 hi, .int .i64 fi]) 1).run Tryd.prog W = .ok (.int .i64 lo) W := by kernel_rfl
theorem field65_2 (nm : ByteArray) (lo hi fi : Int) (W : World) : (Instr.field 65 (.agg #[.string nm, .int .i64 lo, .int .i64 hi, .int .i64 fi]) 2).run Tryd.prog W = .ok (.int .i64 hi) W := by kernel_rfl
theorem numsA_get (s : Sty) (i : Nat) (hi : i < 18) : (numsA s)[i]? = some (.int .i64 (s.nums.getD i 0)) := by
  have : i < s.nums.length := hi
  simp [numsA, List.getElem?_map, List.getElem?_eq_getElem this]
set_option maxRecDepth 100000 in
set_option maxHeartbeats 2000000 in
theorem rcheck_calls (s : Sty) (w : World) :
    Calls Tryd.prog 11 #[s.val] w fun e w' => e = .returned (.int .i64 s.chk) ∧ Below w.heap.size w w' := by
  go_enter Tryd.func11, Tryd.ntmps11
  go_upto_region 1 with fail
  obtain ⟨W0, hW0⟩ : ∃ W0, w.alloc (.cells s.cells.toArray 23) = W0 := ⟨_, rfl⟩
  have hb0 : W0.heap[w.heap.size]? = some (.cells s.cells.toArray 23 (0, 0)) := by rw [← hW0]; exact World.alloc_heap_new w _
  have hB0 : Below w.heap.size w W0 := by rw [← hW0]; exact (Below.refl _ w).alloc (Nat.le_refl _) _
  change Code.wp _ _ _ _ (w.alloc (.cells s.cells.toArray 23))
  rw [hW0]
  clear hW0
  go_wp2_with (first | (refine wpList_load_row rfl 23 _ rfl w.heap.size rfl 23 _ (0, 0) _ hb0 Tryd.underlying23 rfl (by kernel_rfl) ?_) | (go_at_call 23; refine (numbers_calls s _).mono ?_; rintro e w1 ⟨R, rfl, hR, hRb, hB1⟩))
  clear hb0
  have hB2 : Below w.heap.size w w1 := hB0.trans (hB1.mono hB0.size)
  have hRw : w.heap.size ≤ R := Nat.le_trans hB0.size hR
  clear hB1 hB0 hR
  go_loopw [4] (fun i wr => ∃ k : Nat, k ≤ 18 ∧ i = .int .i64 k ∧ (∀ j, j < k → badAt s j = false) ∧ wr.heap[R]? = some (.cells (numsA s) 3 (0, 0)) ∧ Below w.heap.size w wr) (fun i _ => 18 - (intOf i).toNat)
  case atStart => exact ⟨0, by omega, rfl, fun j hj => by omega, hRb, hB2⟩
  case round =>
    obtain ⟨k, hk, rfl, hbad, hRr, hBr⟩ := hrel
    clear hRb hB2
    by_cases hlt : k < 18
    · obtain ⟨e, he⟩ : ∃ e, (entL 0)[k]? = some e := ⟨_, List.getElem?_eq_getElem (by simp [entL]; omega)⟩
      have hbd := badAt_eq (s := s) he hlt
      have hec := fun W => entry_calls k hlt e he W
      have hcell := (cell_of hRr k).trans (numsA_get s k hlt)
      obtain ⟨v, hv⟩ : ∃ v, s.nums.getD k 0 = v := ⟨_, rfl⟩
      rw [hv] at hbd hcell
      have hany : ∀ b, badAt s k = b → b = true → s.bad = true := fun b h1 h2 => List.any_eq_true.2 ⟨k, by simpa using hlt, by rw [h1]; exact h2⟩
      have hok : badAt s k = false → ∀ j, j < k + 1 → badAt s j = false := fun h j hj => by
        by_cases e : j = k
        · rw [e]; exact h
        · exact hbad j (by omega)
      have hlt' : (k : Int) < 18 := by omega
      have HE := Lib.hid hec
      have HC := Lib.hid hcell
      have HR := Lib.hid hRr
      have HBd := Lib.hid hbd
      have HA := Lib.hid hany
      have HO := Lib.hid hok
      clear hbd hec hcell hany hok he hbad hRr hv
      have hcl := fun d os => cell_regrown HC.out d os
      have hf1 := fun W => field65_1 e.nm e.lo e.hi e.fi W
      have hf2 := fun W => field65_2 e.nm e.lo e.hi e.fi W
      by_cases h1 : v < e.lo
      · have d1 : decide (v < e.lo) = true := decide_eq_true h1
        have hb : s.chk = 90 := by rw [Sty.chk, HA.out _ HBd.out (by simp [h1])]; rfl
        have HBAD := Lib.hid hb
        clear hb hf2
        go_upto_region 5 with fail
        refine wp_region_quiet_below (by kernel_rfl) (by kernel_rfl) ?_
        repeat (go_big_quiet_step ((go_at_call 24; exact Calls.regrown_of (HE.out _))))
        refine wpQuiet_nil ?_
        rintro _ ⟨p, rfl⟩
        have hB3 := below_regrown wr p.d p.os
        go_wp2
        go_ret
        exact ⟨by rw [HBAD.out]; rfl, hBr.trans (hB3.mono hBr.size)⟩
      · have d1 : decide (v < e.lo) = false := decide_eq_false h1
        by_cases h2 : e.hi < v
        · have d2 : decide (e.hi < v) = true := decide_eq_true h2
          have hb : s.chk = 90 := by rw [Sty.chk, HA.out _ HBd.out (by simp [h2])]; rfl
          have HBAD := Lib.hid hb
          clear hb
          go_upto_region 5 with fail
          refine wp_region_quiet_below (by kernel_rfl) (by kernel_rfl) ?_
          repeat (go_big_quiet_step ((go_at_call 24; exact Calls.regrown_of (HE.out _))))
          refine wpQuiet_nil ?_
          rintro _ ⟨p, rfl⟩
          have hB3 := below_regrown wr p.d p.os
          go_wp2
          go_ret
          exact ⟨by rw [HBAD.out]; rfl, hBr.trans (hB3.mono hBr.size)⟩
        · have d2 : decide (e.hi < v) = false := decide_eq_false h2
          have HOK := Lib.hid (HO.out (HBd.out.trans (by simp; omega)))
          go_upto_region 5 with fail
          refine wp_region_quiet_below (by kernel_rfl) (by kernel_rfl) ?_
          repeat (go_big_quiet_step ((go_at_call 24; exact Calls.regrown_of (HE.out _))))
          refine wpQuiet_nil ?_
          rintro _ ⟨p, rfl⟩
          have hB3 := below_regrown wr p.d p.os
          go_wp2
          have hRr := HR.out
          go_roundw
          case rel => exact ⟨k + 1, by omega, by go_num, HOK.out, (hB3.block R (Array.getElem?_eq_some_iff.1 hRr).1).trans hRr, hBr.trans (hB3.mono hBr.size)⟩
          case measure => simp [intOf]; omega
    · obtain rfl : k = 18 := by omega
      have hb : s.bad = false := by
        unfold Sty.bad
        rw [List.any_eq_false]
        intro i hi
        simp [hbad i (by simpa using hi)]
      have HF : Hid (s.chk = 0) := Lib.hid (by rw [Sty.chk, hb]; rfl)
      clear hb hbad hRr
      go_wp2
      go_ret
      exact ⟨by rw [HF.out]; rfl, hBr⟩
end Go.Proofs.YtjfpfmknngkgaaaDoor
