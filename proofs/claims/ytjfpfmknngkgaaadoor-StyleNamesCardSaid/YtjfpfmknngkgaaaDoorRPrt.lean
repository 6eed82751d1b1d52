/- The reference's Print: a style's text and 0, or the empty text and Check's error. Condition: the numbers are int's. -/
import Derived.Test.YtjfpfmknngkgaaaDoorRChk
import Derived.Test.YtjfpfmknngkgaaaDoorRNm
import Derived.Test.YtjfpfmknngkgaaaDoorSText
import Derived.Lib.ItoaMem
namespace Go.Proofs.YtjfpfmknngkgaaaDoor
set_option linter.unusedVariables false
set_option linter.unusedSimpArgs false
open Go.RowKit Go.Shelf Rng
def textB (s : Sty) (k : Nat) : ByteArray := ⟨(textTo s k).toArray⟩
theorem textB_size (s : Sty) (k : Nat) : (textB s k).size = (textTo s k).length := by simp [textB, ByteArray.size]
theorem textB_succ (s : Sty) (k : Nat) (v : Int) (hv : s.nums.getD k 0 = v) : textB s k ++ nameOf k ++ ⟨#[32, 61, 32]⟩ ++ ⟨(Lib.itoa v).toArray⟩ ++ ⟨#[10]⟩ = textB s (k + 1) := by
  apply ByteArray.ext
  subst hv
  simp [textB, textTo_succ, lineS, ByteArray.data_append, Array.append_assoc]
set_option maxRecDepth 100000 in
set_option maxHeartbeats 2000000 in
theorem rprint_bad (s : Sty) (hbad : s.bad = true) (w : World) :
    Calls Tryd.prog 9 #[s.val] w fun e w' => e = .returned (.tuple #[.string ⟨#[]⟩, .int .i64 90]) ∧ Below w.heap.size w w' := by
  have hc : ∀ W, Calls Tryd.prog 11 #[s.val] W fun e w' => e = .returned (.int .i64 90) ∧ Below W.heap.size W w' := fun W => by
    have h := rcheck_calls s W
    have e : s.chk = 90 := by simp [Sty.chk, hbad]
    rw [e] at h
    exact h
  have HC := Lib.hid hc
  clear hc hbad
  go_enter Tryd.func9, Tryd.ntmps9
  go_upto_region 1 with fail
  obtain ⟨W0, hW0⟩ : ∃ W0, w.alloc (.cells s.cells.toArray 23) = W0 := ⟨_, rfl⟩
  have hb0 : W0.heap[w.heap.size]? = some (.cells s.cells.toArray 23 (0, 0)) := by rw [← hW0]; exact World.alloc_heap_new w _
  have hB0 : Below w.heap.size w W0 := by rw [← hW0]; exact (Below.refl _ w).alloc (Nat.le_refl _) _
  change Code.wp _ _ _ _ (w.alloc (.cells s.cells.toArray 23))
  rw [hW0]
  clear hW0
  go_wp2_with (first | (refine wpList_load_row rfl 23 _ rfl w.heap.size rfl 23 _ (0, 0) _ hb0 Tryd.underlying23 rfl (by kernel_rfl) ?_) | (go_at_call 11; refine (HC.out _).mono ?_; rintro e w1 ⟨rfl, hB1⟩))
  go_ret2
  exact ⟨rfl, hB0.trans (hB1.mono hB0.size)⟩
set_option maxRecDepth 100000 in
set_option maxHeartbeats 2000000 in
theorem rprint_ok (s : Sty) (hs : s.wf) (hok : s.bad = false) (w : World) :
    Calls Tryd.prog 9 #[s.val] w fun e w' => e = .returned (.tuple #[.string (textB s 18), .int .i64 0]) ∧ Below w.heap.size w w' := by
  have hc : ∀ W, Calls Tryd.prog 11 #[s.val] W fun e w' => e = .returned (.int .i64 0) ∧ Below W.heap.size W w' := fun W => by
    have h := rcheck_calls s W
    have e : s.chk = 0 := by simp [Sty.chk, hok]
    rw [e] at h
    exact h
  have HC := Lib.hid hc
  have HW := Lib.hid hs
  have HOK := Lib.hid hok
  clear hc hok hs
  go_enter Tryd.func9, Tryd.ntmps9
  go_upto_region 1 with fail
  obtain ⟨W0, hW0⟩ : ∃ W0, w.alloc (.cells s.cells.toArray 23) = W0 := ⟨_, rfl⟩
  have hb0 : W0.heap[w.heap.size]? = some (.cells s.cells.toArray 23 (0, 0)) := by rw [← hW0]; exact World.alloc_heap_new w _
  have hB0 : Below w.heap.size w W0 := by rw [← hW0]; exact (Below.refl _ w).alloc (Nat.le_refl _) _
  have hlt0 : w.heap.size < W0.heap.size := by rw [← hW0]; simp
  change Code.wp _ _ _ _ (w.alloc (.cells s.cells.toArray 23))
  rw [hW0]
  clear hW0
  go_wp2_with (first | (refine wpList_load_row rfl 23 _ rfl w.heap.size rfl 23 _ (0, 0) _ (by assumption) Tryd.underlying23 rfl (by kernel_rfl) ?_) | (go_at_call 11; refine (HC.out _).mono ?_; rintro e w1 ⟨rfl, hB1⟩; have hb1 := (hB1.block _ hlt0).trans hb0; clear hb0) | (go_at_call 23; refine (numbers_calls s _).mono ?_; rintro e w2 ⟨R, rfl, hR, hRb, hB2⟩))
  clear hb1
  have hB3 : Below w.heap.size w w2 := (hB0.trans (hB1.mono hB0.size)).trans (hB2.mono (Nat.le_trans hB0.size hB1.size))
  have hRw : w.heap.size ≤ R := Nat.le_trans (Nat.le_trans hB0.size hB1.size) hR
  clear hB0 hB1 hB2 hR hlt0
  go_loopw [6, 7] (fun o i wr => ∃ k : Nat, k ≤ 18 ∧ i = .int .i64 k ∧ o = .string (textB s k) ∧ wr.heap[R]? = some (.cells (numsA s) 3 (0, 0)) ∧ Below w.heap.size w wr) (fun _ i _ => 18 - (intOf i).toNat)
  case atStart => exact ⟨0, by omega, rfl, rfl, hRb, hB3⟩
  case round =>
    obtain ⟨k, hk, rfl, rfl, hRr, hBr⟩ := hrel
    clear hRb hB3
    by_cases hlt : k < 18
    · obtain ⟨e, he⟩ : ∃ e, (entL 0)[k]? = some e := ⟨_, List.getElem?_eq_getElem (by simp [entL]; omega)⟩
      have hbd := badAt_eq (s := s) he hlt
      have hg : badAt s k = false := by
        have h := HOK.out
        unfold Sty.bad at h
        rw [List.any_eq_false] at h
        simpa using h k (by simpa using hlt)
      obtain ⟨v, hv⟩ : ∃ v, s.nums.getD k 0 = v := ⟨_, rfl⟩
      have hlo : 0 ≤ e.lo := by
        have := (entry_at k hlt e he).2.2.2.2
        rw [this]; split <;> omega
      obtain ⟨n, rfl⟩ : ∃ n : Nat, v = n := by
        rw [hv, hg] at hbd
        have h2 := of_decide_eq_false hbd.symm
        exact ⟨v.toNat, by omega⟩
      have hn : n ≤ 9223372036854775807 := by have := (HW.out k).2; rw [hv] at this; omega
      have hec := fun W => entry_calls k hlt e he W
      have hnc := fun W => rnum_calls n n W (Nat.le_refl _) hn
      obtain ⟨hnm, hns⟩ := nameOf_eq he
      have hsucc := textB_succ s k n hv
      rw [Lib.itoa_nonneg, hnm] at hsucc
      have hts := textTo_length s HW.out k
      have hsz : (textB s k).size ≤ 600 := by rw [textB_size]; omega
      have hd1 : (⟨(Lib.decDigits n).toArray⟩ : ByteArray).size ≤ 21 := by simpa [ByteArray.size] using decDigits_le hn
      have hcell := (cell_of hRr k).trans (numsA_get s k hlt)
      rw [hv] at hcell
      have hlt' : (k : Int) < 18 := by omega
      have HE := Lib.hid hec
      have HN := Lib.hid hnc
      have HS := Lib.hid hsucc
      have HR := Lib.hid hRr
      have hcl := fun d os => cell_regrown hcell d os
      have hf0 := fun W => field65_0 e.nm e.lo e.hi e.fi W
      have hd2 : (Lib.decDigits n).length ≤ 21 := decDigits_le hn
      clear hbd hec hnc hsucc hcell he hRr hv hg hnm hts hlo
      go_upto_region 9 with fail
      refine wp_region_quiet_below (by kernel_rfl) (by kernel_rfl) ?_
      repeat (go_big_quiet_step ((first | (go_at_call 24; exact Calls.regrown_of (HE.out _)) | (go_at_call 25; exact Calls.regrown_of (HN.out _)))))
      refine wpQuiet_nil ?_
      rintro _ ⟨p, rfl⟩
      have hB4 := below_regrown wr p.d p.os
      rw [HS.out]
      clear hsz hd1 hd2 hns hcl hf0 HE HN HS HW HOK HC
      go_wp2
      have hRr := HR.out
      go_roundw
      case rel => exact ⟨k + 1, by omega, by go_num, rfl, (hB4.block R (Array.getElem?_eq_some_iff.1 hRr).1).trans hRr, hBr.trans (hB4.mono hBr.size)⟩
      case measure => simp [intOf]; omega
    · obtain rfl : k = 18 := by omega
      go_wp2
      go_ret2
      exact ⟨rfl, hBr⟩
end Go.Proofs.YtjfpfmknngkgaaaDoor
