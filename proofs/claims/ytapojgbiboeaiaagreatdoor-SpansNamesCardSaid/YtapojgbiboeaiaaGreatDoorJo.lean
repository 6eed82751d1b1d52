/- joined: the ranges sorted and put together where one begins in another or at its end. Condition: at most 65536 ranges. -/
import Derived.Test.YtapojgbiboeaiaaGreatDoorSo
import Derived.Shelf.SlSortCmp.NoneTotal
namespace Go.Proofs.YtapojgbiboeaiaaGreatDoor
set_option linter.unusedVariables false
set_option linter.unusedSimpArgs false
open Go.RowKit Go.Shelf Rng
theorem sort_any {w : World} {base : Nat} {v : Value} {l : List (Int × Int)} (h : Own w base v l) (hlen : l.length ≤ 65536) :
    Calls Tryz.prog 30 #[v, .func (.func 31) #[] #[]] w fun e w' => e = .returned (.tuple #[]) ∧ ∃ m, m.Perm l ∧ Rises m ∧ Own w' base v m ∧ Go.RowKit.Below base w w' := by
  have h' := h
  obtain ⟨_, ⟨rfl, h0⟩ | ⟨g, cap, cur, rfl, _⟩⟩ := h'
  · have hl : l = [] := List.eq_nil_of_length_eq_zero h0
    subst hl
    exact (AnyF.slices_SortFunc_none Tryz.sortRg none 0 _ w).mono fun e w' ⟨he, hw⟩ => ⟨he, [], List.Perm.refl _, fun i j p q _ hi _ => by simp at hi, by rw [hw]; exact h, by rw [hw]; exact Go.RowKit.Below.refl _ _⟩
  · exact sort_calls rfl h hlen
/-- Range r is put behind the ranges, or into the last. -/
def put (l : List (Int × Int)) (r : Int × Int) : List (Int × Int) :=
  match l.getLast? with
  | some q => if r.1 ≤ q.2 then l.dropLast ++ [(q.1, max q.2 r.2)] else l ++ [r]
  | none => [r]
def putAll (l : List (Int × Int)) : List (Int × Int) := l.foldl put []
theorem put_nil (r : Int × Int) : put [] r = [r] := rfl
theorem put_snoc (l : List (Int × Int)) (q r : Int × Int) : put (l ++ [q]) r = if r.1 ≤ q.2 then l ++ [(q.1, max q.2 r.2)] else l ++ [q] ++ [r] := by simp [put]
theorem put_length (l : List (Int × Int)) (r : Int × Int) : (put l r).length ≤ l.length + 1 := by
  rcases List.eq_nil_or_concat l with rfl | ⟨l, q, rfl⟩
  · simp [put_nil]
  · rw [List.concat_eq_append, put_snoc]
    split <;> simp
theorem putAll_take {l : List (Int × Int)} {k : Nat} {r : Int × Int} (hr : l[k]? = some r) : putAll (l.take (k + 1)) = put (putAll (l.take k)) r := by
  unfold putAll
  rw [List.take_add_one, hr, List.foldl_append]
  rfl
theorem putAll_length (l : List (Int × Int)) : ∀ k, (putAll (l.take k)).length ≤ k := by
  intro k
  induction k with
  | zero => simp [putAll]
  | succ k ih =>
    cases hr : l[k]? with
    | none =>
      have : l.take (k + 1) = l.take k := by rw [List.take_add_one, hr]; simp
      rw [this]; omega
    | some r =>
      rw [putAll_take hr]
      have := put_length (putAll (l.take k)) r
      omega
set_option maxRecDepth 100000 in
set_option maxHeartbeats 2000000 in
theorem joined_calls {B : Nat} {v : Value} {l : List (Int × Int)} {w : World} (h : Rd B w v l) (hB : B ≤ w.heap.size) (hlen : l.length ≤ 65536) :
    Calls Tryz.prog 16 #[v] w fun e w' => ∃ x m, e = .returned x ∧ m.Perm l ∧ Rises m ∧ Own w' w.heap.size x (putAll m) ∧ Below w.heap.size w w' := by
  have HC := Lib.hid (clone_calls h hB hlen)
  obtain ⟨i0, hi, hz0, hz1, hz2⟩ := info_rg
  have HLN := Lib.hid hlen
  clear hlen h hB
  go_enter Tryz.func16, Tryz.ntmps16
  go_upto_region 2 with (go_at_call 29; refine HC.out.mono ?_; rintro e w1 ⟨x, rfl, hO1, hB1⟩)
  have HS := Lib.hid (sort_any hO1 HLN.out)
  have hsz1 := hB1.size
  clear hO1
  go_upto_region 3 with (go_at_call 30; refine HS.out.mono ?_; rintro e w2 ⟨rfl, m, hp, hri, hO2, hB2⟩)
  have hB3 := hB1.trans hB2
  have hml : m.length ≤ 65536 := by rw [hp.length_eq]; exact HLN.out
  have HRd := Lib.hid (own_rd hO2)
  have HR := Lib.hid hri
  have HP := Lib.hid hp
  obtain ⟨ao, cap, rfl, h1, h2, h3⟩ := own_rd hO2
  have H3 := Lib.hid h3
  have HML := Lib.hid hml
  have hsz2 := hB2.size
  clear h3 hml hri hp hO2 hB1 hB2
  go_wp2
  go_loopw [3, 13] (fun v i wr => ∃ k : Nat, k ≤ m.length ∧ i = .int .i64 k ∧ Own wr w2.heap.size v (putAll (m.take k)) ∧ Below w2.heap.size w2 wr) (fun _ i _ => m.length - (intOf i).toNat)
  case atStart => exact ⟨0, Nat.zero_le _, rfl, World.ownsRow_nil _ _ _ _, Below.refl _ _⟩
  case round =>
    obtain ⟨k, hk, rfl, hO, hBr⟩ := hrel
    by_cases hlt : k < m.length
    · obtain ⟨r, hr⟩ : ∃ r, m[k]? = some r := ⟨_, List.getElem?_eq_getElem hlt⟩
      obtain ⟨b, o, rfl, hb, c1, c2⟩ := H3.out k r hr
      have c1' := (World.cell?_of_block (hBr.block b hb)).trans c1
      have c2' := (World.cell?_of_block (hBr.block b hb)).trans c2
      have hlt' : (k : Int) < m.length := by omega
      have HPT := Lib.hid (putAll_take hr)
      have hle := putAll_length m k
      have hw := wrap_succ hlt h1 h2
      have HW := Lib.hid hw
      have HK := Lib.hid hlt
      have HLE := Lib.hid (Nat.lt_of_le_of_lt hle (Nat.lt_of_lt_of_le hlt HML.out))
      have hszr := hBr.size
      obtain ⟨out, hout⟩ : ∃ l, putAll (m.take k) = l := ⟨_, rfl⟩
      rw [hout] at hO HPT HLE
      clear hr hlt hw c1 c2 hle hout
      go_upto_region 7 with fail
      obtain ⟨W0, hW0⟩ : ∃ W0, wr.alloc (.cells #[.int .i64 r.1, .int .i64 r.2] 28) = W0 := ⟨_, rfl⟩
      have hb0 : W0.heap[wr.heap.size]? = some (.cells #[.int .i64 r.1, .int .i64 r.2] 28 (0, 0)) := by rw [← hW0]; exact World.alloc_heap_new wr _
      have hB0 : Below w2.heap.size w2 W0 := by rw [← hW0]; exact hBr.alloc hszr _
      have HO := Lib.hid (show Own W0 w2.heap.size u3 out by rw [← hW0]; exact hO.alloc _)
      change Code.wp _ _ _ _ (wr.alloc (.cells #[.int .i64 r.1, .int .i64 r.2] 28))
      rw [hW0]
      clear hW0 hO c1' c2'
      have E1 := Lib.hid (show out.length + 1 ≤ maxLen by have := HLE.out; unfold maxLen; omega)
      have E2 := Lib.hid (show (out.length + 1) * 16 ≤ 140737488355328 by have := HLE.out; omega)
      rcases List.eq_nil_or_concat out with rfl | ⟨mm, q, hm⟩
      · obtain ⟨hv, h0⟩ | ⟨g, cap', cur, hv, hb', hc', h1', h2', h3'⟩ := HO.out.2
        · subst hv
          have HPT2 := Lib.hid (HPT.out.trans (put_nil r))
          go_upto_region 8 with fail
          refine wp_region_quiet_below (by kernel_rfl) (by kernel_rfl) ?_
          repeat (go_big_quiet_step (fail))
          refine wpQuiet_nil ?_
          rintro _ ⟨p, rfl⟩
          obtain ⟨W1, hW1⟩ : ∃ W1, Go.Sort.grow (redrawn W0 p.d) p.os = W1 := ⟨_, rfl⟩
          have hB4 : Below W0.heap.size W0 W1 := by rw [← hW1]; exact below_regrown W0 p.d p.os
          rw [hW1]
          clear hW1
          have hB5 := hB0.trans (hB4.mono hB0.size)
          have HO2 := Lib.hid (own_below HO.out hB4 (Nat.le_refl _))
          have hbb := (hB4.block wr.heap.size (Array.getElem?_eq_some_iff.1 hb0).1).trans hb0
          have E3 := Lib.hid (show w2.heap.size ≤ W1.heap.size + 1 from Nat.le_trans hB5.size (Nat.le_succ _))
          go_wp2_with (first | (refine wpList_load_row rfl 28 _ rfl wr.heap.size rfl 28 _ (0, 0) _ hbb Tryz.underlying28 rfl (by kernel_rfl) ?_) | (at_builtin; refine wpList_append_own _ rfl _ _ 22 rfl w2.heap.size 28 i0 _ 2 16 Tryz.underlying22 hi hz0 hz1 hz2 rfl (by decide) _ 0 _ rfl (HO2.out.alloc _) ⟨W1.heap.size, 0, none⟩ 1 1 [.int .i64 r.1, .int .i64 r.2] rfl rfl (new2 W1 _ _ _) (by simp [Value.oneCell']) E1.out E2.out (by simpa using E3.out) ?_; intro v' w4 hown' hgrow hnil'))
          have hlt := HK.out
          have hbl2 : Below w2.heap.size w2 w4 := (hB5.alloc hB5.size _).grown hgrow (by simpa using E3.out) (fun j ej => (HO2.out.lt j ej).1)
          go_roundw
          case rel => exact ⟨k + 1, hlt, by rw [HW.out], by rw [HPT2.out]; exact own_more (l := []) (r := r) hown', hbl2⟩
          case measure => rw [HW.out]; simp only [intOf]; omega
        · subst hv
          clear h3' hc'
          have HPT2 := Lib.hid (HPT.out.trans (put_nil r))
          go_upto_region 8 with fail
          refine wp_region_quiet_below (by kernel_rfl) (by kernel_rfl) ?_
          repeat (go_big_quiet_step (fail))
          refine wpQuiet_nil ?_
          rintro _ ⟨p, rfl⟩
          obtain ⟨W1, hW1⟩ : ∃ W1, Go.Sort.grow (redrawn W0 p.d) p.os = W1 := ⟨_, rfl⟩
          have hB4 : Below W0.heap.size W0 W1 := by rw [← hW1]; exact below_regrown W0 p.d p.os
          rw [hW1]
          clear hW1
          have hB5 := hB0.trans (hB4.mono hB0.size)
          have HO2 := Lib.hid (own_below HO.out hB4 (Nat.le_refl _))
          have hbb := (hB4.block wr.heap.size (Array.getElem?_eq_some_iff.1 hb0).1).trans hb0
          have E3 := Lib.hid (show w2.heap.size ≤ W1.heap.size + 1 from Nat.le_trans hB5.size (Nat.le_succ _))
          go_wp2_with (first | (refine wpList_load_row rfl 28 _ rfl wr.heap.size rfl 28 _ (0, 0) _ hbb Tryz.underlying28 rfl (by kernel_rfl) ?_) | (at_builtin; refine wpList_append_own _ rfl _ _ 22 rfl w2.heap.size 28 i0 _ 2 16 Tryz.underlying22 hi hz0 hz1 hz2 rfl (by decide) _ 0 _ rfl (HO2.out.alloc _) ⟨W1.heap.size, 0, none⟩ 1 1 [.int .i64 r.1, .int .i64 r.2] rfl rfl (new2 W1 _ _ _) (by simp [Value.oneCell']) E1.out E2.out (by simpa using E3.out) ?_; intro v' w4 hown' hgrow hnil'))
          have hlt := HK.out
          have hbl2 : Below w2.heap.size w2 w4 := (hB5.alloc hB5.size _).grown hgrow (by simpa using E3.out) (fun j ej => (HO2.out.lt j ej).1)
          go_roundw
          case rel => exact ⟨k + 1, hlt, by rw [HW.out], by rw [HPT2.out]; exact own_more (l := []) (r := r) hown', hbl2⟩
          case measure => rw [HW.out]; simp only [intOf]; omega
      · rw [List.concat_eq_append] at hm
        subst hm
        obtain ⟨g, cap', hv, hg1, hg2, hn1, hn2⟩ := own_form HO.out (by simp)
        obtain ⟨n, hn⟩ : ∃ n, (mm ++ [q]).length = n := ⟨_, rfl⟩
        rw [hn] at hv
        subst hv
        have hO2 := HO.out
        unfold Own at hO2
        have HO := Lib.hid hO2
        clear hO2
        rw [hn] at HO HLE hn1 E1 E2
        have hnm : n = mm.length + 1 := by rw [← hn]; simp
        have HNM := Lib.hid hn
        have hcl : W0.cell? ⟨g, mm.length * 2 + 1, none⟩ = some (.int .i64 q.2) := by
          rw [HO.out.cellAt (mm.length * 2 + 1) (by omega)]
          exact (rcells_get (mm ++ [q]) mm.length q (by simp)).2
        have hbx0 := (cell_of hb0 0)
        have hbx1 := (cell_of hb0 1)
        have hcl' := fun d os => cell_regrown hcl d os
        have hbx0' : ∀ d os, (Go.Sort.grow (redrawn W0 d) os).cell? ⟨wr.heap.size, 0, none⟩ = some (.int .i64 r.1) := fun d os => cell_regrown hbx0 d os
        have hbx1' : ∀ d os, (Go.Sort.grow (redrawn W0 d) os).cell? ⟨wr.heap.size, 1, none⟩ = some (.int .i64 r.2) := fun d os => cell_regrown hbx1 d os
        have hw1 : wrap64 ((n : Int) - 1) = (mm.length : Int) := by
          rw [wrap_in _ (by have := HLE.out; omega)]; omega
        have hml2 : (mm.length : Int) < n := by omega
        have hpos : 0 < n := by omega
        have dpos : decide (0 < n) = true := decide_eq_true hpos
        have HG1 := Lib.hid hg1
        clear hn hnm hcl hbx0 hbx1 hg1
        have HPS := Lib.hid (HPT.out.trans (put_snoc mm q r))
        by_cases hrq : r.1 ≤ q.2
        · have HPT2 := Lib.hid (HPS.out.trans (if_pos hrq))
          have d1 : decide (r.1 ≤ q.2) = true := decide_eq_true hrq
          go_upto_region 8 with fail
          refine wp_region_quiet_below (by kernel_rfl) (by kernel_rfl) ?_
          repeat (go_big_quiet_step (fail))
          refine wpQuiet_nil ?_
          rintro _ ⟨p, rfl⟩
          obtain ⟨W1, hW1⟩ : ∃ W1, Go.Sort.grow (redrawn W0 p.d) p.os = W1 := ⟨_, rfl⟩
          have hB4 : Below W0.heap.size W0 W1 := by rw [← hW1]; exact below_regrown W0 p.d p.os
          rw [hW1]
          clear hW1
          have hB5 := hB0.trans (hB4.mono hB0.size)
          have HO2 := Lib.hid (own_below HO.out hB4 (Nat.le_refl _))
          have hbb := (hB4.block wr.heap.size (Array.getElem?_eq_some_iff.1 hb0).1).trans hb0
          have E3 := Lib.hid (show w2.heap.size ≤ W1.heap.size + 1 from Nat.le_trans hB5.size (Nat.le_succ _))
          have hcl1 : W1.cell? ⟨g, mm.length * 2 + 1, none⟩ = some (.int .i64 q.2) := by
            rw [HO2.out.cellAt (mm.length * 2 + 1) (by have := HNM.out; simp at this; omega)]
            exact (rcells_get (mm ++ [q]) mm.length q (by simp)).2
          have hbx2 := cell_of hbb 1
          have hcl2 := fun d os => cell_regrown hcl1 d os
          have hbx3 : ∀ d os, (Go.Sort.grow (redrawn W1 d) os).cell? ⟨wr.heap.size, 1, none⟩ = some (.int .i64 r.2) := fun d os => cell_regrown hbx2 d os
          clear hcl1 hbx2
          go_upto_region 9 with fail
          refine region_tail 12 (by kernel_rfl) (by kernel_rfl) ?_
          simp only [List.take_succ_cons, List.take_zero, List.drop_succ_cons, List.drop_zero]
          repeat (go_big_quiet_step (fail))
          refine wpQuiet_nil ?_
          rintro _ ⟨p2, rfl⟩
          obtain ⟨W3, hW3⟩ : ∃ W3, Go.Sort.grow (redrawn W1 p2.d) p2.os = W3 := ⟨_, rfl⟩
          have hB6 : Below W1.heap.size W1 W3 := by rw [← hW3]; exact below_regrown W1 p2.d p2.os
          rw [hW3]
          clear hW3
          have hB7 := hB5.trans (hB6.mono hB5.size)
          have HO3 := Lib.hid (own_below HO2.out hB6 (Nat.le_refl _))
          have hfz := HO3.out.frozenAt (mm.length * 2 + 1)
          have hcl4 : W3.cell? ⟨g, mm.length * 2 + 1, none⟩ = some (.int .i64 q.2) := by
            rw [HO3.out.cellAt (mm.length * 2 + 1) (by have := HNM.out; simp at this; omega)]
            exact (rcells_get (mm ++ [q]) mm.length q (by simp)).2
          go_wp2
          have hlt := HK.out
          go_roundw
          case rel => exact ⟨k + 1, hlt, by rw [HW.out], by rw [HPT2.out]; exact own_last HNM.out.symm (by unfold Own; rw [HNM.out]; exact HO3.out) _, hB7.setCell HG1.out _⟩
          case measure => rw [HW.out]; simp only [intOf]; omega
        · have HPT2 := Lib.hid (HPS.out.trans (if_neg hrq))
          have d1 : decide (r.1 ≤ q.2) = false := decide_eq_false hrq
          go_upto_region 8 with fail
          refine wp_region_quiet_below (by kernel_rfl) (by kernel_rfl) ?_
          repeat (go_big_quiet_step (fail))
          refine wpQuiet_nil ?_
          rintro _ ⟨p, rfl⟩
          obtain ⟨W1, hW1⟩ : ∃ W1, Go.Sort.grow (redrawn W0 p.d) p.os = W1 := ⟨_, rfl⟩
          have hB4 : Below W0.heap.size W0 W1 := by rw [← hW1]; exact below_regrown W0 p.d p.os
          rw [hW1]
          clear hW1
          have hB5 := hB0.trans (hB4.mono hB0.size)
          have HO2 := Lib.hid (own_below HO.out hB4 (Nat.le_refl _))
          have hbb := (hB4.block wr.heap.size (Array.getElem?_eq_some_iff.1 hb0).1).trans hb0
          have E3 := Lib.hid (show w2.heap.size ≤ W1.heap.size + 1 from Nat.le_trans hB5.size (Nat.le_succ _))
          go_wp2_with (first | (refine wpList_load_row rfl 28 _ rfl wr.heap.size rfl 28 _ (0, 0) _ hbb Tryz.underlying28 rfl (by kernel_rfl) ?_) | (at_builtin; refine wpList_append_own _ rfl _ _ 22 rfl w2.heap.size 28 i0 _ 2 16 Tryz.underlying22 hi hz0 hz1 hz2 rfl (by decide) _ _ _ rfl (HO2.out.alloc _) ⟨W1.heap.size, 0, none⟩ 1 1 [.int .i64 r.1, .int .i64 r.2] rfl rfl (new2 W1 _ _ _) (by simp [Value.oneCell']) E1.out E2.out (by simpa using E3.out) ?_; intro v' w4 hown' hgrow hnil'))
          have hlt := HK.out
          have hbl2 : Below w2.heap.size w2 w4 := (hB5.alloc hB5.size _).grown hgrow (by simpa using E3.out) (fun j ej => (HO2.out.lt j ej).1)
          go_roundw
          case rel => exact ⟨k + 1, hlt, by rw [HW.out], by rw [HPT2.out]; exact own_more (l := mm ++ [q]) (r := r) (by rw [HNM.out]; exact hown'), hbl2⟩
          case measure => rw [HW.out]; simp only [intOf]; omega
    · have hlt' : ¬ (k : Int) < m.length := by omega
      rw [List.take_of_length_le (by omega)] at hO
      have HO := Lib.hid hO
      clear hO
      go_wp2
      go_ret
      exact ⟨_, rfl, m, HP.out, HR.out, own_mono HO.out (Nat.le_trans hsz1 hsz2), hB3.trans (hBr.mono (Nat.le_trans hsz1 hsz2))⟩
end Go.Proofs.YtapojgbiboeaiaaGreatDoor
