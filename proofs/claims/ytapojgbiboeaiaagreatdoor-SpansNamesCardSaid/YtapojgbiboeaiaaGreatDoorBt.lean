/- The iterator of both gives the ranges that two sets share, in their order. Conditions: the captured variables' blocks hold the two slices, whose cells are in the blocks that the rounds leave. -/
import Derived.Test.YtapojgbiboeaiaaGreatDoorQt
import Derived.Test.YtapojgbiboeaiaaGreatDoorOw
import Derived.WalkSpells
import Derived.WalkLawsBesides
import Derived.KernelRfl
import Derived.Outline
import Derived.OwnWalkIn
import Derived.TacticsInMore
import Derived.LoopNIn
import Derived.LoopIn
import Derived.Sort.CutIn
import Derived.Deep.RegionHeld3
import Derived.WalkMore
namespace Go.Proofs.YtapojgbiboeaiaaGreatDoor
set_option linter.unusedVariables false
set_option linter.unusedSimpArgs false
open Go.RowKit Rng
/-- The two sets' shared ranges, at most n steps. -/
def bothN : Nat → List (Int × Int) → List (Int × Int) → List (Int × Int)
  | 0, _, _ => []
  | _ + 1, [], _ => []
  | _ + 1, _ :: _, [] => []
  | n + 1, r :: l, q :: m => (if max r.1 q.1 < min r.2 q.2 then [(max r.1 q.1, min r.2 q.2)] else []) ++ if r.2 < q.2 then bothN n l (q :: m) else bothN n (r :: l) m
theorem bothN_nil (n : Nat) (m : List (Int × Int)) : bothN n [] m = [] := by cases n <;> rfl
theorem bothN_nil2 (n : Nat) (l : List (Int × Int)) : bothN n l [] = [] := by cases n <;> cases l <;> rfl
theorem bothN_cons (r q : Int × Int) (l m : List (Int × Int)) : bothN ((r :: l).length + (q :: m).length) (r :: l) (q :: m) =
    (if max r.1 q.1 < min r.2 q.2 then [(max r.1 q.1, min r.2 q.2)] else []) ++ if r.2 < q.2 then bothN (l.length + (q :: m).length) l (q :: m) else bothN ((r :: l).length + m.length) (r :: l) m := by
  have e1 : (r :: l).length + (q :: m).length = (l.length + m.length + 1) + 1 := by simp; omega
  have e2 : l.length + (q :: m).length = l.length + m.length + 1 := by simp; omega
  have e3 : (r :: l).length + m.length = l.length + m.length + 1 := by simp; omega
  rw [e1, e2, e3]
  rfl
/-- The length that a variable's slice has. -/
def lenAt (W : World) (b : Nat) : Nat := match W.cell? ⟨b, 0, none⟩ with | some (.slice _ n _) => n | _ => 0
def rgEnc (r : Int × Int) : Array Value := #[.agg #[.int .i64 r.1, .int .i64 r.2]]
/-- The captured variables hold the two slices. -/
def TwoAt (PA PB B : Nat) (l m : List (Int × Int)) (W : World) : Prop :=
  ∃ va vb, W.heap[PA]? = some (.cells #[va] 22 (0, 0)) ∧ W.heap[PB]? = some (.cells #[vb] 22 (0, 0)) ∧ Rd B W va l ∧ Rd B W vb m
theorem rd_same {B : Nat} {W W' : World} {v : Value} {l : List (Int × Int)} (h : Rd B W v l) (hb : ∀ k, k < B → W'.heap[k]? = W.heap[k]?) : Rd B W' v l := by
  obtain ⟨ao, cap, hv, h1, h2, h3⟩ := h
  refine ⟨ao, cap, hv, h1, h2, fun i r hr => ?_⟩
  obtain ⟨b, o, hx, hB, c1, c2⟩ := h3 i r hr
  exact ⟨b, o, hx, hB, (World.cell?_of_block (w := W) (hb b hB)).trans c1, (World.cell?_of_block (w := W) (hb b hB)).trans c2⟩
abbrev keepL (PA PB B : Nat) : List Nat := PA :: PB :: List.range B
theorem TwoAt.of_same {PA PB B : Nat} {l m : List (Int × Int)} {W W' : World} (h : TwoAt PA PB B l m W) (hs : Same (keepL PA PB B) W W') : TwoAt PA PB B l m W' := by
  obtain ⟨va, vb, h1, h2, h3, h4⟩ := h
  have hb : ∀ k, k < B → W'.heap[k]? = W.heap[k]? := fun k hk => hs k (by simp [hk])
  exact ⟨va, vb, (hs PA (by simp)).trans h1, (hs PB (by simp)).trans h2, rd_same h3 hb, rd_same h4 hb⟩
theorem keepL_lt {PA PB B : Nat} {w : World} (h1 : B ≤ PA) (h2 : PA < w.heap.size) (h3 : PB < w.heap.size) : ∀ k, k ∈ keepL PA PB B → k < w.heap.size := by
  intro k hk
  simp only [keepL, List.mem_cons, List.mem_range] at hk
  omega
theorem grown_ad (w : World) (o : Obj) : w.grownBy (w.alloc o).drew none :=
  have h := World.grownBy_alloc w o none
  ⟨h.os, h.tape, h.output, h.size, h.block⟩
theorem rd_tail0 {B b o : Nat} {W : World} {r : Int × Int} {l : List (Int × Int)} (h : Rd B W (.slice (some ⟨b, o, none⟩) (r :: l).length 1) (r :: l)) : Rd B W (.slice (some ⟨b, o, none⟩) 0 0) l := by
  obtain ⟨ao, cap, hv, h1, h2, h3⟩ := h
  simp only [Value.slice.injEq] at hv
  obtain ⟨rfl, -, rfl⟩ := hv
  have hl : l = [] := List.eq_nil_of_length_eq_zero (by have := h1; simp only [List.length_cons] at this; omega)
  subst hl
  exact ⟨_, 0, rfl, Nat.le_refl _, by unfold maxLen; omega, fun i r hr => by simp at hr⟩
theorem rd_tail1 {B b o c : Nat} {W : World} {r : Int × Int} {l : List (Int × Int)} {n : Nat} (h : Rd B W (.slice (some ⟨b, o, none⟩) (r :: l).length c) (r :: l)) (hc : c ≠ 1) (hn : (r :: l).length = n) : Rd B W (.slice (some ⟨b, o + 2, none⟩) (n - 1) (c - 1)) l := by
  subst hn
  obtain ⟨ao, cap, hv, h1, h2, h3⟩ := h
  simp only [Value.slice.injEq] at hv
  obtain ⟨rfl, -, rfl⟩ := hv
  simp only [List.length_cons] at h1
  refine ⟨some ⟨b, o + 2, none⟩, c - 1, by simp, by omega, by omega, fun i q hq => ?_⟩
  obtain ⟨b', o', hx, hB, c1, c2⟩ := h3 (i + 1) q (by simpa using hq)
  simp only [Option.some.injEq, Addr.mk.injEq, and_true] at hx
  obtain ⟨rfl, rfl⟩ := hx
  refine ⟨_, _, rfl, hB, ?_, ?_⟩
  · rw [← c1]; congr 2; omega
  · rw [← c2]; congr 2; omega
theorem two_setA {PA PB B : Nat} {Y : World} {va vb v : Value} {l m : List (Int × Int)} (hAB : PA < PB) (hBA : B ≤ PA) (yA : Y.heap[PA]? = some (.cells #[va] 22 (0, 0))) (yB : Y.heap[PB]? = some (.cells #[vb] 22 (0, 0)))
    (hv : Rd B Y v l) (hb : Rd B Y vb m) : TwoAt PA PB B l m (Y.setCell ⟨PA, 0, none⟩ v) :=
  have hk : ∀ k, k < B → (Y.setCell ⟨PA, 0, none⟩ v).heap[k]? = Y.heap[k]? := fun k hk => Below.heap_setCell _ _ _ _ (by simp; omega)
  ⟨v, vb, (heap_setCell_same _ _ _ _ _ _ yA).trans rfl, (Below.heap_setCell _ _ _ _ (by simp; omega)).trans yB, rd_same hv hk, rd_same hb hk⟩
theorem two_setB {PA PB B : Nat} {Y : World} {va vb v : Value} {l m : List (Int × Int)} (hAB : PA < PB) (hBA : B ≤ PA) (yA : Y.heap[PA]? = some (.cells #[va] 22 (0, 0))) (yB : Y.heap[PB]? = some (.cells #[vb] 22 (0, 0)))
    (ha : Rd B Y va l) (hv : Rd B Y v m) : TwoAt PA PB B l m (Y.setCell ⟨PB, 0, none⟩ v) :=
  have hk : ∀ k, k < B → (Y.setCell ⟨PB, 0, none⟩ v).heap[k]? = Y.heap[k]? := fun k hk => Below.heap_setCell _ _ _ _ (by simp; omega)
  ⟨va, v, (Below.heap_setCell _ _ _ _ (by simp; omega)).trans yA, (heap_setCell_same _ _ _ _ _ _ yB).trans rfl, rd_same ha hk, rd_same hv hk⟩
theorem lenAt_of {W : World} {b n c : Nat} {ao : Option Addr} {t : TypeId} {fr : Nat × Nat} (h : W.heap[b]? = some (.cells #[.slice ao n c] t fr)) : lenAt W b = n := by
  unfold lenAt
  rw [cell_of h]
  rfl
theorem len_setA {PA PB : Nat} {Y : World} {va : Value} {n c n' c' : Nat} {ao ao' : Option Addr} (hAB : PA < PB) (yA : Y.heap[PA]? = some (.cells #[va] 22 (0, 0))) (yB : Y.heap[PB]? = some (.cells #[.slice ao n c] 22 (0, 0))) :
    lenAt (Y.setCell ⟨PA, 0, none⟩ (.slice ao' n' c')) PA + lenAt (Y.setCell ⟨PA, 0, none⟩ (.slice ao' n' c')) PB = n' + n := by
  rw [lenAt_of ((heap_setCell_same _ _ _ _ _ _ yA).trans rfl), lenAt_of ((Below.heap_setCell _ _ _ _ (by simp; omega)).trans yB)]
theorem len_setB {PA PB : Nat} {Y : World} {vb : Value} {n c n' c' : Nat} {ao ao' : Option Addr} (hAB : PA < PB) (yA : Y.heap[PA]? = some (.cells #[.slice ao n c] 22 (0, 0))) (yB : Y.heap[PB]? = some (.cells #[vb] 22 (0, 0))) :
    lenAt (Y.setCell ⟨PB, 0, none⟩ (.slice ao' n' c')) PA + lenAt (Y.setCell ⟨PB, 0, none⟩ (.slice ao' n' c')) PB = n + n' := by
  rw [lenAt_of ((Below.heap_setCell _ _ _ _ (by simp; omega)).trans yA), lenAt_of ((heap_setCell_same _ _ _ _ _ _ yB).trans rfl)]
/-- A piece of code that ends in one way: walked once, whatever orders are drawn. -/
theorem wp_one {P : Program} {c : Code} {Q : Exit → Act → World → Prop} {a a' : Act} {w w' : World} (hn : Q .normal a' w') (h : c.wp P (fun e x y => e = .normal ∧ x = a' ∧ y = w') a w) : c.wp P Q a w :=
  Code.wp_mono (fun e x y ⟨h1, h2, h3⟩ => by subst h1 h2 h3; exact hn) h
set_option maxRecDepth 100000 in
set_option maxHeartbeats 4000000 in
theorem both1_iter (PA PB B : Nat) (hBA : B ≤ PA) (hAB : PA < PB) (l m : List (Int × Int)) :
    Iter Tryz.prog 8 34 #[.pointer (some ⟨PA, 0, none⟩), .pointer (some ⟨PB, 0, none⟩)] rgEnc [PA, PB] (keepL PA PB B) (TwoAt PA PB B l m) (bothN (l.length + m.length) l m) := by
  intro y J Jx W hH hJ hJx hY h0
  refine callsIn_of_wp Tryz.func34 rfl trivial ?_ rfl
  simp only [Tryz.ntmps34, List.size_toArray, List.length_cons, List.length_nil, Nat.reduceAdd, Nat.reduceSub, Array.replicate_succ, Array.replicate_zero, List.push_toArray, List.append_toArray, List.nil_append, List.cons_append]
  refine wpIn_wide.2 ?_
  go_step3
  go_wp2_with fail
  go_step3
  go_wp2_with fail
  refine (wpIn_wide (n := 9)).1 ?_
  gi_loopw [] (fun wr => ∃ l' m' pre, TwoAt PA PB B l' m' wr ∧ bothN (l.length + m.length) l m = pre ++ bothN (l'.length + m'.length) l' m' ∧ J pre wr) (fun wr => lenAt wr PA + lenAt wr PB)
  case atStart => exact ⟨l, m, [], hH, rfl, h0⟩
  case round =>
    clear hH h0
    obtain ⟨l', m', pre, hT, hL, hJp⟩ := hrel
    have HT := Lib.hid hT
    obtain ⟨va, vb, hA, hB, hRa, hRb⟩ := hT
    have hcA := cell_of hA 0
    have hcB := cell_of hB 0
    have HA := Lib.hid hA
    have HB := Lib.hid hB
    have HJ := Lib.hid hJp
    have HRa := Lib.hid hRa
    have HRb := Lib.hid hRb
    have hsA := (Array.getElem?_eq_some_iff.1 hA).1
    have hsB := (Array.getElem?_eq_some_iff.1 hB).1
    obtain ⟨aa, ca, rfl, a1, a2, a3⟩ := hRa
    obtain ⟨ab, cb, rfl, b1, b2, b3⟩ := hRb
    clear hA hB hJp
    cases l' with
    | nil =>
      clear a3 b3
      gi_wp2
      rw [Exit.noGoto_normal]
      refine bodyPost_end (results_none rfl _ _ _) rfl ?_
      exact ⟨⟨_, rfl⟩, .inl (by rw [hL, bothN_nil, List.append_nil]; exact HJ.out)⟩
    | cons r l' =>
      cases m' with
      | nil =>
        clear a3 b3
        gi_wp2
        rw [Exit.noGoto_normal]
        refine bodyPost_end (results_none rfl _ _ _) rfl ?_
        exact ⟨⟨_, rfl⟩, .inl (by rw [hL, bothN_nil2, List.append_nil]; exact HJ.out)⟩
      | cons q m' =>
        obtain ⟨ba, oa, rfl, hba, ea1, ea2⟩ := a3 0 r rfl
        obtain ⟨bb, ob, rfl, hbb, eb1, eb2⟩ := b3 0 q rfl
        rw [Nat.zero_mul, Nat.add_zero] at ea1 ea2 eb1 eb2
        obtain ⟨la, hla⟩ : ∃ la, (r :: l').length = la := ⟨_, rfl⟩
        obtain ⟨lb, hlb⟩ : ∃ lb, (q :: m').length = lb := ⟨_, rfl⟩
        have hmA : lenAt wr PA = la := by rw [lenAt_of HA.out, hla]
        have hmB : lenAt wr PB = lb := by rw [lenAt_of HB.out, hlb]
        have hla0 : 0 < la := by rw [← hla]; simp
        have hlb0 : 0 < lb := by rw [← hlb]; simp
        rw [hla] at hcA a1
        rw [hlb] at hcB b1
        clear a3 b3
        gi_upto_region 1 with fail
        refine wpIn_wide.2 ?_
        have HS : ∀ W', Below wr.heap.size wr W' → W'.cell? ⟨PA, 0, none⟩ = some (.slice (some ⟨ba, oa, none⟩) la ca) ∧ W'.cell? ⟨PB, 0, none⟩ = some (.slice (some ⟨bb, ob, none⟩) lb cb) ∧ W'.cell? ⟨ba, oa, none⟩ = some (.int .i64 r.1) ∧ W'.cell? ⟨ba, oa + 1, none⟩ = some (.int .i64 r.2) ∧ W'.cell? ⟨bb, ob, none⟩ = some (.int .i64 q.1) ∧ W'.cell? ⟨bb, ob + 1, none⟩ = some (.int .i64 q.2) := fun W' hW' => ⟨(hW'.cell hsA).trans hcA, (hW'.cell hsB).trans hcB, (hW'.cell (p := ⟨ba, oa, none⟩) (World.block_lt_of_cell? _ _ ea1)).trans ea1, (hW'.cell (p := ⟨ba, oa + 1, none⟩) (World.block_lt_of_cell? _ _ ea2)).trans ea2, (hW'.cell (p := ⟨bb, ob, none⟩) (World.block_lt_of_cell? _ _ eb1)).trans eb1, (hW'.cell (p := ⟨bb, ob + 1, none⟩) (World.block_lt_of_cell? _ _ eb2)).trans eb2⟩
        have HSS := Lib.hid HS
        have HY := Lib.hid hY
        have HJ1 := Lib.hid hJ
        have HL := Lib.hid hL
        clear HS hY hJ hL
        apply wp_one
        case h =>
          go_region_held3 (fun W' => W'.cell? ⟨PA, 0, none⟩ = some (.slice (some ⟨ba, oa, none⟩) la ca) ∧ W'.cell? ⟨PB, 0, none⟩ = some (.slice (some ⟨bb, ob, none⟩) lb cb) ∧ W'.cell? ⟨ba, oa, none⟩ = some (.int .i64 r.1) ∧ W'.cell? ⟨ba, oa + 1, none⟩ = some (.int .i64 r.2) ∧ W'.cell? ⟨bb, ob, none⟩ = some (.int .i64 q.1) ∧ W'.cell? ⟨bb, ob + 1, none⟩ = some (.int .i64 q.2)) (first | exact HSS.out _ (Below.refl _ _).drew | exact HSS.out _ ((Below.refl _ _).drew.alloc (Nat.le_refl _) _)) (fail)
          all_goals exact ⟨rfl, rfl, rfl⟩
        have e1 : (if r.1 < q.1 then q.1 else r.1) = max r.1 q.1 := by split <;> omega
        have e2 : (if q.2 < r.2 then q.2 else r.2) = min r.2 q.2 := by split <;> omega
        rw [e1, e2]
        clear e1 e2
        obtain ⟨x1, hx1⟩ : ∃ x, max r.1 q.1 = x := ⟨_, rfl⟩
        obtain ⟨x2, hx2⟩ : ∃ x, min r.2 q.2 = x := ⟨_, rfl⟩
        have hcons := bothN_cons r q l' m'
        rw [hx1, hx2] at hcons ⊢
        rw [hcons] at HL
        have HSM := Lib.hid (show Same (keepL PA PB B) wr (wr.alloc (.cells #[.int .i64 x1, .int .i64 x2] 28)).drew from Same.grown (grown_ad wr _) (keepL_lt hBA hsA hsB) (fun r e => by cases e))
        have HJ2 := Lib.hid (show J pre (wr.alloc (.cells #[.int .i64 x1, .int .i64 x2] 28)).drew from HJ1.out pre wr _ none HJ.out (grown_ad wr _) (fun r e => by cases e))
        clear hx1 hx2 hcons ea1 ea2 eb1 eb2 hcA hcB
        by_cases hx : x1 < x2
        · rw [if_pos hx] at HL
          have HL2 := Lib.hid HL.out
          rw [List.cons_append, List.nil_append] at HL2
          obtain ⟨fn, tmps, assign, body, hy, hR⟩ := HY.out _ _ _ _ HL2.out HJ2.out
          simp only [rgEnc] at hy
          gi_wp2
          refine hR.mono ?_
          rintro e' W3 (⟨rfl, hJ3, hk3⟩ | ⟨rfl, hJx3⟩)
          · gi_upto_region 3 with fail
            have HS3 := Lib.hid (HSM.out.trans hk3)
            have HJ3 := Lib.hid hJ3
            have HL3 := Lib.hid (show bothN (l.length + m.length) l m = (pre ++ [(x1, x2)]) ++ (if r.2 < q.2 then bothN (l'.length + (q :: m').length) l' (q :: m') else bothN ((r :: l').length + m'.length) (r :: l') m') by rw [List.append_assoc]; exact HL2.out)
            clear HL HL2 HSM HJ2 hy hR hJ3 hk3
            have hTX := HT.out.of_same HS3.out
            clear hsA hsB
            obtain ⟨va, vb, hA, hB, hRa, hRb⟩ := hTX
            have hcA := cell_of hA 0
            have hcB := cell_of hB 0
            have HA := Lib.hid hA
            have HB := Lib.hid hB
            have HRa := Lib.hid hRa
            have HRb := Lib.hid hRb
            have hsA := (Array.getElem?_eq_some_iff.1 hA).1
            have hsB := (Array.getElem?_eq_some_iff.1 hB).1
            obtain ⟨aa, ca, rfl, a1, a2, a3⟩ := hRa
            obtain ⟨ab, cb, rfl, b1, b2, b3⟩ := hRb
            obtain ⟨ba, oa, rfl, hba, ea1, ea2⟩ := a3 0 r rfl
            obtain ⟨bb, ob, rfl, hbb, eb1, eb2⟩ := b3 0 q rfl
            have A3 := Lib.hid a3
            have B3 := Lib.hid b3
            rw [Nat.zero_mul, Nat.add_zero] at ea1 ea2 eb1 eb2
            rw [hla] at hcA a1
            rw [hlb] at hcB b1
            clear a3 b3 hA hB
            have HSS := Lib.hid (show ∀ W', Below W3.heap.size W3 W' → W'.cell? ⟨PA, 0, none⟩ = some (.slice (some ⟨ba, oa, none⟩) la ca) ∧ W'.cell? ⟨PB, 0, none⟩ = some (.slice (some ⟨bb, ob, none⟩) lb cb) ∧ W'.cell? ⟨ba, oa + 1, none⟩ = some (.int .i64 r.2) ∧ W'.cell? ⟨bb, ob + 1, none⟩ = some (.int .i64 q.2) from fun W' hW' => ⟨(hW'.cell hsA).trans hcA, (hW'.cell hsB).trans hcB, (hW'.cell (p := ⟨ba, oa + 1, none⟩) (World.block_lt_of_cell? _ _ ea2)).trans ea2, (hW'.cell (p := ⟨bb, ob + 1, none⟩) (World.block_lt_of_cell? _ _ eb2)).trans eb2⟩)
            refine wpIn_wide.2 ?_
            apply wp_one
            case h =>
              go_region_held3 (fun W' => W'.cell? ⟨PA, 0, none⟩ = some (.slice (some ⟨ba, oa, none⟩) la ca) ∧ W'.cell? ⟨PB, 0, none⟩ = some (.slice (some ⟨bb, ob, none⟩) lb cb) ∧ W'.cell? ⟨ba, oa + 1, none⟩ = some (.int .i64 r.2) ∧ W'.cell? ⟨bb, ob + 1, none⟩ = some (.int .i64 q.2)) (exact HSS.out _ (Below.refl _ _).drew) (fail)
              all_goals exact ⟨rfl, rfl, rfl⟩
            obtain ⟨Y, hY⟩ : ∃ Y, W3.drew = Y := ⟨_, rfl⟩
            have jJ := HJ3.out
            have jY : J _ Y := HJ1.out _ W3 Y none jJ (by rw [← hY]; exact ⟨rfl, rfl, rfl, Nat.le_refl _, fun _ _ _ => rfl⟩) (fun r e => by cases e)
            have yA : Y.heap[PA]? = some (.cells #[.slice (some ⟨ba, oa, none⟩) la ca] 22 (0, 0)) := by rw [← hY]; have := HA.out; rw [hla] at this; exact this
            have yB : Y.heap[PB]? = some (.cells #[.slice (some ⟨bb, ob, none⟩) lb cb] 22 (0, 0)) := by rw [← hY]; have := HB.out; rw [hlb] at this; exact this
            have yRa : Rd B Y (.slice (some ⟨ba, oa, none⟩) (r :: l').length ca) (r :: l') := by rw [← hY]; exact HRa.out
            have yRb : Rd B Y (.slice (some ⟨bb, ob, none⟩) (q :: m').length cb) (q :: m') := by rw [← hY]; exact HRb.out
            rw [hY]
            clear hY HSS HA HB HRa HRb hcA hcB ea1 ea2 eb1 eb2 jJ A3 B3
            have hcA := cell_of yA 0
            have hcB := cell_of yB 0
            have hfA := frozen_of_row _ PA 0 _ _ yA
            have hfB := frozen_of_row _ PB 0 _ _ yB
            have KA := Lib.hid yA
            have KB := Lib.hid yB
            have KRa := Lib.hid yRa
            have KRb := Lib.hid yRb
            have KJ := Lib.hid jY
            have KRa2 := KRa.out
            have KRb2 := KRb.out
            rw [hla] at KRa2
            rw [hlb] at KRb2
            have KRa2 := Lib.hid KRa2
            have KRb2 := Lib.hid KRb2
            have hla1 : (1 : Int) ≤ la := by omega
            have hlb1 : (1 : Int) ≤ lb := by omega
            clear yA yB yRa yRb jY
            by_cases hlt : r.2 < q.2
            · have hLX := HL3.out
              rw [if_pos hlt] at hLX
              by_cases hc1 : ca = 1
              · subst hc1
                gi_wp2
                go_roundw
                case rel => exact ⟨_, _, _, two_setA hAB hBA KA.out KB.out (rd_tail0 KRa.out) KRb2.out, hLX, HJ1.out _ Y _ (some PA) KJ.out (grownBy_setCell' Y PA _) (fun r e => by cases e; simp)⟩
                case measure =>
                  rw [hmA, hmB, len_setA hAB KA.out KB.out]
                  have := hla; have := hlb; simp only [List.length_cons] at *; omega
              · gi_wp2
                go_roundw
                case rel => exact ⟨_, _, _, two_setA hAB hBA KA.out KB.out (rd_tail1 KRa.out hc1 hla) KRb2.out, hLX, HJ1.out _ Y _ (some PA) KJ.out (grownBy_setCell' Y PA _) (fun r e => by cases e; simp)⟩
                case measure =>
                  rw [hmA, hmB, len_setA hAB KA.out KB.out]
                  have := hla; have := hlb; simp only [List.length_cons] at *; omega
            · have hLX := HL3.out
              rw [if_neg hlt] at hLX
              by_cases hc1 : cb = 1
              · subst hc1
                gi_wp2
                go_roundw
                case rel => exact ⟨_, _, _, two_setB hAB hBA KA.out KB.out KRa2.out (rd_tail0 KRb.out), hLX, HJ1.out _ Y _ (some PB) KJ.out (grownBy_setCell' Y PB _) (fun r e => by cases e; simp)⟩
                case measure =>
                  rw [hmA, hmB, len_setB hAB KA.out KB.out]
                  have := hla; have := hlb; simp only [List.length_cons] at *; omega
              · gi_wp2
                go_roundw
                case rel => exact ⟨_, _, _, two_setB hAB hBA KA.out KB.out KRa2.out (rd_tail1 KRb.out hc1 hlb), hLX, HJ1.out _ Y _ (some PB) KJ.out (grownBy_setCell' Y PB _) (fun r e => by cases e; simp)⟩
                case measure =>
                  rw [hmA, hmB, len_setB hAB KA.out KB.out]
                  have := hla; have := hlb; simp only [List.length_cons] at *; omega
          · gi_wp2
            rw [Exit.noGoto_normal]
            refine bodyPost_end (results_none rfl _ _ _) rfl ?_
            exact ⟨⟨_, rfl⟩, .inr ⟨_, _, by rw [HL2.out, ← List.append_cons], hJx3⟩⟩
        · rw [if_neg hx, List.nil_append] at HL
          gi_upto_region 3 with fail
          refine ⟨(fun _ h => by cases h), ?_⟩
          gi_upto_region 3 with fail
          obtain ⟨X, hX⟩ : ∃ X, (wr.alloc (.cells #[.int .i64 x1, .int .i64 x2] 28)).drew = X := ⟨_, rfl⟩
          rw [hX] at HSM HJ2 ⊢
          clear hX
          have hTX := HT.out.of_same HSM.out
          clear hsA hsB
          obtain ⟨va, vb, hA, hB, hRa, hRb⟩ := hTX
          have hcA := cell_of hA 0
          have hcB := cell_of hB 0
          have HA := Lib.hid hA
          have HB := Lib.hid hB
          have HRa := Lib.hid hRa
          have HRb := Lib.hid hRb
          have hsA := (Array.getElem?_eq_some_iff.1 hA).1
          have hsB := (Array.getElem?_eq_some_iff.1 hB).1
          obtain ⟨aa, ca, rfl, a1, a2, a3⟩ := hRa
          obtain ⟨ab, cb, rfl, b1, b2, b3⟩ := hRb
          obtain ⟨ba, oa, rfl, hba, ea1, ea2⟩ := a3 0 r rfl
          obtain ⟨bb, ob, rfl, hbb, eb1, eb2⟩ := b3 0 q rfl
          have A3 := Lib.hid a3
          have B3 := Lib.hid b3
          rw [Nat.zero_mul, Nat.add_zero] at ea1 ea2 eb1 eb2
          rw [hla] at hcA a1
          rw [hlb] at hcB b1
          clear a3 b3 hA hB
          have HSS := Lib.hid (show ∀ W', Below X.heap.size X W' → W'.cell? ⟨PA, 0, none⟩ = some (.slice (some ⟨ba, oa, none⟩) la ca) ∧ W'.cell? ⟨PB, 0, none⟩ = some (.slice (some ⟨bb, ob, none⟩) lb cb) ∧ W'.cell? ⟨ba, oa + 1, none⟩ = some (.int .i64 r.2) ∧ W'.cell? ⟨bb, ob + 1, none⟩ = some (.int .i64 q.2) from fun W' hW' => ⟨(hW'.cell hsA).trans hcA, (hW'.cell hsB).trans hcB, (hW'.cell (p := ⟨ba, oa + 1, none⟩) (World.block_lt_of_cell? _ _ ea2)).trans ea2, (hW'.cell (p := ⟨bb, ob + 1, none⟩) (World.block_lt_of_cell? _ _ eb2)).trans eb2⟩)
          refine wpIn_wide.2 ?_
          apply wp_one
          case h =>
            go_region_held3 (fun W' => W'.cell? ⟨PA, 0, none⟩ = some (.slice (some ⟨ba, oa, none⟩) la ca) ∧ W'.cell? ⟨PB, 0, none⟩ = some (.slice (some ⟨bb, ob, none⟩) lb cb) ∧ W'.cell? ⟨ba, oa + 1, none⟩ = some (.int .i64 r.2) ∧ W'.cell? ⟨bb, ob + 1, none⟩ = some (.int .i64 q.2)) (exact HSS.out _ (Below.refl _ _).drew) (fail)
            all_goals exact ⟨rfl, rfl, rfl⟩
          obtain ⟨Y, hY⟩ : ∃ Y, X.drew = Y := ⟨_, rfl⟩
          have jJ := HJ2.out
          have jY : J _ Y := HJ1.out _ X Y none jJ (by rw [← hY]; exact ⟨rfl, rfl, rfl, Nat.le_refl _, fun _ _ _ => rfl⟩) (fun r e => by cases e)
          have yA : Y.heap[PA]? = some (.cells #[.slice (some ⟨ba, oa, none⟩) la ca] 22 (0, 0)) := by rw [← hY]; have := HA.out; rw [hla] at this; exact this
          have yB : Y.heap[PB]? = some (.cells #[.slice (some ⟨bb, ob, none⟩) lb cb] 22 (0, 0)) := by rw [← hY]; have := HB.out; rw [hlb] at this; exact this
          have yRa : Rd B Y (.slice (some ⟨ba, oa, none⟩) (r :: l').length ca) (r :: l') := by rw [← hY]; exact HRa.out
          have yRb : Rd B Y (.slice (some ⟨bb, ob, none⟩) (q :: m').length cb) (q :: m') := by rw [← hY]; exact HRb.out
          rw [hY]
          clear hY HSS HA HB HRa HRb hcA hcB ea1 ea2 eb1 eb2 jJ A3 B3
          have hcA := cell_of yA 0
          have hcB := cell_of yB 0
          have hfA := frozen_of_row _ PA 0 _ _ yA
          have hfB := frozen_of_row _ PB 0 _ _ yB
          have KA := Lib.hid yA
          have KB := Lib.hid yB
          have KRa := Lib.hid yRa
          have KRb := Lib.hid yRb
          have KJ := Lib.hid jY
          have KRa2 := KRa.out
          have KRb2 := KRb.out
          rw [hla] at KRa2
          rw [hlb] at KRb2
          have KRa2 := Lib.hid KRa2
          have KRb2 := Lib.hid KRb2
          have hla1 : (1 : Int) ≤ la := by omega
          have hlb1 : (1 : Int) ≤ lb := by omega
          clear yA yB yRa yRb jY
          by_cases hlt : r.2 < q.2
          · have hLX := HL.out
            rw [if_pos hlt] at hLX
            by_cases hc1 : ca = 1
            · subst hc1
              gi_wp2
              go_roundw
              case rel => exact ⟨_, _, _, two_setA hAB hBA KA.out KB.out (rd_tail0 KRa.out) KRb2.out, hLX, HJ1.out _ Y _ (some PA) KJ.out (grownBy_setCell' Y PA _) (fun r e => by cases e; simp)⟩
              case measure =>
                rw [hmA, hmB, len_setA hAB KA.out KB.out]
                have := hla; have := hlb; simp only [List.length_cons] at *; omega
            · gi_wp2
              go_roundw
              case rel => exact ⟨_, _, _, two_setA hAB hBA KA.out KB.out (rd_tail1 KRa.out hc1 hla) KRb2.out, hLX, HJ1.out _ Y _ (some PA) KJ.out (grownBy_setCell' Y PA _) (fun r e => by cases e; simp)⟩
              case measure =>
                rw [hmA, hmB, len_setA hAB KA.out KB.out]
                have := hla; have := hlb; simp only [List.length_cons] at *; omega
          · have hLX := HL.out
            rw [if_neg hlt] at hLX
            by_cases hc1 : cb = 1
            · subst hc1
              gi_wp2
              go_roundw
              case rel => exact ⟨_, _, _, two_setB hAB hBA KA.out KB.out KRa2.out (rd_tail0 KRb.out), hLX, HJ1.out _ Y _ (some PB) KJ.out (grownBy_setCell' Y PB _) (fun r e => by cases e; simp)⟩
              case measure =>
                rw [hmA, hmB, len_setB hAB KA.out KB.out]
                have := hla; have := hlb; simp only [List.length_cons] at *; omega
            · gi_wp2
              go_roundw
              case rel => exact ⟨_, _, _, two_setB hAB hBA KA.out KB.out KRa2.out (rd_tail1 KRb.out hc1 hlb), hLX, HJ1.out _ Y _ (some PB) KJ.out (grownBy_setCell' Y PB _) (fun r e => by cases e; simp)⟩
              case measure =>
                rw [hmA, hmB, len_setB hAB KA.out KB.out]
                have := hla; have := hlb; simp only [List.length_cons] at *; omega
end Go.Proofs.YtapojgbiboeaiaaGreatDoor
