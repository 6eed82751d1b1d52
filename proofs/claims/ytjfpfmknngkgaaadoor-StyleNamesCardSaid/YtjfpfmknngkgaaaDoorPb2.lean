/- Parse: one line. Conditions: as they stand. -/
import Derived.Test.YtjfpfmknngkgaaaDoorPb1
import Derived.Test.YtjfpfmknngkgaaaDoorQt
import Derived.BigQuiet
import Derived.StillTail
import Derived.Deep.Quiet
import Derived.Deep.QuietTactic
import Derived.Lib.QuietBelow
import Derived.OrdersIn
import Derived.OwnWalkIn
import Derived.Laws.Rows
namespace Go.Proofs.YtjfpfmknngkgaaaDoor
set_option linter.unusedVariables false
set_option linter.unusedSimpArgs false
open Go.RowKit Rng Go.Maps
attribute [local go_sem] Oper.semAt_some
theorem roundP_eq : roundP = .seq (subC [0] roundP) (.seq (subC [1, 0] roundP) (.seq (subC [1, 1, 0] roundP) (.seq (subC [1, 1, 1, 0] roundP) (.seq (subC [1, 1, 1, 1, 0] roundP) entP)))) := by kernel_rfl
theorem ParVars.setAt {h s1 a : Nat} {w X : World} (hp : ParVars h s1 w a X) (a' : Nat) : ParVars h s1 w a' (X.setCell ⟨s1 + 3, 0, none⟩ (.int .i64 (a' : Nat))) := by
  obtain ⟨p1, p2, p3, p4, p5, p6, p7, p8⟩ := hp
  have hg := grownBy_setCellAt X (s1 + 3) 0 (.int .i64 (a' : Nat))
  have b : ∀ k, k < s1 + 7 → k ≠ s1 + 3 → (X.setCell ⟨s1 + 3, 0, none⟩ (.int .i64 (a' : Nat))).heap[k]? = X.heap[k]? := fun k hk h1 => hg.block _ (by omega) (fun e => h1 (by simpa using e))
  exact ⟨(b _ (by omega) (by omega)).trans p1, (heap_setCell_same _ _ _ _ _ _ p2).trans rfl, p3.block (b _ (by omega) (by omega)), (b _ (by omega) (by omega)).trans p4, (b _ (by omega) (by omega)).trans p5, p6.grown hg (by omega) (fun k e => by cases e; omega), p7, Nat.le_trans p8 hg.size⟩
/-- What said gives, written out. -/
theorem saidT_of (l : List UInt8) (hl : l.length ≤ 70000) : ∃ (nv : ByteArray) (n : Int), saidT l = .tuple #[.string nv, .int .i64 n, .bool (saidI l)] ∧ nv.size ≤ 70000 ∧ (saidI l = true → nv.data.toList = lineName l ∧ n = (valD (numT l) : Nat)) := by
  unfold saidT
  cases h : saidI l with
  | true =>
    refine ⟨⟨(trimB (cutN l)).toArray⟩, _, rfl, ?_, fun _ => ⟨rfl, rfl⟩⟩
    show (trimB (cutN l)).toArray.size ≤ _
    rw [List.size_toArray]
    exact Nat.le_trans (trimS_len _ _) (Nat.le_trans (cut_len l).1 hl)
  | false => exact ⟨⟨#[]⟩, 0, rfl, by decide, fun h => by cases h⟩
set_option maxRecDepth 100000 in
set_option maxHeartbeats 4000000 in
theorem line_round {B h s1 r : Nat} {w W : World} {L pre suf : List (List UInt8)} {x : List UInt8}
    (hr : ∃ rr, W.heap[r]? = some (.loop rr)) (hrs : s1 + 7 ≤ r) (hAt : ParAt h s1 w L pre W) (hL : L = pre ++ x :: suf) (hLL : lensL L ≤ 65537) (hB : B ≤ w.heap.size) (hE : EnvS B w) (hwh : w.heap.size = h)
    (v0 v1 v9 v10 v11 v12 v13 v14 v15 v16 v17 v18 v19 v20 v21 v22 v23 v24 v25 v26 v27 v28 v29 v30 v31 v32 v33 v34 v35 v36 v37 v38 v39 v40 v41 v42 v43 v44 v45 v46 v47 v48 v49 v50 v51 v52 v53 v54 v55 v56 v57 v58 v59 v60 v61 v62 v63 v64 v65 v66 v67 v68 v69 v70 v71 v72 v73 v74 v75 v76 v77 v78 v79 v80 v81 v82 v83 v84 v85 v86 v87 : Value) :
    (Code.block 1 roundP).wpIn (Fence.wide.inRound r) 8 Tryd.prog (post (s1 + 7) [s1 + 4, s1 + 5, s1 + 6] (ParAt h s1 w L) (fun c _ W' => c = .ret ∧ ParEnd h w L W') (pre ++ [x]) W) { tmps := #[v0, v1, .pointer (some ⟨h, 0, none⟩), .pointer (some ⟨h + 1, 0, none⟩), .pointer (some ⟨h + 2, 0, none⟩), .pointer (some ⟨s1, 0, none⟩), .pointer (some ⟨s1 + 2, 0, none⟩), .pointer (some ⟨s1 + 3, 0, none⟩), .string ⟨x.toArray⟩, v9, v10, v11, v12, v13, v14, v15, v16, v17, v18, v19, v20, v21, v22, v23, v24, v25, v26, v27, v28, v29, v30, v31, v32, v33, v34, v35, v36, v37, v38, v39, v40, v41, v42, v43, v44, v45, v46, v47, v48, v49, v50, v51, v52, v53, v54, v55, v56, v57, v58, v59, v60, v61, v62, v63, v64, v65, v66, v67, v68, v69, v70, v71, v72, v73, v74, v75, v76, v77, v78, v79, v80, v81, v82, v83, v84, v85, v86, v87], defers := [] } W := by
  obtain ⟨s, had, hP, hS, hV⟩ := hAt
  have hlen := lens_le (show L = (pre ++ [x]) ++ suf by rw [hL]; simp)
  rw [lens_snoc] at hlen
  have hpn : pre.length ≤ lensL pre := by
    clear hlen hV hP hS hL
    induction pre with
    | nil => exact Nat.zero_le _
    | cons a t ih => simp only [lensL, List.map_cons, List.sum_cons, List.length_cons] at *; omega
  have hxl : x.length ≤ 70000 := by omega
  obtain ⟨a, ha⟩ : ∃ a, lensL pre = a := ⟨_, rfl⟩
  have HPL := Lib.hid (show pre.length ≤ 70000 by omega)
  rw [ha] at hV hlen hpn
  obtain ⟨sx, hsx⟩ : ∃ sx : ByteArray, (⟨x.toArray⟩ : ByteArray) = sx := ⟨_, rfl⟩
  obtain ⟨sl, hsl⟩ : ∃ sl : ByteArray, (⟨(Lib.trimLeftS x blankL).toArray⟩ : ByteArray) = sl := ⟨_, rfl⟩
  obtain ⟨sy, hsy⟩ : ∃ sy : ByteArray, (⟨(trimB x).toArray⟩ : ByteArray) = sy := ⟨_, rfl⟩
  have HTL := Lib.hid (fun (w' : World) => triml_calls x blankL hxl (by decide) (by decide) w')
  have HTR := Lib.hid (fun (w' : World) => trim_calls x blankL hxl (by decide) (by decide) w')
  rw [hsx, hsl] at HTL
  rw [hsx, show (⟨(Lib.trimS x blankL).toArray⟩ : ByteArray) = sy from hsy] at HTR
  have hzx : sx.size = x.length := by rw [← hsx]; exact List.size_toArray
  have hzl : sl.size = (Lib.trimLeftS x blankL).length := by rw [← hsl]; exact List.size_toArray
  have hll := trimL_len x blankL
  have hyl := trimS_len x blankL
  rw [hsx]
  obtain ⟨b1, hb1⟩ : ∃ b1 : Int, b1 = ((a + x.length : Nat) : Int) := ⟨_, rfl⟩
  obtain ⟨b2, hb2⟩ : ∃ b2 : Int, b2 = ((a + x.length : Nat) : Int) - ((Lib.trimLeftS x blankL).length : Nat) := ⟨_, rfl⟩
  have e1 : (a : Int) + (sx.size : Int) = b1 ∧ (-9223372036854775808 ≤ b1 ∧ b1 ≤ 9223372036854775807) := by omega
  have e2 : b1 - (sl.size : Int) = b2 ∧ (-9223372036854775808 ≤ b2 ∧ b2 ≤ 9223372036854775807) := by omega
  have e3 : (sx.size : Int) + 1 = ((x.length + 1 : Nat) : Int) ∧ (-9223372036854775808 ≤ ((x.length + 1 : Nat) : Int) ∧ ((x.length + 1 : Nat) : Int) ≤ 9223372036854775807) := by omega
  have e4 : (a : Int) + ((x.length + 1 : Nat) : Int) = ((a + (x.length + 1) : Nat) : Int) ∧ (-9223372036854775808 ≤ ((a + (x.length + 1) : Nat) : Int) ∧ ((a + (x.length + 1) : Nat) : Int) ≤ 9223372036854775807) := by omega
  have hw1 : wrap64 ((a : Int) + (sx.size : Int)) = b1 := by rw [e1.1]; exact wrap_in2 _ e1.2
  have hw2 : wrap64 (b1 - (sl.size : Int)) = b2 := by rw [e2.1]; exact wrap_in2 _ e2.2
  have hw3 : wrap64 ((sx.size : Int) + 1) = ((x.length + 1 : Nat) : Int) := by rw [e3.1]; exact wrap_in2 _ e3.2
  have hw4 : wrap64 ((a : Int) + ((x.length + 1 : Nat) : Int)) = ((a + (x.length + 1) : Nat) : Int) := by rw [e4.1]; exact wrap_in2 _ e4.2
  clear e1 e2 e3 e4
  have HA := Lib.hid ha
  have HW := Lib.hid (And.intro hw3 hw4)
  have HC := Lib.hid (fun d os => cell_regrown (show W.cell? ⟨s1 + 3, 0, none⟩ = some (.int .i64 (a : Nat)) from cell_of hV.at' 0) d os)
  have HYL := Lib.hid (show (trimB x).length ≤ 70000 from Nat.le_trans hyl hxl)
  have HS := Lib.hid hS
  have HV := Lib.hid hV
  have HP := Lib.hid hP
  have HL := Lib.hid hL
  have HB2 := Lib.hid hb2
  have HE := Lib.hid (And.intro hB (And.intro hE hwh))
  have HR := Lib.hid hr
  clear hw3 hw4 hll hyl hzx hzl hb1 hb2 ha hpn hlen hS hV hP hL hsl hxl hB hE hwh hLL hr
  refine wpIn_block ?_
  rw [roundP_eq]
  conv in (subC [0] _) => whnf
  conv in (subC [1, 0] _) => whnf
  conv in (subC [1, 1, 0] _) => whnf
  conv in (subC [1, 1, 1, 0] _) => whnf
  conv in (subC [1, 1, 1, 1, 0] _) => whnf
  refine wpIn_seq ?_
  have hc := HC.out
  refine region_tail_round (r := r) (m := 8) 8 (by kernel_rfl) (by kernel_rfl) (by kernel_rfl) ?_
  simp only [List.take_succ_cons, List.take_zero, List.drop_succ_cons, List.drop_zero]
  repeat (go_big_quiet_step ((go_at_call 27; exact Calls.regrown_of (HTL.out _))))
  refine wpQuiet_nil ?_
  intro W3 hcls
  have hB3 := hcls.below
  clear hcls
  simp only [hw1, hw2]
  have hV3 := HV.out.kept (gb hB3) (fun r e => by cases e)
  have hS3 := HS.out.kept (gb hB3) (fun r e => by cases e)
  have hk3 : KS (s1 + 7) [s1 + 4, s1 + 5, s1 + 6] W W3 := (KS.refl _ _ _).grown (gb hB3) (fun k hk => by have := HV.out.hi; simp at hk; omega) (Nat.le_refl _) (fun r e => by cases e)
  have hr3 : ∃ rr, W3.heap[r]? = some (.loop rr) := by
    obtain ⟨rr, h1⟩ := HR.out
    exact ⟨rr, (hB3.block r (Array.getElem?_eq_some_iff.1 h1).1).trans h1⟩
  have hc3 := cell_of hV3.at' 0
  have hf3 := frozen_of_row _ (s1 + 3) 0 _ _ hV3.at'
  simp only [List.getElem?_toArray, List.getElem?_cons_zero] at hc3
  obtain ⟨hw3, hw4⟩ := HW.out
  have HV3 := Lib.hid hV3
  have HS3 := Lib.hid hS3
  have HK3 := Lib.hid hk3
  have HR3 := Lib.hid hr3
  have HZ3 := Lib.hid hB3.size
  clear hV3 hS3 hk3 hr3 hB3 hc hw1 hw2
  gi_upto_region 10 with fail
  have hw5 : wrap64 ((a : Int) + ((x.length : Int) + 1)) = ((a + (x.length + 1) : Nat) : Int) := by
    have e : ((x.length + 1 : Nat) : Int) = (x.length : Int) + 1 := by omega
    rw [← e]
    exact hw4
  simp only [hw5]
  clear hc3 hf3 hw3 hw4 hw5
  have hV4 : ParVars h s1 w (a + (x.length + 1)) (W3.setCell ⟨s1 + 3, 0, none⟩ (.int .i64 ((a + (x.length + 1) : Nat) : Int))) := HV3.out.setAt _
  have hg4 := grownBy_setCellAt W3 (s1 + 3) 0 (.int .i64 ((a + (x.length + 1) : Nat) : Int))
  have hS4 := HS3.out.kept hg4 (fun r e => by cases e; omega)
  have hk4 := HK3.out.grown hg4 (fun k hk => by have := HV.out.hi; simp at hk; omega) HZ3.out (fun r e => by cases e; exact .inr ⟨by omega, by simp⟩)
  have hr4 : ∃ rr, (W3.setCell ⟨s1 + 3, 0, none⟩ (.int .i64 ((a + (x.length + 1) : Nat) : Int))).heap[r]? = some (.loop rr) := by
    obtain ⟨rr, h1⟩ := HR3.out
    exact ⟨rr, (hg4.block r (Array.getElem?_eq_some_iff.1 h1).1 (fun e => by cases e; omega)).trans h1⟩
  have hz4 : W.heap.size ≤ (W3.setCell ⟨s1 + 3, 0, none⟩ (.int .i64 ((a + (x.length + 1) : Nat) : Int))).heap.size := Nat.le_trans HZ3.out hg4.size
  obtain ⟨W4, hW4⟩ : ∃ W4, W3.setCell ⟨s1 + 3, 0, none⟩ (.int .i64 ((a + (x.length + 1) : Nat) : Int)) = W4 := ⟨_, rfl⟩
  rw [hW4] at hV4 hS4 hk4 hr4 hz4 ⊢
  have HV4 := Lib.hid hV4
  have HS4 := Lib.hid hS4
  have HK4 := Lib.hid hk4
  have HR4 := Lib.hid hr4
  have HZ4 := Lib.hid hz4
  clear hV4 hS4 hk4 hr4 hz4 hW4 hg4
  have keep : ∀ W5, Below W4.heap.size W4 W5 → KS (s1 + 7) [s1 + 4, s1 + 5, s1 + 6] W W5 ∧ ParSty s1 s had pre.length W5 ∧ ParVars h s1 w (a + (x.length + 1)) W5 ∧ (∃ rr, W5.heap[r]? = some (.loop rr)) ∧ W.heap.size ≤ W5.heap.size := fun W5 hB => by
    obtain ⟨rr, h1⟩ := HR4.out
    exact ⟨HK4.out.grown (gb hB) (fun k hk => by have := HV.out.hi; simp at hk; omega) HZ4.out (fun r e => by cases e), HS4.out.kept (gb hB) (fun r e => by cases e), HV4.out.kept (gb hB) (fun r e => by cases e), ⟨rr, (hB.block r (Array.getElem?_eq_some_iff.1 h1).1).trans h1⟩, Nat.le_trans HZ4.out hB.size⟩
  have KEEP := Lib.hid keep
  have IDLE := Lib.hid (fun (hi : idle (trimB x) = true) W5 (hB : Below W4.heap.size W4 W5) => show KeepsFrom (s1 + 7) W W5 ∧ Same [s1 + 4, s1 + 5, s1 + 6] W W5 ∧ ParAt h s1 w L (pre ++ [x]) W5 by
    obtain ⟨k1, k2, k3, k4, k5⟩ := KEEP.out W5 hB
    refine ⟨k1.1, k1.2, s, had, fun suf' hL' => ?_, ⟨k2.sty, ?_⟩, ?_⟩
    · rw [HP.out (x :: suf') (by rw [hL']; simp), parse_idle hi, lens_snoc]
    · obtain ⟨D, m, m1, m2⟩ := k2.map
      exact ⟨D, m, m1, by simp; omega⟩
    · rw [lens_snoc, HA.out]
      exact k3)
  clear keep
  cases hT : trimB x with
  | nil =>
    have hi : idle (trimB x) = true := by rw [hT]; rfl
    rw [hT] at hsy
    have hy : (sy.toList == []) = true := by rw [ByteArray.toList_eq, ← hsy]; rfl
    have IDL := Lib.hid (IDLE.out hi)
    clear hsy hsx hT hi
    gi_wp2_with (refine ⟨trivial, ?_⟩; gi_at_call 28; refine (in_round (HTR.out _)).mono ?_; rintro e W5 ⟨rfl, hB5⟩)
    exact IDL.out _ hB5
  | cons c t =>
    have hy : (sy.toList == []) = false := by rw [ByteArray.toList_eq, ← hsy, hT]; rfl
    have hys : 0 < sy.size := by rw [← hsy, hT]; simp [ByteArray.size]
    have hyc : ∀ p, (sy[0]'p) = c := by
      intro p
      subst hsy
      simp [hT, ByteArray.getElem_eq_getElem_data]
    by_cases hc : c = 35
    · have hi : idle (trimB x) = true := by rw [hT, hc]; rfl
      have IDL := Lib.hid (IDLE.out hi)
      have hy2 : ((sy[0]'hys).toNat : Int) = 35 := by rw [hyc, hc]; rfl
      clear hsy hsx hT hi hyc hc
      gi_wp2_with (refine ⟨trivial, ?_⟩; gi_at_call 28; refine (in_round (HTR.out _)).mono ?_; rintro e W5 ⟨rfl, hB5⟩)
      exact IDL.out _ hB5
    · have hi : idle (trimB x) = false := by rw [hT]; simp [idle, hc]
      have hy2 : ¬ ((sy[0]'hys).toNat : Int) = 35 := by
        rw [hyc]
        intro e
        exact hc (UInt8.toNat_inj.1 (by have : c.toNat = 35 := by omega
                                        rw [this]; rfl))
      have HI := Lib.hid hi
      obtain ⟨nv, n, hst, hnv, hnn⟩ := saidT_of (trimB x) HYL.out
      obtain ⟨bi, hbi⟩ : ∃ bi, saidI (trimB x) = bi := ⟨_, rfl⟩
      have HSD := Lib.hid (fun W5 (hv : ParVars h s1 w (a + (x.length + 1)) W5) => said_calls (B := B) (trimB x) HYL.out W5 (by have := hv.below.size; have := HE.out; omega) (HE.out.2.1.later (hv.below.mono (by have := HE.out; omega))))
      rw [hst, hsy] at HSD
      rw [hbi] at HSD hnn
      have HNN := Lib.hid (And.intro hnn (And.intro hbi hnv))
      clear hsy hsx hT hi hyc hc IDLE hst hnn hbi hnv
      gi_wp2_with (first
        | (refine ⟨trivial, ?_⟩; gi_at_call 28; refine (in_round (HTR.out _)).mono ?_; rintro e W5 ⟨rfl, hB5⟩
           have HK5 := Lib.hid (KEEP.out _ hB5))
        | (refine ⟨trivial, ?_⟩; gi_at_call 29; refine (in_round (HSD.out _ HK5.out.2.2.1)).mono ?_; rintro e W6 ⟨rfl, hB6⟩))
      obtain ⟨q, hq⟩ : ∃ q, W6.heap.size = q := ⟨_, rfl⟩
      have h56 := hB6.size
      have h45 := hB5.size
      have hA7 : SaidAt q nv n bi (((W6.alloc (.cells #[.string nv] 9)).alloc (.cells #[.int .i64 n] 3)).alloc (.cells #[.bool bi] 4)) := by
        have a1 := World.alloc_heap_new W6 (.cells #[.string nv] 9)
        have a2 := World.alloc_heap_new (W6.alloc (.cells #[.string nv] 9)) (.cells #[.int .i64 n] 3)
        have a3 := World.alloc_heap_new ((W6.alloc (.cells #[.string nv] 9)).alloc (.cells #[.int .i64 n] 3)) (.cells #[.bool bi] 4)
        rw [World.size_alloc, hq] at a2
        rw [World.size_alloc, World.size_alloc, hq] at a3
        rw [hq] at a1
        exact ⟨(Below.heap_alloc _ _ _ (by simp; omega)).trans ((Below.heap_alloc _ _ _ (by simp; omega)).trans a1), (Below.heap_alloc _ _ _ (by simp; omega)).trans a2, a3⟩
      have hB7 : Below W4.heap.size W4 (((W6.alloc (.cells #[.string nv] 9)).alloc (.cells #[.int .i64 n] 3)).alloc (.cells #[.bool bi] 4)) :=
        (((hB5.trans (hB6.mono h45)).alloc (by omega) _).alloc (by simp; omega) _).alloc (by simp; omega) _
      obtain ⟨k1, k2, k3, k4, k5⟩ := KEEP.out _ hB7
      obtain ⟨W7, hW7⟩ : ∃ W7, ((W6.alloc (.cells #[.string nv] 9)).alloc (.cells #[.int .i64 n] 3)).alloc (.cells #[.bool bi] 4) = W7 := ⟨_, rfl⟩
      rw [hW7] at hA7 k1 k2 k3 k4 k5 ⊢
      rw [hq]
      have hsq : s1 + 7 ≤ q := by have := HV4.out.hi; omega
      refine ent_round (np := 0) (q := q) (s := s) (had := had) (nv := nv) (n := n) (bi := bi) (L := L) (pre := pre) (suf := suf) (x := x) (w := w) k4 k2 (by rw [lens_snoc, HA.out]; exact k3) hA7 hsq HNN.out.2.1 HNN.out.1 HNN.out.2.2 HPL.out HL.out HP.out HI.out (by rw [HB2.out, HA.out])
        (fun a' W' hk hp => ⟨k1.1.trans hk.1, fun k hk' => (hk.2 k hk').trans (k1.2 k hk'), hp⟩)
        (fun a' W' hk hp => ⟨k1.1.trans hk.1, rfl, hp⟩) _ _ _ _ _ _ _ _ _ _ _ _ _ _ _ _ _ _ _ _ _ _ _ _ _ _ _ _ _ _ _ _ _ _ _ _ _ _ _ _ _ _ _ _ _ _ _ _ _ _ _ _ _ _ _ _ _ _ _ _ _ _ _ _ _ _ _ _ _ _ _ _ _ _ _ _ _ _ _
end Go.Proofs.YtjfpfmknngkgaaaDoor
