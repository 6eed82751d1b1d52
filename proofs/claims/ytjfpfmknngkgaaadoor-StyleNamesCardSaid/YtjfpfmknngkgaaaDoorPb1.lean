/- Parse: the walk through the entries at a line. Conditions: as they stand. -/
import Derived.Test.YtjfpfmknngkgaaaDoorPa0
namespace Go.Proofs.YtjfpfmknngkgaaaDoor
set_option linter.unusedVariables false
set_option linter.unusedSimpArgs false
open Go.RowKit Rng Go.Maps
attribute [local go_sem] Oper.semAt_some
/-- A part of the code: 0 the first of two, 1 the second, 2 within a block, a loop or a scope, 3 a range's body. -/
def subC : List Nat → Code → Code
  | 0 :: p, .seq x _ => subC p x
  | 1 :: p, .seq _ y => subC p y
  | 2 :: p, .block _ c => subC p c
  | 2 :: p, .scope c => subC p c
  | 3 :: p, .rangeFunc _ _ _ b => subC p b
  | _, c => c
noncomputable def bodyP : Code := Tryd.f12.body.getD .skip
noncomputable def roundP : Code := subC [1, 2, 1, 1, 1, 1, 1, 0, 1, 2, 3, 2] bodyP
noncomputable def entP : Code := subC [1, 1, 1, 1, 1] roundP
/-- A whole row of cells stored, within a round. -/
theorem wpListIn_store_row {F : Fence} {nF : Nat} {P : Program} {ops : Array Oper} {rest : List Oper} {o : Oper} {a : Act} {w : World} {Q : Exit → Act → World → Prop} (hgd : o.guard = none) (ty : TypeId) (x y : Operand) (ho : o.op = .store ty x y)
    (g : Nat) (cells : Array Value) (hx : a.eval x = .pointer (some ⟨g, 0, none⟩)) (hy : a.eval y = .agg cells)
    (t : TypeId) (old : Array Value) (hg : w.heap[g]? = some (.cells old t (0, 0))) (hi : (P.info? ty).map (·.size) = some cells.size)
    (hold : old.size = cells.size) (h1 : cells.all (·.oneCell') = true)
    (h : wpListIn F nF P ops Q rest (a.put o.dst undef) (w.setRow g cells)) : wpListIn F nF P ops Q (o :: rest) a w := by
  refine wpListIn_plain hgd fun K' hK' => ?_
  unfold Oper.wpIn
  refine ⟨by simp [Oper.about, ho], ?_⟩
  rw [Oper.semAt_plain F _ _ (by rw [ho]; intro c hc'; cases hc')]
  unfold execOp
  simp only [ho, hx, hy, Instr.storeAt, Instr.sureAddr, Sem.run_bind, Sem.run_pure, Result.andThen_ok, run_storeVar_row w g t ty old cells hg hi hold h1]
  exact hK' _ _ h
/-- What a part of a round leaves. -/
def KS (B : Nat) (D : List Nat) (W W' : World) : Prop := KeepsFrom B W W' ∧ Same D W W'
theorem KS.grown {B : Nat} {D : List Nat} {W X Y : World} {row : Option Nat} (h : KS B D W X) (hg : X.grownBy Y row) (hD : ∀ k, k ∈ D → k < W.heap.size) (hs : W.heap.size ≤ X.heap.size) (hr : ∀ r, row = some r → W.heap.size ≤ r ∨ (r < B ∧ r ∉ D)) : KS B D W Y := by
  obtain ⟨h1, h2⟩ := h
  refine ⟨⟨Nat.le_trans h1.size hg.size, fun k o hk ho hc => ?_⟩, fun k hk => ?_⟩
  · have hl := (Array.getElem?_eq_some_iff.1 ho).1
    have := h1.same k o hk ho hc
    exact (hg.block k (by omega) (fun e => by have := hr _ e.symm; omega)).trans this
  · have hl := hD k hk
    exact (hg.block k (by omega) (fun e => by rcases hr _ e.symm with h3 | ⟨_, h3⟩; omega; exact h3 hk)).trans (h2 k hk)
theorem KS.refl (B : Nat) (D : List Nat) (W : World) : KS B D W W := ⟨⟨Nat.le_refl _, fun _ _ _ h _ => h⟩, Same.refl _ _⟩
/-- The name, the number and whether, in their cells. -/
structure SaidAt (q : Nat) (nv : ByteArray) (n : Int) (bi : Bool) (W : World) : Prop where
  c0 : W.heap[q]? = some (.cells #[.string nv] 9 (0, 0))
  c1 : W.heap[q + 1]? = some (.cells #[.int .i64 n] 3 (0, 0))
  c2 : W.heap[q + 2]? = some (.cells #[.bool bi] 4 (0, 0))
theorem SaidAt.kept {q : Nat} {nv : ByteArray} {n : Int} {bi : Bool} {X Y : World} {row : Option Nat} (hp : SaidAt q nv n bi X) (hg : X.grownBy Y row) (hr : ∀ r, row = some r → r < q ∨ q + 2 < r) : SaidAt q nv n bi Y := by
  obtain ⟨p1, p2, p3⟩ := hp
  have l := (Array.getElem?_eq_some_iff.1 p3).1
  have b : ∀ k, q ≤ k → k < q + 3 → Y.heap[k]? = X.heap[k]? := fun k h1 h2 => hg.block _ (by omega) (fun e => by have := hr _ e.symm; omega)
  exact ⟨(b _ (by omega) (by omega)).trans p1, (b _ (by omega) (by omega)).trans p2, (b _ (by omega) (by omega)).trans p3⟩
/-- Within the entries' range. -/
structure InAt (h s1 q a np : Nat) (w : World) (s : Sty) (had : List (List UInt8)) (l : List UInt8) (nv : ByteArray) (n : Int) (bi : Bool) (W0 : World) (pre : List Ent) (W : World) : Prop where
  no : ∀ j, j < pre.length → hits l had j = false
  sty : ParSty s1 s had np W
  vars : ParVars h s1 w a W
  said : SaidAt q nv n bi W
  ks : KS (s1 + 7) [s1 + 4, s1 + 5, s1 + 6] W0 W
  sz : W0.heap.size ≤ W.heap.size
theorem InAt.kept {h s1 q a np : Nat} {w : World} {s : Sty} {had : List (List UInt8)} {l : List UInt8} {nv : ByteArray} {n : Int} {bi : Bool} {W0 : World} {pre : List Ent} {X Y : World} {row : Option Nat}
    (hp : InAt h s1 q a np w s had l nv n bi W0 pre X) (hq : s1 + 7 ≤ q) (hW : q + 3 ≤ W0.heap.size) (hg : X.grownBy Y row) (hr : ∀ r, row = some r → W0.heap.size ≤ r) : InAt h s1 q a np w s had l nv n bi W0 pre Y := by
  obtain ⟨p1, p2, p3, p4, p5, p6⟩ := hp
  exact ⟨p1, p2.kept hg (fun r e => by have := hr r e; omega), p3.kept hg (fun r e => by have := hr r e; omega), p4.kept hg (fun r e => by have := hr r e; omega), p5.grown hg (fun k hk => by simp at hk; omega) p6 (fun r e => by have := hr r e; omega), Nat.le_trans p6 hg.size⟩
theorem InAt.snoc {h s1 q a np : Nat} {w : World} {s : Sty} {had : List (List UInt8)} {l : List UInt8} {nv : ByteArray} {n : Int} {bi : Bool} {W0 : World} {pre : List Ent} {X : World} (e : Ent)
    (hp : InAt h s1 q a np w s had l nv n bi W0 pre X) (hn : hits l had pre.length = false) : InAt h s1 q a np w s had l nv n bi W0 (pre ++ [e]) X := by
  obtain ⟨p1, p2, p3, p4, p5, p6⟩ := hp
  refine ⟨fun j hj => ?_, p2, p3, p4, p5, p6⟩
  rw [List.length_append, List.length_singleton] at hj
  by_cases hj2 : j = pre.length
  · rw [hj2]; exact hn
  · exact p1 j (by omega)
theorem gb {X Y : World} (h : Below X.heap.size X Y) : X.grownBy Y none := ⟨h.os, h.tape, h.output, h.size, fun k hk _ => h.block k hk⟩
theorem hits_eq {l : List UInt8} {had : List (List UInt8)} {i B : Nat} {e : Ent} {nv : ByteArray} {n : Int} {bi : Bool} (he : (entL B)[i]? = some e) (hi : i < 18) (hb : saidI l = bi) (hn : bi = true → nv.data.toList = lineName l ∧ n = (valD (numT l) : Nat)) :
    hits l had i = (bi && (e.nm.data.toList == nv.data.toList) && decide (e.lo ≤ n) && decide (n ≤ e.hi) && !had.contains nv.data.toList) := by
  obtain ⟨e1, e2, e3⟩ := ent_eq he hi
  unfold hits
  rw [hb]
  cases bi with
  | false => rfl
  | true =>
    obtain ⟨n1, n2⟩ := hn rfl
    rw [← n1, ← n2, ← e2, ← e3]
    unfold nmL
    rw [← e1]
set_option maxRecDepth 100000 in
set_option maxHeartbeats 4000000 in
theorem ent_round {h s1 q r np : Nat} {w W : World} {L pre suf : List (List UInt8)} {x : List UInt8} {s : Sty} {had : List (List UInt8)} {nv : ByteArray} {n bg : Int} {bi : Bool} {Q : Exit → Act → World → Prop}
    (hr : ∃ rr, W.heap[r]? = some (.loop rr)) (hS : ParSty s1 s had pre.length W) (hV : ParVars h s1 w (lensL (pre ++ [x])) W) (hA : SaidAt q nv n bi W) (hq : s1 + 7 ≤ q)
    (hb : saidI (trimB x) = bi) (hn : bi = true → nv.data.toList = lineName (trimB x) ∧ n = (valD (numT (trimB x)) : Nat)) (hnv : nv.size ≤ 70000) (hpl : pre.length ≤ 70000)
    (hL : L = pre ++ x :: suf) (hP : ∀ suf, L = pre ++ suf → parseFrom L firstSty [] 0 = parseFrom suf s had (lensL pre)) (hid : idle (trimB x) = false)
    (hbg : bg = ((lensL pre + x.length : Nat) : Int) - ((Lib.trimLeftS x blankL).length : Nat))
    (hQ1 : ∀ a' W', KS (s1 + 7) [s1 + 4, s1 + 5, s1 + 6] W W' → ParAt h s1 w L (pre ++ [x]) W' → Q (.exit 1) a' W')
    (hQ2 : ∀ a' W', KS (s1 + 7) [s1 + 4, s1 + 5, s1 + 6] W W' → ParEnd h w L W' → Q .ret a' W')
    (v0 v1 v7 v8 v13 v14 v15 v16 v17 v18 v19 v20 v21 v22 v23 v24 v25 v26 v27 v28 v29 v30 v31 v32 v33 v34 v35 v36 v37 v38 v39 v40 v41 v42 v43 v44 v45 v46 v47 v48 v49 v50 v51 v52 v53 v54 v55 v56 v57 v58 v59 v60 v61 v62 v63 v64 v65 v66 v67 v68 v69 v70 v71 v72 v73 v74 v75 v76 v77 v78 v79 v80 v81 v82 v83 v84 v85 v86 v87 : Value) :
    entP.wpIn (Fence.wide.inRound r) 8 Tryd.prog Q { tmps := #[v0, v1, .pointer (some ⟨h, 0, none⟩), .pointer (some ⟨h + 1, 0, none⟩), .pointer (some ⟨h + 2, 0, none⟩), .pointer (some ⟨s1, 0, none⟩), .pointer (some ⟨s1 + 2, 0, none⟩), v7, v8, .int .i64 bg, .pointer (some ⟨q, 0, none⟩), .pointer (some ⟨q + 1, 0, none⟩), .pointer (some ⟨q + 2, 0, none⟩), v13, v14, v15, v16, v17, v18, v19, v20, v21, v22, v23, v24, v25, v26, v27, v28, v29, v30, v31, v32, v33, v34, v35, v36, v37, v38, v39, v40, v41, v42, v43, v44, v45, v46, v47, v48, v49, v50, v51, v52, v53, v54, v55, v56, v57, v58, v59, v60, v61, v62, v63, v64, v65, v66, v67, v68, v69, v70, v71, v72, v73, v74, v75, v76, v77, v78, v79, v80, v81, v82, v83, v84, v85, v86, v87], defers := [] } W := by
  obtain ⟨rr, hrr⟩ := hr
  have HS := Lib.hid hS
  have HV := Lib.hid hV
  have HA := Lib.hid hA
  have HH := Lib.hid (fun i e B (he : (entL B)[i]? = some e) (hi : i < 18) => hits_eq (had := had) he hi hb hn)
  have hsz : q + 3 ≤ W.heap.size := (Array.getElem?_eq_some_iff.1 hA.c2).1
  have HQ1 := Lib.hid hQ1
  have HQ2 := Lib.hid hQ2
  have HL := Lib.hid hL
  have HP := Lib.hid hP
  have HB := Lib.hid hbg
  have HI := Lib.hid hid
  have HN := Lib.hid hn
  have HBI := Lib.hid hb
  clear hS hV hA hn hb hQ1 hQ2 hL hP hbg hid
  unfold entP
  conv in (subC _ _) => whnf
  gi_wp2_with (refine ⟨trivial, ?_⟩; gi_at_call 18; refine (in_round (entries_calls s1 W)).mono ?_; rintro e W3 ⟨R, Cb, cap, rfl, hH, hCb, hR, hB⟩)
  have hsz3 := hB.size
  have hI0 : InAt h s1 q (lensL (pre ++ [x])) pre.length w s had (trimB x) nv n bi W [] W3 :=
    ⟨fun j hj => absurd hj (Nat.not_lt_zero _), HS.out.kept (gb hB) (fun r e => by cases e), HV.out.kept (gb hB) (fun r e => by cases e), HA.out.kept (gb hB) (fun r e => by cases e), (KS.refl _ _ _).grown (gb hB) (fun k hk => by simp at hk; omega) (Nat.le_refl _) (fun r e => by cases e), hsz3⟩
  have hl3 : W3.heap[r]? = some (.loop rr) := (hB.block r (Array.getElem?_eq_some_iff.1 hrr).1).trans hrr
  have hlC : Cb < W3.heap.size := World.block_lt_of_cell? _ _ hH.1
  have hlR : R < W3.heap.size := World.block_lt_of_cell? _ _ (hH.2.1 0 _ rfl).1
  clear hB hrr
  refine range_law_in (n := 8) hl3 (by decide) (gf := 34) (lb := #[.pointer (some ⟨Cb, 0, none⟩)]) rfl (enters_of Tryd.func34 (by kernel_rfl) rfl) (entries1_iter R Cb cap (entL s1) (by simp [entL])) (by intro _; rfl)
    (fun k h => by cases h) (fun k h => by simp at h; omega)
    (fun W hg => hH.of_same (Same.grown hg (by simp; omega) (fun r e => by cases e)))
    (InAt h s1 q (lensL (pre ++ [x])) pre.length w s had (trimB x) nv n bi W)
    (fun c p W' => c = .exit 1 ∧ KS (s1 + 7) [s1 + 4, s1 + 5, s1 + 6] W W' ∧ W.heap.size ≤ W'.heap.size ∧ ParAt h s1 w L (pre ++ [x]) W')
    (fun s X Y row hI hg hr => hI.kept hq hsz hg (fun r e => by
      rcases hr r e with h1 | ⟨h1, _⟩
      · cases h1
      · omega))
    (fun c s X Y row hI hg hr => by
      have hr' : ∀ r, row = some r → W.heap.size ≤ r := fun r e => by
        rcases hr r e with h1 | ⟨h1, _⟩
        · cases h1
        · omega
      obtain ⟨i1, i2, i3, i4⟩ := hI
      exact ⟨i1, i2.grown hg (fun k hk => by simp at hk; omega) i3 (fun r e => .inl (hr' r e)), Nat.le_trans i3 hg.size, i4.kept hg (fun r e => by have := hr' r e; omega)⟩)
    hI0 ?round ?done ?stop
  case round =>
    rintro ql pre2 e suf2 W4 hL2 hq2 hqW2 hI
    have hlen : pre2.length < 18 := by have := congrArg List.length hL2; simp [entL] at this; omega
    have hx : (entL s1)[pre2.length]? = some e := by rw [hL2]; simp
    gi_wp2
    refine ⟨(KeepsOthers.alloc _ _).from _, Same.grown (World.grownBy_alloc W4 _ none) (by have := hI.sz; simp; omega) (fun r e => by cases e), fun W5 hg5 hl5 => ?_⟩
    have hb5 := cells_kept (World.alloc_heap_new W4 _) hg5 hl5
    have c0 := cell_of hb5 0
    have c1 := cell_of hb5 1
    have c2 := cell_of hb5 2
    have c3 := cell_of hb5 3
    have c4 := cell_of hb5 4
    have c5 := cell_of hb5 5
    simp at c0 c1 c2 c3 c4 c5
    have hI5 : InAt h s1 q (lensL (pre ++ [x])) pre.length w s had (trimB x) nv n bi W pre2 W5 := (hI.kept hq hsz (World.grownBy_alloc W4 _ none) (fun r e => by cases e)).kept hq hsz hg5 (fun r e => by cases e; omega)
    have HHE := Lib.hid (HH.out _ _ _ hx hlen)
    have HX := Lib.hid hx
    have HI5 := Lib.hid hI5
    obtain ⟨D, m, hM, hm⟩ := hI5.sty.map
    have hlk := hM.look nv (by unfold maxLen; omega)
    have hmp := cell_of hI5.vars.mp 0
    have hn0 := cell_of hI5.said.c0 0
    have hn1 := cell_of hI5.said.c1 0
    have hn2 := cell_of hI5.said.c2 0
    simp only [List.getElem?_toArray, List.getElem?_cons_zero] at hmp hn0 hn1 hn2
    have HM := Lib.hid hM
    have HWS := Lib.hid (show W3.heap.size ≤ W4.heap.size ∧ W4.heap.size < W5.heap.size by have := hg5.size; simp at this; exact ⟨by omega, by omega⟩)
    clear hI hI5 hM hL2 hg5 hl5 hx hb5 hI0 hl3 hlC hlR hH
    have fin : ∀ (hf : hits (trimB x) had pre2.length = false), KeepsFrom W3.heap.size W5 W5 ∧ Same [Cb, R] W5 W5 ∧ InAt h s1 q (lensL (pre ++ [x])) pre.length w s had (trimB x) nv n bi W (pre2 ++ [e]) W5 :=
      fun hf => ⟨⟨Nat.le_refl _, fun _ _ _ h _ => h⟩, Same.refl _ _, HI5.out.snoc e hf⟩
    have FIN := Lib.hid fin
    clear fin
    cases bi with
    | false =>
      clear hlk
      gi_wp2
      exact FIN.out (by rw [HHE.out]; rfl)
    | true =>
      cases hc : had.contains nv.data.toList with
      | true =>
        rw [hc] at hlk
        simp only [if_true] at hlk
        have HF := Lib.hid (FIN.out (by rw [HHE.out, hc]; simp))
        clear hc
        gi_wp2
        all_goals exact HF.out
      | false =>
        rw [hc] at hlk
        simp only [Bool.false_eq_true, if_false] at hlk
        have HC := Lib.hid hc
        clear hc
        by_cases h1 : e.nm.toList = nv.toList
        · by_cases h2 : e.lo ≤ n
          · by_cases h3 : n ≤ e.hi
            · have HIT := Lib.hid (show hits (trimB x) had pre2.length = true by
                rw [HHE.out, HC.out, decide_eq_true h2, decide_eq_true h3]
                simp only [ByteArray.toList_eq] at h1
                simp [h1])
              have HPUT := Lib.hid (put_any s1 s W5 n HI5.out.sty.sty pre2.length hlen e HX.out)
              have HKY := Lib.hid (Go.WideMaps.keyOf_string_mk (P := Tryd.prog) Tryd.underlying9 (s := nv) (by unfold maxLen; omega))
              have HMM := Lib.hid (show m < maxLen by unfold maxLen; omega)
              gi_wp2_with (first
                | (refine ⟨trivial, ?_⟩; gi_at_call 30; refine (in_round HPUT.out).mono ?_; rintro e' W6 ⟨rfl, hS6, hg6⟩
                   have hM6 : MapN W6 (s1 + 1) m had D := HM.out.block (hg6.block _ HM.out.lt (fun e => by simp at e))
                   have hlk6 := hM6.look nv (by unfold maxLen; omega)
                   rw [HC.out] at hlk6
                   simp only [Bool.false_eq_true, if_false] at hlk6
                   have hV6 := HI5.out.vars.kept hg6 (fun r e => by cases e; exact .inl rfl)
                   have hA6 := HI5.out.said.kept hg6 (fun r e => by cases e; omega)
                   have y1 := cell_of hV6.mp 0
                   have y2 := cell_of hA6.c0 0
                   simp only [List.getElem?_toArray, List.getElem?_cons_zero] at y1 y2
                   have HG6 := Lib.hid hg6
                   have HS6 := Lib.hid hS6
                   have HM6 := Lib.hid hM6
                   have HV6 := Lib.hid hV6
                   clear hg6 hS6 hM6 hV6 hA6 hlk hmp hn0 hn1 hn2 c0 c1 c2 c3 c4 c5)
                | (gi_at_mapUpdate; refine wpListIn_mapUpdate_own _ rfl _ _ _ 67 rfl 9 3 keyStr Tryd.underlying67 _ (s1 + 1) m D rfl HM6.out.1 HMM.out _ _ _ rfl rfl HKY.out _ [] (plainElem_int Tryd.underlying3 (by decide)) ?_; intro W7 hown7 hg7))
              have hg6 := HG6.out
              have hV6 := HV6.out
              have e7 := HI5.out.vars.hi
              have g57 : ∀ k, k < W5.heap.size → k ≠ s1 → k ≠ s1 + 1 → W7.heap[k]? = W5.heap[k]? := fun k hk a1 a2 =>
                (hg7.block k (Nat.lt_of_lt_of_le hk hg6.size) (fun e => a2 (by simpa using e))).trans (hg6.block k hk (fun e => a1 (by simpa using e)))
              have hKS : KS (s1 + 7) [s1 + 4, s1 + 5, s1 + 6] W W7 := by
                have k5 := HI5.out.ks
                have z5 := HI5.out.sz
                have k6 := k5.grown hg6 (fun k hk => by simp at hk; omega) z5 (fun r e => by cases e; exact .inr ⟨by omega, by simp⟩)
                exact k6.grown hg7 (fun k hk => by simp at hk; omega) (Nat.le_trans z5 hg6.size) (fun r e => by cases e; exact .inr ⟨by omega, by simp⟩)
              refine ⟨⟨Nat.le_trans hg6.size hg7.size, fun k o hk ho hc => (g57 k (Array.getElem?_eq_some_iff.1 ho).1 (by omega) (by omega)).trans ho⟩, rfl, hKS, Nat.le_trans HI5.out.sz (Nat.le_trans hg6.size hg7.size), s.put pre2.length n, nv.data.toList :: had, fun suf' hL' => ?_, ⟨HS6.out.block (hg7.block _ HS6.out.lt (fun e => by simp at e)), _, _, HM6.out.step hown7, by simp; omega⟩, hV6.kept hg7 (fun r e => by cases e; exact .inr (.inl rfl))⟩
              obtain ⟨n1, n2⟩ := HN.out trivial
              rw [HP.out (x :: suf') (by rw [hL']; simp), parse_hit HI.out (hitL_some hlen HI5.out.no HIT.out), lens_snoc, n1, n2]
            · have HF := Lib.hid (FIN.out (by rw [HHE.out, decide_eq_false h3]; simp))
              gi_wp2
              exact HF.out
          · have HF := Lib.hid (FIN.out (by rw [HHE.out, decide_eq_false h2]; simp))
            gi_wp2
            exact HF.out
        · have HF := Lib.hid (FIN.out (by simp only [ByteArray.toList_eq] at h1; rw [HHE.out, beq_eq_false_iff_ne.2 h1]; simp))
          gi_wp2
          exact HF.out
  case done =>
    intro W' hI
    have hS8 := set_sty hI.vars.r0 zeroSty
    have g8 : W'.grownBy (W'.setRow h zeroSty.cells.toArray) (some h) := ⟨rfl, rfl, rfl, by simp, fun k hk hne => setRow_other _ _ _ _ (fun e => hne (by rw [e]))⟩
    have r18 := (setRow_other W' h (h + 1) zeroSty.cells.toArray (by omega)).trans hI.vars.r1
    have r28 := (setRow_other W' h (h + 2) zeroSty.cells.toArray (by omega)).trans hI.vars.r2
    obtain ⟨W8, hW8⟩ : ∃ W8, W'.setRow h zeroSty.cells.toArray = W8 := ⟨_, rfl⟩
    rw [hW8] at hS8 g8 r18 r28
    have l18 := (Array.getElem?_eq_some_iff.1 r18).1
    have l28 := (Array.getElem?_eq_some_iff.1 r28).1
    have c18 := cell_of r18 0
    have c28 := cell_of r28 0
    have f18 := frozen_of_row _ (h + 1) 0 _ _ r18
    have f28 := frozen_of_row _ (h + 2) 0 _ _ r28
    simp only [List.getElem?_toArray, List.getElem?_cons_zero] at c18 c28
    have HG8 := Lib.hid g8
    have HS8 := Lib.hid hS8
    have HR8 := Lib.hid (And.intro r18 r28)
    have HI' := Lib.hid hI
    have HR0 := Lib.hid (show W'.heap[h]? = some (.cells zeroSty.cells.toArray 23 (0, 0)) from hI.vars.r0)
    have HW8 := Lib.hid hW8
    clear hW8 g8 hS8 r18 r28 hI hI0 hl3 hlC hlR hH
    gi_wp2_with (refine wpListIn_store_row rfl 23 (.tmp 2) (.tmp 85) rfl h zeroSty.cells.toArray rfl rfl 23 _ HR0.out (by kernel_rfl) rfl (by kernel_rfl) ?_; rw [HW8.out])
    obtain ⟨r18, r28⟩ := HR8.out
    have hvi := HI'.out.vars
    have hlo := hvi.lo
    have hhi := hvi.hi
    have g9 := grownBy_setCellAt W8 (h + 1) 0 (.int .i64 bg)
    have g10 := grownBy_setCellAt (W8.setCell ⟨h + 1, 0, none⟩ (.int .i64 bg)) (h + 2) 0 (.int .i64 90)
    have z8 := HG8.out.size
    have zi := HI'.out.sz
    refine HQ2.out _ _ ?_ ⟨bg, ?_, ?_, ?_, ?_, ?_⟩
    · have k8 := HI'.out.ks.grown HG8.out (fun k hk => by simp at hk; omega) zi (fun r e => by cases e; exact .inr ⟨by omega, by simp; omega⟩)
      have k9 := k8.grown g9 (fun k hk => by simp at hk; omega) (by omega) (fun r e => by cases e; exact .inr ⟨by omega, by simp; omega⟩)
      exact k9.grown g10 (fun k hk => by simp at hk; omega) (by have := g9.size; omega) (fun r e => by cases e; exact .inr ⟨by omega, by simp; omega⟩)
    · rw [HP.out (x :: suf) HL.out, parse_none HI.out (hitL_none fun j hj => HI'.out.no j (by simp [entL]; omega)), HB.out]
    · refine HS8.out.block ((g10.block h ?_ (fun e => by simp at e)).trans (g9.block h (by omega) (fun e => by simp at e)))
      have := g9.size
      omega
    · exact (g10.block (h + 1) (by have := g9.size; omega) (fun e => by simp at e)).trans ((heap_setCell_same _ _ _ _ _ _ r18).trans rfl)
    · exact (heap_setCell_same _ _ _ _ _ _ ((g9.block (h + 2) l28 (fun e => by simp at e)).trans r28)).trans rfl
    · have b8 := hvi.below.grown HG8.out (by omega) (fun k e => by cases e; omega)
      have b9 := b8.grown g9 (by omega) (fun k e => by cases e; omega)
      exact b9.grown g10 (by have := g9.size; omega) (fun k e => by cases e; omega)
  case stop =>
    rintro c pre2 suf2 W' hL2 ⟨rfl, hk, _, hP'⟩
    gi_wp2
    exact HQ1.out _ _ hk hP'
end Go.Proofs.YtjfpfmknngkgaaaDoor
