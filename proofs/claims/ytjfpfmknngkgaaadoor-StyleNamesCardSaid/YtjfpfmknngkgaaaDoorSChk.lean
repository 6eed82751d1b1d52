/- Check answers 0 where each number of a style is in its range, else 90. No condition. -/
import Derived.Test.YtjfpfmknngkgaaaDoorSSty
import Derived.Shelf.Abstract
import Derived.Shelf.RegionOpen
namespace Go.Proofs.YtjfpfmknngkgaaaDoor
set_option linter.unusedVariables false
set_option linter.unusedSimpArgs false
open Go.RowKit Go.Shelf Rng
attribute [local go_sem] Oper.semAt_some
/-- Is entry i out of its range? -/
def badAt (s : Sty) (i : Nat) : Bool := match (entL 0)[i]? with
  | some e => decide (s.nums.getD i 0 < e.lo ∨ e.hi < s.nums.getD i 0)
  | none => false
def Sty.bad (s : Sty) : Bool := (List.range 18).any (badAt s)
def Sty.chk (s : Sty) : Int := if s.bad then 90 else 0
theorem badAt_eq {s : Sty} {B i : Nat} {e : Ent} (h : (entL B)[i]? = some e) (hi : i < 18) : badAt s i = decide (s.nums.getD i 0 < e.lo ∨ e.hi < s.nums.getD i 0) := by
  have key : ∀ i, i < 18 → ∀ e, (entL B)[i]? = some e → ∃ e0, (entL 0)[i]? = some e0 ∧ e0.lo = e.lo ∧ e0.hi = e.hi := fun i hi e he => match i, hi with
    | 0, _ | 1, _ | 2, _ | 3, _ | 4, _ | 5, _ | 6, _ | 7, _ | 8, _ | 9, _ | 10, _ | 11, _ | 12, _ | 13, _ | 14, _ | 15, _ | 16, _ | 17, _ => by
      simp [entL] at he; subst he; exact ⟨_, rfl, rfl, rfl⟩
  obtain ⟨e0, h0, h1, h2⟩ := key i hi e h
  unfold badAt
  rw [h0]
  simp only [h1, h2]

set_option maxRecDepth 100000 in
set_option maxHeartbeats 1000000 in
theorem check_calls (s : Sty) (w : World) :
    Calls Tryd.prog 10 #[s.val] w fun e w' => e = .returned (.int .i64 s.chk) ∧ Below w.heap.size w w' := by
  refine (callsIn_wide (n := 8)).1 ?_
  refine callsIn_of_wp_marks Tryd.func10 rfl trivial ?_ rfl
  simp only [Tryd.ntmps10, List.size_toArray, List.length_cons, List.length_nil, Nat.reduceAdd, Nat.reduceSub, Array.replicate_succ, Array.replicate_zero, List.push_toArray, List.append_toArray, List.nil_append, List.cons_append]
  gi_wp2_with (refine ⟨trivial, ?_⟩; gi_at_call 18; refine (callsIn_wide.2 (entries_calls _ _)).mono ?_; rintro e w' ⟨R, Cb, cap, rfl, hH, hCb, hR, hB⟩)
  obtain ⟨W0, hW0⟩ : ∃ W0, (w.alloc (.cells s.cells.toArray 23)).alloc (.cells #[.int .i64 0] 24) = W0 := ⟨_, rfl⟩
  have hS0 : StyAt W0 w.heap.size s := by rw [← hW0]; exact (styAt_new w s 23).kept (World.grownBy_alloc _ _ none) (by simp)
  have hR0 : Boxed W0 (w.heap.size + 1) 24 (.int .i64 0) := by rw [← hW0]; have := Boxed.new (w.alloc (.cells s.cells.toArray 23)) 24 (.int .i64 0); rwa [World.size_alloc] at this
  have hB0 : Below w.heap.size w W0 := by rw [← hW0]; exact ((Below.refl _ w).alloc (Nat.le_refl _) _).alloc (by simp) _
  have hsz : W0.heap.size = w.heap.size + 2 := by rw [← hW0]; simp
  replace hB : Below W0.heap.size W0 w' := by rw [← hW0]; exact hB
  replace hCb : W0.heap.size ≤ Cb := by rw [← hW0]; exact hCb
  replace hR : W0.heap.size ≤ R := by rw [← hW0]; exact hR
  clear hW0
  have hS1 : StyAt w' w.heap.size s := hS0.of_block (hB.block _ (by omega))
  have hR1 : Boxed w' (w.heap.size + 1) 24 (.int .i64 0) := (hB.block _ (by omega)).trans hR0
  have hB1 : Below w.heap.size w w' := hB0.trans (hB.mono (by omega))
  have hsz1 := hB.size
  have hlC : Cb < w'.heap.size := World.block_lt_of_cell? _ _ hH.1
  have hlR : R < w'.heap.size := World.block_lt_of_cell? _ _ (hH.2.1 0 _ rfl).1
  refine range_law (n := 8) (gf := 34) (lb := #[.pointer (some ⟨Cb, 0, none⟩)]) rfl (enters_of Tryd.func34 (by kernel_rfl) rfl) (entries1_iter R Cb cap (entL w.heap.size) (by simp [entL])) (by intro _; rfl)
    (fun k h => by cases h) (fun k h => by simp at h; omega)
    (fun W hg => hH.of_same (Same.grown hg (by simp; omega) (fun r e => by cases e)))
    (fun pre W => (Below w.heap.size w W ∧ StyAt W w.heap.size s) ∧ Boxed W (w.heap.size + 1) 24 (.int .i64 0) ∧ ∀ i, i < pre.length → badAt s i = false)
    (fun c _ W => c = .ret ∧ Below w.heap.size w W ∧ Boxed W (w.heap.size + 1) 24 (.int .i64 90) ∧ s.bad = true)
    ((Abides.and (abides_below (Nat.le_refl _) (by omega) (by simp)) (abides_block (b := w.heap.size) (by simp) (fun _ _ _ h e => h.of_block e) (fun _ _ h => cells_at (h 0 _ rfl)))).and ((abides_boxed (by simp) _ _).and (abides_pure _ _ _)))
    (fun c => (abides_pure _ _ (fun _ => c = Code.ret)).and ((abides_below (Nat.le_refl _) (by omega) (by simp)).and ((abides_boxed (by simp) _ _).and (abides_pure _ _ _))))
    ⟨⟨hB1, hS1⟩, hR1, fun i h => by simp at h⟩ ?round ?done ?stop
  case round =>
    rintro l pre x suf W hL hl hlW ⟨⟨hBW, hSW⟩, hRW, hbad⟩
    have hlen : pre.length < 18 := by have := congrArg List.length hL; simp [entL] at this; omega
    have hx : (entL w.heap.size)[pre.length]? = some x := by rw [hL]; simp
    have hsW := hBW.size
    gi_wp2
    refine ⟨(KeepsOthers.alloc _ _).from _, Same.grown (World.grownBy_alloc W _ none) (by simp; omega) (fun r e => by cases e), fun W2 hg2 hl2 => ?_⟩
    have hb2 := cells_kept (World.alloc_heap_new W _) hg2 hl2
    have c0 := cell_of hb2 0
    have c1 := cell_of hb2 1
    have c2 := cell_of hb2 2
    have c3 := cell_of hb2 3
    have c4 := cell_of hb2 4
    have c5 := cell_of hb2 5
    simp at c0 c1 c2 c3 c4 c5
    have hS2 : StyAt W2 w.heap.size s := hSW.of_block ((block_kept (W1 := W.alloc _) ((World.cell?_of_block (w := W) (Below.heap_alloc _ _ _ hSW.lt)).trans (hSW 0 _ rfl)) hg2 hl2).trans (Below.heap_alloc _ _ _ hSW.lt))
    have hR2 : Boxed W2 (w.heap.size + 1) 24 (.int .i64 0) := cells_kept (hRW.alloc _) hg2 hl2
    have hB2 : Below w.heap.size w W2 := (hBW.alloc hsW _).trans (below_record hg2 (by simp; omega) (by omega))
    have hsz2 := hg2.size
    simp at hsz2
    have hbd := badAt_eq (s := s) hx hlen
    have hg := get_any w.heap.size s W2 hS2 hS2.lt pre.length hlen x hx
    obtain ⟨v, hv⟩ : ∃ v, s.nums.getD pre.length 0 = v := ⟨_, rfl⟩
    rw [hv] at hg hbd
    clear hv hx hSW hRW hBW hb2
    have HG := Lib.hid hg
    have HB := Lib.hid hbd
    have HL := Lib.hid hL
    have HO := Lib.hid hbad
    clear hg hbd hL hbad hg2
    have hf2 := hR2.frozen
    have hc2 := hR2.cell
    have hany : ∀ b, badAt s pre.length = b → b = true → s.bad = true := fun b h1 h2 => List.any_eq_true.2 ⟨pre.length, by simpa using hlen, by rw [h1]; exact h2⟩
    have hok : badAt s pre.length = false → ∀ i, i < (pre ++ [x]).length → badAt s i = false := fun h i hi => by
      by_cases e : i = pre.length
      · rw [e]; exact h
      · exact HO.out i (by simp at hi; omega)
    by_cases h1 : v < x.lo
    · have HBAD := Lib.hid (hany _ HB.out (by simp [h1]))
      clear hok hany HB
      gi_wp2_with (refine ⟨trivial, ?_⟩; gi_at_call 21; refine (in_round HG.out).mono ?_; rintro e W3 ⟨rfl, hB3⟩; have hz3 := hB3.size; have d1 := (hB3.cell (p := ⟨W.heap.size, 1, none⟩) (by simp; omega)).trans c1; have d4 := (hB3.cell (p := ⟨W.heap.size, 2, none⟩) (by simp; omega)).trans c2; have d2 := (hB3.cell (p := ⟨w.heap.size + 1, 0, none⟩) hR2.lt).trans hc2; have d3 := (hB3.frozen (p := ⟨w.heap.size + 1, 0, none⟩) hR2.lt).trans hf2; have dR : Boxed W3 (w.heap.size + 1) 24 (.int .i64 0) := (hB3.block _ hR2.lt).trans hR2; have dS := hS2.of_block (hB3.block _ hS2.lt))
      exact ⟨(keepsFrom_below hB3).trans keepsFrom_setCell, rfl, (hB2.trans (hB3.mono (by omega))).setCell (p := ⟨w.heap.size + 1, 0, none⟩) (by simp) _, dR.set _, HBAD.out⟩
    · by_cases h2 : x.hi < v
      · have HBAD := Lib.hid (hany _ HB.out (by simp [h2]))
        clear hok hany HB
        gi_wp2_with (refine ⟨trivial, ?_⟩; gi_at_call 21; refine (in_round HG.out).mono ?_; rintro e W3 ⟨rfl, hB3⟩; have hz3 := hB3.size; have d1 := (hB3.cell (p := ⟨W.heap.size, 1, none⟩) (by simp; omega)).trans c1; have d4 := (hB3.cell (p := ⟨W.heap.size, 2, none⟩) (by simp; omega)).trans c2; have d2 := (hB3.cell (p := ⟨w.heap.size + 1, 0, none⟩) hR2.lt).trans hc2; have d3 := (hB3.frozen (p := ⟨w.heap.size + 1, 0, none⟩) hR2.lt).trans hf2; have dR : Boxed W3 (w.heap.size + 1) 24 (.int .i64 0) := (hB3.block _ hR2.lt).trans hR2; have dS := hS2.of_block (hB3.block _ hS2.lt))
        exact ⟨(keepsFrom_below hB3).trans keepsFrom_setCell, rfl, (hB2.trans (hB3.mono (by omega))).setCell (p := ⟨w.heap.size + 1, 0, none⟩) (by simp) _, dR.set _, HBAD.out⟩
      · have HOK := Lib.hid (hok (HB.out.trans (by simp; omega)))
        clear hok hany HB
        gi_wp2_with (refine ⟨trivial, ?_⟩; gi_at_call 21; refine (in_round HG.out).mono ?_; rintro e W3 ⟨rfl, hB3⟩; have hz3 := hB3.size; have d1 := (hB3.cell (p := ⟨W.heap.size, 1, none⟩) (by simp; omega)).trans c1; have d4 := (hB3.cell (p := ⟨W.heap.size, 2, none⟩) (by simp; omega)).trans c2; have d2 := (hB3.cell (p := ⟨w.heap.size + 1, 0, none⟩) hR2.lt).trans hc2; have d3 := (hB3.frozen (p := ⟨w.heap.size + 1, 0, none⟩) hR2.lt).trans hf2; have dR : Boxed W3 (w.heap.size + 1) 24 (.int .i64 0) := (hB3.block _ hR2.lt).trans hR2; have dS := hS2.of_block (hB3.block _ hS2.lt))
        exact ⟨keepsFrom_below hB3, same_below hB3 (by simp; omega), ⟨hB2.trans (hB3.mono (by omega)), dS⟩, dR, HOK.out⟩
  case done =>
    rintro K W hK ⟨⟨hBW, hSW⟩, hRW, hbad⟩ hKd
    have hb : s.bad = false := by
      unfold Sty.bad
      rw [List.any_eq_false]
      intro i hi
      simp [hbad i (by simpa [entL] using hi)]
    have HF := Lib.hid hb
    clear hb hbad
    have hc := hRW.cell
    have hf := hRW.frozen
    gi_wp2
    refine ⟨by simp, .inl ⟨_, _, rfl, run_takeDeferred ((KeepsOthers.setCell _ _ _).same _ _ hKd rfl), ?_⟩⟩
    have hc5 : ((W.setCell ⟨w.heap.size + 1, 0, none⟩ (.int .i64 0)).putObj K (.deferred none)).cell? ⟨w.heap.size + 1, 0, none⟩ = some (.int .i64 0) :=
      (World.cell?_of_block (World.putObj_heap_other (k := w.heap.size + 1) (by omega))).trans (hRW.set (.int .i64 0)).cell
    refine ⟨.int .i64 0, ?_, by rw [Sty.chk, HF.out]; rfl, (hBW.setCell (p := ⟨w.heap.size + 1, 0, none⟩) (by simp) _).trans ((Below.refl _ _).grown (grownBy_putObj' _ _ _) ?_ (fun k e => by cases e; omega))⟩
    · simp [results, Tryd.f10, go_sem, hc5]
    · exact Nat.le_trans hBW.size (KeepsOthers.setCell _ _ _).size
  case stop =>
    rintro K c pre suf W hK hL ⟨rfl, hBW, hRW, hbad⟩ hKd
    have HF := Lib.hid hbad
    clear hbad
    have hc := hRW.cell
    gi_wp2
    refine ⟨by simp, .inl ⟨_, _, rfl, run_takeDeferred hKd, ?_⟩⟩
    have hc5 : (W.putObj K (.deferred none)).cell? ⟨w.heap.size + 1, 0, none⟩ = some (.int .i64 90) :=
      (World.cell?_of_block (World.putObj_heap_other (k := w.heap.size + 1) (by omega))).trans hc
    refine ⟨.int .i64 90, ?_, by rw [Sty.chk, HF.out]; rfl, hBW.trans ((Below.refl _ _).grown (grownBy_putObj' _ _ _) hBW.size (fun k e => by cases e; omega))⟩
    simp [results, Tryd.f10, go_sem, hc5]
end Go.Proofs.YtjfpfmknngkgaaaDoor
