/- First: the style as it is at first. No condition. -/
import Derived.Test.YtjfpfmknngkgaaaDoorPut
import Derived.Laws.CopyOwn
namespace Go.Proofs.YtjfpfmknngkgaaaDoor
set_option linter.unusedVariables false
set_option linter.unusedSimpArgs false
open Go.RowKit Rng
attribute [local go_sem] Oper.semAt_some
def zeroSty : Sty := ⟨0, 0, 0, 0, false, false, false, 0, 0, 0, 0, 0, 0, 0, 0, 0, 0, 0⟩
def firstSty : Sty := ⟨80, 4, 8, 1, false, true, true, 1000, 10, 1, 5, 3, 4, 6, 7, 8, 9, 20⟩
/-- What an entry is at first. -/
def fiAt (i : Nat) : Int := ((entL 0)[i]?.map Ent.fi).getD 0
theorem fiAt_eq {B i : Nat} {e : Ent} (h : (entL B)[i]? = some e) (hi : i < 18) : fiAt i = e.fi := by
  match i, hi with
  | 0, _ | 1, _ | 2, _ | 3, _ | 4, _ | 5, _ | 6, _ | 7, _ | 8, _ | 9, _ | 10, _ | 11, _ | 12, _ | 13, _ | 14, _ | 15, _ | 16, _ | 17, _ => simp [entL] at h; subst h; rfl
def firstTo (k : Nat) : Sty := (List.range k).foldl (fun s i => s.put i (fiAt i)) zeroSty
theorem firstTo_succ (k : Nat) : firstTo (k + 1) = (firstTo k).put k (fiAt k) := by simp [firstTo, List.range_succ]
theorem firstTo_all : firstTo 18 = firstSty := by rfl
/-- Within the range: the result's block, the style so far. -/
def FstAt (h : Nat) (w : World) (pre : List Ent) (W : World) : Prop := SAt W h zeroSty ∧ SAt W (h + 1) (firstTo pre.length) ∧ Below h w W
theorem FstAt.kept {h : Nat} {w : World} {pre : List Ent} {X Y : World} {row : Option Nat} (hn : FstAt h w pre X) (hg : X.grownBy Y row) (hr : ∀ r, row = some r → h + 1 < r) : FstAt h w pre Y := by
  obtain ⟨h1, h2, h3⟩ := hn
  have l1 := h1.lt
  have l2 := h2.lt
  exact ⟨h1.block (hg.block _ l1 (fun e => by have := hr _ e.symm; omega)), h2.block (hg.block _ l2 (fun e => by have := hr _ e.symm; omega)), h3.grown hg (by omega) (fun k e => by have := hr k e; omega)⟩
theorem store_sty {W : World} {B : Nat} {s : Sty} (h : SAt W B s) (t : Sty) : (storeCells ⟨B, 0, none⟩ t.cells).run Tryd.prog W = .ok () (W.setRow B t.cells.toArray) := by
  have := run_storeCells_from (P := Tryd.prog) B 23 t.cells 0 s.cells.toArray W h (by simp [Sty.cells]) (fun v hv => by simp [Sty.cells] at hv; rcases hv with rfl | rfl | rfl | rfl | rfl | rfl | rfl | rfl | rfl | rfl | rfl | rfl | rfl | rfl | rfl | rfl | rfl | rfl <;> rfl)
  simpa [Sty.cells] using this
theorem set_sty {W : World} {B : Nat} {s : Sty} (h : SAt W B s) (t : Sty) : SAt (W.setRow B t.cells.toArray) B t := by
  unfold SAt
  exact setRow_heap W B _ _ _ _ h
set_option maxRecDepth 100000 in
set_option maxHeartbeats 2000000 in
theorem first_calls (w : World) : Calls Tryd.prog 14 #[] w fun e w' => e = .returned firstSty.val ∧ Below w.heap.size w w' := by
  refine (callsIn_wide (n := 8)).1 ?_
  refine callsIn_of_wp_marks Tryd.func14 rfl trivial ?_ rfl
  simp only [Tryd.ntmps14, List.size_toArray, List.length_cons, List.length_nil, Nat.reduceAdd, Nat.reduceSub, Array.replicate_succ, Array.replicate_zero, List.push_toArray, List.append_toArray, List.nil_append, List.cons_append]
  refine wpIn_wide.2 ?_
  obtain ⟨h, hh⟩ : ∃ h, w.heap.size = h := ⟨_, rfl⟩
  go_upto_region 2 with fail
  have hz : (#[.int .i64 0, .int .i64 0, .int .i64 0, .int .i64 0, .bool false, .bool false, .bool false, .int .i64 0, .int .i64 0, .int .i64 0, .int .i64 0, .int .i64 0, .int .i64 0, .int .i64 0, .int .i64 0, .int .i64 0, .int .i64 0, .int .i64 0] : Array Value) = zeroSty.cells.toArray := rfl
  rw [hz]
  clear hz
  obtain ⟨W0, hW0⟩ : ∃ W0, (w.alloc (.cells zeroSty.cells.toArray 23)).alloc (.cells zeroSty.cells.toArray 23) = W0 := ⟨_, rfl⟩
  have hs0 : W0.heap.size = h + 2 := by rw [← hW0, ← hh]; simp
  have ha0 : SAt W0 h zeroSty := by
    unfold SAt
    rw [← hW0, ← hh]
    exact (Below.heap_alloc _ _ _ (by simp)).trans (World.alloc_heap_new w _)
  have hb0 : SAt W0 (h + 1) zeroSty := by
    unfold SAt
    rw [← hW0, ← hh]
    have := World.alloc_heap_new (w.alloc (.cells zeroSty.cells.toArray 23)) (.cells zeroSty.cells.toArray 23)
    rwa [World.size_alloc] at this
  have hB0 : Below h w W0 := by rw [← hW0, ← hh]; exact ((Below.refl _ w).alloc (Nat.le_refl _) _).alloc (by simp) _
  rw [hW0]
  clear hW0
  go_wp2_with (go_at_call 18; refine (entries_calls _ _).mono ?_; rintro e W3 ⟨R, Cb, cap, rfl, hH, hCb, hR, hB⟩)
  have hB3 : Below h w W3 := hB0.trans (hB.mono (by omega))
  have hsz3 := hB.size
  have hA0 : FstAt h w [] W3 := ⟨ha0.block (hB.block _ (by omega)), hb0.block (hB.block _ (by omega)), hB3⟩
  have hlC : Cb < W3.heap.size := World.block_lt_of_cell? _ _ hH.1
  have hlR : R < W3.heap.size := World.block_lt_of_cell? _ _ (hH.2.1 0 _ rfl).1
  have HH := Lib.hid hh
  clear ha0 hb0 hB0 hh hB hB3
  refine (wpIn_wide (n := 8)).1 ?_
  refine range_law (n := 8) (gf := 34) (lb := #[.pointer (some ⟨Cb, 0, none⟩)]) rfl (enters_of Tryd.func34 (by kernel_rfl) rfl) (entries1_iter R Cb cap (entL (h + 1)) (by simp [entL])) (by intro _; rfl)
    (fun k h => by cases h) (fun k h => by simp at h; omega)
    (fun W hg => hH.of_same (Same.grown hg (by simp; omega) (fun r e => by cases e)))
    (FstAt h w) (fun _ _ _ => False)
    (fun s X Y row hI hg hr => hI.kept hg (fun r e => by
      rcases hr r e with h1 | ⟨h1, _⟩
      · simp at h1
      · omega))
    (fun c => (abides_pure _ _ (fun _ => False))) hA0 ?round ?done ?stop
  case round =>
    rintro q pre x suf W hL hq hqW hI
    have hlen : pre.length < 18 := by have := congrArg List.length hL; simp [entL] at this; omega
    have hx : (entL (h + 1))[pre.length]? = some x := by rw [hL]; simp
    gi_wp2
    refine ⟨(KeepsOthers.alloc _ _).from _, Same.grown (World.grownBy_alloc W _ none) (by simp; omega) (fun r e => by cases e), fun W2 hg2 hl2 => ?_⟩
    have hb2 := cells_kept (World.alloc_heap_new W _) hg2 hl2
    have c0 := cell_of hb2 0
    have c1 := cell_of hb2 1
    have c2 := cell_of hb2 2
    have c3 := cell_of hb2 3
    have c4 := cell_of hb2 4
    have c5 := cell_of hb2 5
    simp at c0 c1 c2 c3 c4 c5
    have hI2 : FstAt h w pre W2 := (hI.kept (World.grownBy_alloc W _ none) (fun r e => by cases e)).kept hg2 (fun r e => by cases e; omega)
    have HP := Lib.hid (put_any (h + 1) (firstTo pre.length) W2 x.fi hI2.2.1 pre.length hlen x hx)
    have HF := Lib.hid (show firstTo (pre ++ [x]).length = (firstTo pre.length).put pre.length x.fi by rw [List.length_append, List.length_singleton, firstTo_succ, fiAt_eq hx hlen])
    have HI2 := Lib.hid hI2
    have HS2 := Lib.hid (show h + 2 ≤ W2.heap.size from hI2.2.1.lt)
    have HRC := Lib.hid (And.intro hR hCb)
    have HS0 := Lib.hid hs0
    have HWS := Lib.hid (show W3.heap.size ≤ W2.heap.size by have := hg2.size; simp at this; omega)
    clear hI hI2 hL hg2 hl2 hx hA0 hb2 hR hCb hs0
    gi_wp2_with (refine ⟨trivial, ?_⟩; gi_at_call 30; refine (in_round HP.out).mono ?_; rintro e W4 ⟨rfl, hS4, hg4⟩)
    have hl1 := HI2.out.1.lt
    refine ⟨⟨hg4.size, fun k o hk ho hc => (hg4.block k (Array.getElem?_eq_some_iff.1 ho).1 (fun e => by cases e; have := HS0.out; omega)).trans ho⟩, fun k hk => hg4.block k ?_ (fun e => ?_), HI2.out.1.block (hg4.block _ hl1 (fun e => by simp at e)), by rw [HF.out]; exact hS4, HI2.out.2.2.grown hg4 (by omega) (fun k e => by cases e; omega)⟩
    · have := HWS.out
      simp at hk
      omega
    · have := HRC.out
      have := HS0.out
      simp at hk
      cases e
      omega
  case done =>
    rintro K W hK ⟨h1, h2, h3⟩ hKd
    have hK2 := (Array.getElem?_eq_some_iff.1 hKd).1
    rw [show (entL (h + 1)).length = 18 from rfl, firstTo_all] at h2
    have hf := frozen_of_row W h 0 _ _ h1
    have hst := store_sty h1 firstSty
    have H1 := Lib.hid h1
    unfold SAt at h2
    clear h1
    go_wp2_with (first
      | (refine wpList_load_row rfl 23 _ rfl (h + 1) rfl 23 _ (0, 0) _ h2 Tryd.underlying23 rfl (by kernel_rfl) ?_))
    have h5 := set_sty H1.out firstSty
    have hk5 : (W.setRow h firstSty.cells.toArray).heap[K]? = some (.deferred (some [])) := (setRow_other W h K _ (fun e => by have := H1.out.lt; have := h3.size; omega)).trans hKd
    refine ⟨by simp, .inl ⟨_, _, rfl, run_takeDeferred hk5, ?_⟩⟩
    refine ⟨firstSty.val, ?_, rfl, ?_⟩
    · have h6 : SAt ((W.setRow h firstSty.cells.toArray).putObj K (.deferred none)) h firstSty := h5.block (World.putObj_heap_other (by omega))
      obtain ⟨V, hV⟩ : ∃ V, (W.setRow h firstSty.cells.toArray).putObj K (.deferred none) = V := ⟨_, rfl⟩
      rw [hV] at h6 ⊢
      have hl := run_loadVar_row (P := Tryd.prog) V h 23 23 firstSty.cells.toArray (0, 0) _ h6 Tryd.underlying23 rfl (by kernel_rfl)
      have ha : (asAddr (.pointer (some ⟨h, 0, none⟩))).run Tryd.prog V = .ok ⟨h, 0, none⟩ V := by simp [go_sem]
      simp [results, Tryd.f14, ha]
      exact hl
    · rw [HH.out]
      have hsz := h3.size
      have hl1 := H1.out.lt
      have g5 : Below h w (W.setRow h firstSty.cells.toArray) := below_setRow h3 (Nat.le_refl _) _
      exact g5.trans ((Below.refl _ _).grown (grownBy_putObj' _ _ _) (by simp; omega) (fun k e => by cases e; omega))
  case stop =>
    rintro K c pre suf W hK hL hF hKd
    exact hF.elim
end Go.Proofs.YtjfpfmknngkgaaaDoor
