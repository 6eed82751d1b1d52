/- Print hands back a style's text, and 0; or the empty text and Check's error. Conditions: the numbers are int's; the library's table of powers of ten is as it is laid. -/
import Derived.Test.YtjfpfmknngkgaaaDoorSText
import Derived.Test.YtjfpfmknngkgaaaDoorLayB
import Derived.Test.YtjfpfmknngkgaaaDoorShelf
import Derived.Shelf.SlSorted.Search
import Derived.Lib.AppendIntMem
import Derived.Lib.OthersKept
import Derived.Laws.Rows
import Derived.BigQuiet
import Derived.Test.YtjfpfmknngkgaaaDoorQt
namespace Go.Proofs.YtjfpfmknngkgaaaDoor
set_option linter.unusedVariables false
set_option linter.unusedSimpArgs false
open Go.RowKit Go.Shelf Rng
attribute [local go_sem] Oper.semAt_some
theorem builderF_kept {T e : TypeId} {B b : Nat} {bs : List Value} {w w' : World} {row : Option Nat} (h : Lib.IsBuilderF T e B b bs w) (hg : w.grownBy w' row)
    (hr : ∀ r, row = some r → ∃ o : Obj, w.heap[r]? = some o ∧ o.isCells = false) : Lib.IsBuilderF T e B b bs w' := by
  have key : ∀ p, Lib.BuilderAtF T e B b p bs w → Lib.BuilderAtF T e B b p bs w' := by
    rintro p ⟨hB, v, hb, hown, hne⟩
    have hn : ∀ (k : Nat) (A : Array Value) (t : TypeId) (fr : Nat × Nat), w.heap[k]? = some (.cells A t fr) → some k ≠ row := fun k A t fr hk e => by
      obtain ⟨o, ho, hc⟩ := hr k e.symm
      rw [hk] at ho; cases ho; cases hc
    refine ⟨hB, v, (hg.block b (Array.getElem?_eq_some_iff.1 hb).1 (hn _ _ _ _ hb)).trans hb, hown.kept hg ?_, hne⟩
    rcases hown.2 with ⟨rfl, _⟩ | ⟨g, cap, cur, fz, rfl, _, hgb, _⟩
    · exact .inl rfl
    · exact .inr (hn _ _ _ _ hgb)
  rcases h with h | h
  · exact .inl (key _ h)
  · exact .inr (key _ h)
theorem kept_builder {T e : TypeId} {B b : Nat} {bs : List Value} {w w' : World} (h : Lib.IsBuilderF T e B b bs w) (hb : Below w.heap.size w w') : Lib.IsBuilderF T e B b bs w' :=
  builderF_kept h (row := none) ⟨hb.os, hb.tape, hb.output, hb.size, fun k hk _ => hb.block k hk⟩ (fun r e => by cases e)
theorem abides_builder {α : Type} {n T e : TypeId} {B b : Nat} {f : List α → List Value} {C : List Nat} (hC : C = []) : Rng.Abides n C (fun pre W => Lib.IsBuilderF T e B b (f pre) W) :=
  fun s X Y row h hg hr => builderF_kept h hg (fun r e => by
    rcases hr r e with h1 | h1
    · subst hC; cases h1
    · exact h1.2)
theorem abides_holds {β : Type} {n R Cb cap : Nat} {L : List Ent} : Rng.Abides n [] (fun (_ : β) W => Holds R Cb cap L W) :=
  fun s X Y row h hg hr => by
    have hn : ∀ (k : Nat) (A : Array Value) (t : TypeId) (fr : Nat × Nat), X.heap[k]? = some (.cells A t fr) → Y.heap[k]? = X.heap[k]? := fun k A t fr hk => hg.block k (Array.getElem?_eq_some_iff.1 hk).1 (fun e => by
      rcases hr k e.symm with h1 | ⟨_, o, ho, hc⟩
      · cases h1
      · rw [hk] at ho; cases ho; cases hc)
    obtain ⟨_, _, ⟨A1, f1, h1⟩, A2, f2, h2⟩ := id h
    exact h.of_same (fun k hk => by
      simp at hk
      rcases hk with rfl | rfl
      · exact hn _ _ _ _ h1
      · exact hn _ _ _ _ h2)
/-- The table of powers of ten stands, whatever comes behind w. -/
def Pow (B : Nat) (w : World) : Prop := Lib.TabBelow Tryd.prog B w "internal/strconv.uint64pow10" .u64 Lib.pow10Tab
theorem Pow.later {B : Nat} {w w' : World} (h : Pow B w) (hb : Below B w w') : Pow B w' := fun x hx => h x (hb.trans hx)
theorem itoa_calls (n : Int) (hn : InI64 n) (B : Nat) (w : World) (ht : Pow B w) :
    Calls Tryd.prog 20 #[.int .i64 n] w fun e w' => e = .returned (.string ⟨(Lib.itoa n).toArray⟩) ∧ Below w.heap.size w w' :=
  (Tryd.strconv_Itoa n hn.1 hn.2 w ht.here).mono fun _ _ ⟨h1, k, os, h2⟩ => ⟨h1, by rw [h2]; exact below_grown_sl _ _ _ _ (Nat.le_refl _)⟩

set_option maxRecDepth 100000 in
set_option maxHeartbeats 2000000 in
theorem print_ok (s : Sty) (hs : s.wf) (hok : s.bad = false) (w : World) (ht : Pow w.heap.size w) :
    Calls Tryd.prog 8 #[s.val] w fun e w' => e = .returned (.tuple #[.string ⟨(textTo s 18).toArray⟩, .int .i64 0]) ∧ Below w.heap.size w w' := by
  have ez : s.chk = 0 := by simp [Sty.chk, hok]
  have hc0 : ∀ W, Calls Tryd.prog 10 #[s.val] W fun e w' => e = .returned (.int .i64 0) ∧ Below W.heap.size W w' := fun W => by
    have h := check_calls s W
    rw [ez] at h
    exact h
  have HC := Lib.hid hc0
  clear hok hc0 ez
  have HT := Lib.hid ht
  have HW := Lib.hid hs
  clear ht hs
  refine (callsIn_wide (n := 8)).1 ?_
  refine callsIn_of_wp_marks Tryd.func8 rfl trivial ?_ rfl
  simp only [Tryd.ntmps8, List.size_toArray, List.length_cons, List.length_nil, Nat.reduceAdd, Nat.reduceSub, Array.replicate_succ, Array.replicate_zero, List.push_toArray, List.append_toArray, List.nil_append, List.cons_append]
  refine wpIn_wide.2 ?_
  go_upto_region 1 with fail
  obtain ⟨W0, hW0⟩ : ∃ W0, w.alloc (.cells s.cells.toArray 23) = W0 := ⟨_, rfl⟩
  have hb0 : W0.heap[w.heap.size]? = some (.cells s.cells.toArray 23 (0, 0)) := by rw [← hW0]; exact World.alloc_heap_new w _
  have hS0 : StyAt W0 w.heap.size s := by rw [← hW0]; exact styAt_new w s 23
  have hB0 : Below w.heap.size w W0 := by rw [← hW0]; exact (Below.refl _ w).alloc (Nat.le_refl _) _
  have hsz : W0.heap.size = w.heap.size + 1 := by rw [← hW0]; simp
  change Code.wp _ _ _ _ (w.alloc (.cells s.cells.toArray 23))
  rw [hW0]
  clear hW0
  have hlt0 : w.heap.size < W0.heap.size := by omega
  go_wp2_with (first | (refine wpList_load_row rfl 23 _ rfl w.heap.size rfl 23 _ (0, 0) _ hb0 Tryd.underlying23 rfl (by kernel_rfl) ?_) | (go_at_call 10; refine (HC.out _).mono ?_; rintro e w1 ⟨rfl, hB1⟩))
  obtain ⟨W1, hW1⟩ : ∃ W1, w1.alloc (.cells #[.pointer none, .slice none 0 0] 46) = W1 := ⟨_, rfl⟩
  have hbd1 : Lib.IsBuilderF 46 5 w1.heap.size w1.heap.size [] W1 := by
    rw [← hW1]
    exact Lib.IsBuilderF.of (.inl ⟨Nat.le_refl _, _, World.alloc_heap_new w1 _, World.ownsRow_nil _ _ _ _, by simp [Value.ownBlock]⟩)
  have hB2 : Below w.heap.size w W1 := by rw [← hW1]; exact (hB0.trans (hB1.mono hB0.size)).alloc (Nat.le_trans hB0.size hB1.size) _
  have hS1 : StyAt W1 w.heap.size s := by rw [← hW1]; exact (hS0.of_block (hB1.block _ hlt0)).kept (World.grownBy_alloc _ _ none) (by simp)
  have hsz1 : W1.heap.size = w1.heap.size + 1 := by rw [← hW1]; simp
  have hs01 := hB1.size
  rw [hW1]
  refine (entries_calls _ W1).mono ?_
  rintro e w2 ⟨R, Cb, cap, rfl, hH, hCb, hR, hB3⟩
  clear hW1 hB0 hB1 hb0 hS0
  go_wp2
  refine (wpIn_wide (n := 8)).1 ?_
  have hS2 : StyAt w2 w.heap.size s := hS1.of_block (hB3.block _ (by omega))
  have hB4 : Below w.heap.size w w2 := hB2.trans (hB3.mono (by omega))
  have hbd2 : Lib.IsBuilderF 46 5 w1.heap.size w1.heap.size [] w2 := kept_builder hbd1 hB3
  have hsz2 := hB3.size
  have hlC : Cb < w2.heap.size := World.block_lt_of_cell? _ _ hH.1
  have hlR : R < w2.heap.size := World.block_lt_of_cell? _ _ (hH.2.1 0 _ rfl).1
  clear hbd1 hS1 hB2 hB3
  refine range_law (n := 8) (gf := 34) (lb := #[.pointer (some ⟨Cb, 0, none⟩)]) rfl (enters_of Tryd.func34 (by kernel_rfl) rfl) (entries1_iter R Cb cap (entL w.heap.size) (by simp [entL])) (by intro _; rfl)
    (fun k h => by cases h) (fun k h => by simp at h; omega)
    (fun W hg => hH.of_same (Same.grown hg (by simp; omega) (fun r e => by cases e)))
    (fun pre W => (Below w.heap.size w W ∧ StyAt W w.heap.size s) ∧ Lib.IsBuilderF 46 5 w1.heap.size w1.heap.size (Lib.byteCells (textTo s pre.length)) W ∧ Holds R Cb cap (entL w.heap.size) W)
    (fun _ _ _ => False)
    ((Rng.Abides.and (abides_below (Nat.le_refl _) (by omega) (by simp)) (abides_block (b := w.heap.size) (by simp) (fun _ _ _ h e => h.of_block e) (fun _ _ h => cells_at (h 0 _ rfl)))).and ((abides_builder (by simp)).and abides_holds))
    (fun c => (abides_pure _ _ (fun _ => False)))
    ⟨⟨hB4, hS2⟩, hbd2, hH⟩ ?round ?done ?stop
  case round =>
    rintro l pre x suf W hL hl hlW ⟨⟨hBW, hSW⟩, hbW, hHW⟩
    have hlen : pre.length < 18 := by have := congrArg List.length hL; simp [entL] at this; omega
    have hx : (entL w.heap.size)[pre.length]? = some x := by rw [hL]; simp
    have hsW := hBW.size
    gi_wp2
    refine ⟨(KeepsOthers.alloc _ _).from _, Same.grown (World.grownBy_alloc W _ none) (by simp; omega) (fun r e => by cases e), fun W2 hg2 hl2 => ?_⟩
    have hb2 := cells_kept (World.alloc_heap_new W _) hg2 hl2
    have c0 := cell_of hb2 0
    have c1 := cell_of hb2 1
    have c2 := cell_of hb2 2
    have c3 := cell_of hb2 3
    have c4 := cell_of hb2 4
    have c5 := cell_of hb2 5
    simp at c0 c1 c2 c3 c4 c5
    have hgW : W.grownBy W2 (some l) := by
      have h1 := World.grownBy_alloc W (.cells #[.string x.nm, .int .i64 x.lo, .int .i64 x.hi, .int .i64 x.fi, .pointer x.n, .pointer x.is] 54) none
      exact ⟨hg2.os.trans h1.os, hg2.tape.trans h1.tape, hg2.output.trans h1.output, Nat.le_trans h1.size hg2.size, fun k hk hr => (hg2.block k (Nat.lt_of_lt_of_le hk h1.size) hr).trans (h1.block k hk (by simp))⟩
    have hlW2 : ∀ r, some l = some r → ∃ o : Obj, W.heap[r]? = some o ∧ o.isCells = false := fun r e => by
      cases e
      obtain ⟨o, ho, hc⟩ := hl2
      exact ⟨o, by rwa [Below.heap_alloc _ _ _ hlW] at ho, hc⟩
    have hbd2 := builderF_kept hbW hgW hlW2
    have hS2 : StyAt W2 w.heap.size s := hSW.of_block (block_kept (hSW 0 _ rfl) hgW (hlW2 l rfl))
    have hH2 : Holds R Cb cap (entL w.heap.size) W2 := abides_holds (β := Unit) (n := l) () W W2 (some l) hHW hgW (fun r e => .inr ⟨by cases e; exact Nat.le_refl _, hlW2 r e⟩)
    have hB2 : Below w.heap.size w W2 := hBW.grown hgW hsW (fun k e => by cases e; omega)
    have hsz2 := hg2.size
    simp at hsz2
    have hget : ∀ d os, Calls Tryd.prog 21 #[x.val] (Sort.grow (redrawn W2 d) os) fun e' w' => e' = .returned (.int .i64 (s.nums.getD pre.length 0)) ∧ Below (Sort.grow (redrawn W2 d) os).heap.size (Sort.grow (redrawn W2 d) os) w' := fun d os => by
      have hb := below_regrown W2 d os
      have hSd : StyAt (Sort.grow (redrawn W2 d) os) w.heap.size s := hS2.of_block (hb.block _ hS2.lt)
      exact get_any w.heap.size s _ hSd hSd.lt pre.length hlen x hx
    have hito : ∀ d os, Calls Tryd.prog 20 #[.int .i64 (s.nums.getD pre.length 0)] (Sort.grow (redrawn W2 d) os) fun e w' => e = .returned (.string ⟨(Lib.itoa (s.nums.getD pre.length 0)).toArray⟩) ∧ Below (Sort.grow (redrawn W2 d) os).heap.size (Sort.grow (redrawn W2 d) os) w' := fun d os =>
      itoa_calls _ (HW.out _) w.heap.size _ (HT.out.later (hB2.trans ((below_regrown W2 d os).mono (by omega))))
    obtain ⟨v, hv⟩ : ∃ v, s.nums.getD pre.length 0 = v := ⟨_, rfl⟩
    have hwf := HW.out pre.length
    rw [hv] at hget hito hwf
    obtain ⟨hnm, hns⟩ := nameOf_eq hx
    have hil := Lib.itoa_length_le v hwf.1 hwf.2
    have his : (⟨(Lib.itoa v).toArray⟩ : ByteArray).size ≤ 21 := by simpa [ByteArray.size] using hil
    have hd0 := fun d os => cell_regrown c0 d os
    have hd1 := fun d os => cell_regrown c1 d os
    have hd2 := fun d os => cell_regrown c2 d os
    have hd3 := fun d os => cell_regrown c3 d os
    have hd4 := fun d os => cell_regrown c4 d os
    have hd5 := fun d os => cell_regrown c5 d os
    have htl := textTo_length s HW.out pre.length
    have hls := lineS_size x.nm v hwf
    have hline : Lib.byteCells (textTo s pre.length) ++ Lib.strCells (lineS x.nm v) = Lib.byteCells (textTo s (pre ++ [x]).length) := by
      rw [List.length_append, List.length_singleton, textTo_succ, hnm, hv]
      simp [Lib.byteCells, Lib.strCells]
    have HL := Lib.hid hline
    have HG := Lib.hid hget
    have HI := Lib.hid hito
    have HBd := Lib.hid hbd2
    have HS2 := Lib.hid hS2
    have HH2 := Lib.hid hH2
    have HHB := Lib.hid hB2
    have hbl : (Lib.byteCells (textTo s pre.length)).length ≤ 600 := by simp [Lib.byteCells]; omega
    clear hline hget hito hbd2 hS2 hH2 hB2 hv hnm hL hx c0 c1 c2 c3 c4 c5 hb2 hbW hSW hHW hBW hgW hg2 htl
    refine wpIn_block ?_
    refine region_tail_round (r := l) (m := 8) 8 (by kernel_rfl) (by kernel_rfl) (by kernel_rfl) ?_
    simp only [List.take_succ_cons, List.take_zero, List.drop_succ_cons, List.drop_zero]
    repeat (go_big_quiet_step ((first | (go_at_call 21; exact Calls.regrown_of (HG.out _ _)) | (go_at_call 20; exact Calls.regrown_of (HI.out _ _)))))
    refine wpQuiet_nil ?_
    rintro _ ⟨p, rfl⟩
    have hB3 := below_regrown W2 p.d p.os
    have hsz3 := hB3.size
    gi_wp2_with (refine ⟨trivial, ?_⟩; gi_at_call 19; refine (in_round (Tryd.Builder_WriteString_k w1.heap.size w1.heap.size _ (lineS x.nm v) _ (kept_builder HBd.out hB3) (by omega) (by omega))).mono ?_; rintro e W4 ⟨rfl, hA, hB4, hO⟩)
    rw [HL.out] at hA
    have keepO : ∀ (k : Nat) (A : Array Value) (t : TypeId) (fr : Nat × Nat), t ≠ 5 → k ≠ w1.heap.size → (Sort.grow (redrawn W2 p.d) p.os).heap[k]? = some (.cells A t fr) → W4.heap[k]? = some (.cells A t fr) :=
      fun k A t fr ht hk h => hO k _ h (by simpa using hk) (fun c fz e => by cases e; exact ht rfl)
    have hSame : Same [Cb, R] W2 W4 := by
      obtain ⟨_, _, ⟨A1, f1, h1⟩, A2, f2, h2⟩ := HH2.out
      intro k hk
      simp at hk
      rcases hk with rfl | rfl
      · rw [h1]; exact keepO _ _ _ _ (by decide) (by omega) ((hB3.block _ (Array.getElem?_eq_some_iff.1 h1).1).trans h1)
      · rw [h2]; exact keepO _ _ _ _ (by decide) (by omega) ((hB3.block _ (Array.getElem?_eq_some_iff.1 h2).1).trans h2)
    refine ⟨⟨Nat.le_trans hB3.size hB4.size, fun k o hk ho hc => ?_⟩, hSame, ⟨(HHB.out.trans (hB3.mono (by omega))).trans (hB4.mono (by omega)), ?_⟩, .inr hA, HH2.out.of_same hSame⟩
    · refine hO k o ((hB3.block _ (Array.getElem?_eq_some_iff.1 ho).1).trans ho) ?_ (fun c fz e => by rw [e] at hc; cases hc)
      intro e
      have : k = w1.heap.size := by simpa using e
      omega
    · exact HS2.out.of_block ((hB4.block _ (by omega)).trans (hB3.block _ (by omega)))
  case done =>
    rintro K W hK ⟨⟨hBW, hSW⟩, hbW, hHW⟩ hKd
    have e18 : (entL w.heap.size).length = 18 := rfl
    rw [e18] at hbW
    have hsW := hBW.size
    have hK2 := (Array.getElem?_eq_some_iff.1 hKd).1
    go_wp2_with (go_at_call 22; refine (Tryd.Builder_String_any_k w1.heap.size w1.heap.size _ W hbW (by omega)).mono ?_; rintro e W5 ⟨rfl, hA5, hB5, hO5⟩)
    have hK5 : W5.heap[K]? = some (.deferred (some [])) := hO5 K _ hKd (by simp; omega) (fun c fz e => by cases e)
    refine ⟨by simp, .inl ⟨_, _, rfl, run_takeDeferred hK5, ?_⟩⟩
    refine ⟨.tuple #[.string ⟨(textTo s 18).toArray⟩, .int .i64 0], ?_, rfl, (hBW.trans (hB5.mono (by omega))).trans ((Below.refl _ _).grown (grownBy_putObj' _ _ _) ?_ (fun k e => by cases e; omega))⟩
    · simp [results, Tryd.f8, go_sem]
    · exact Nat.le_trans hsW hB5.size
  case stop =>
    rintro K c pre suf W hK hL h hKd
    exact h.elim
end Go.Proofs.YtjfpfmknngkgaaaDoor
