/- The list of a style's entries: what entries makes is such a list, in new memory, captured by the function that it hands back. No condition but that the pointer is not nil. -/
import Derived.Test.YtjfpfmknngkgaaaDoorSIter
import Derived.BigRegion
import Derived.Deep.RegionHeld3
import Derived.Deep.DeepCutAuto
import Derived.Maps.AppendAt
namespace Go.Proofs.YtjfpfmknngkgaaaDoor
set_option linter.unusedVariables false
set_option linter.unusedSimpArgs false
open Go.RowKit Rng
def entL (B : Nat) : List Ent := [
  ⟨⟨#[99, 111, 108, 117, 109, 110, 115]⟩, 1, 4096, 80, some ⟨B, 0, none⟩, none⟩,
  ⟨⟨#[105, 110, 100, 101, 110, 116]⟩, 0, 16, 4, some ⟨B, 1, none⟩, none⟩,
  ⟨⟨#[104, 97, 110, 103]⟩, 0, 16, 8, some ⟨B, 2, none⟩, none⟩,
  ⟨⟨#[98, 108, 97, 110, 107, 115]⟩, 0, 8, 1, some ⟨B, 3, none⟩, none⟩,
  ⟨⟨#[107, 101, 101, 112]⟩, 0, 1, 0, none, some ⟨B, 4, none⟩⟩,
  ⟨⟨#[97, 108, 105, 103, 110]⟩, 0, 1, 1, none, some ⟨B, 5, none⟩⟩,
  ⟨⟨#[114, 101, 102, 108, 111, 119]⟩, 0, 1, 1, none, some ⟨B, 6, none⟩⟩,
  ⟨⟨#[101, 120, 99, 101, 115, 115]⟩, 0, 1000000, 1000, some ⟨B, 7, none⟩, none⟩,
  ⟨⟨#[111, 112, 101, 110]⟩, 0, 1000000, 10, some ⟨B, 8, none⟩, none⟩,
  ⟨⟨#[99, 111, 109, 109, 97]⟩, 0, 1000000, 1, some ⟨B, 9, none⟩, none⟩,
  ⟨⟨#[97, 115, 115, 105, 103, 110]⟩, 0, 1000000, 5, some ⟨B, 10, none⟩, none⟩,
  ⟨⟨#[99, 104, 111, 105, 99, 101]⟩, 0, 1000000, 3, some ⟨B, 11, none⟩, none⟩,
  ⟨⟨#[108, 111, 103, 105, 99]⟩, 0, 1000000, 4, some ⟨B, 12, none⟩, none⟩,
  ⟨⟨#[99, 111, 109, 112, 97, 114, 101]⟩, 0, 1000000, 6, some ⟨B, 13, none⟩, none⟩,
  ⟨⟨#[115, 117, 109]⟩, 0, 1000000, 7, some ⟨B, 14, none⟩, none⟩,
  ⟨⟨#[112, 114, 111, 100, 117, 99, 116]⟩, 0, 1000000, 8, some ⟨B, 15, none⟩, none⟩,
  ⟨⟨#[109, 101, 109, 98, 101, 114]⟩, 0, 1000000, 9, some ⟨B, 16, none⟩, none⟩,
  ⟨⟨#[101, 108, 115, 101]⟩, 0, 1000000, 20, some ⟨B, 17, none⟩, none⟩]
def arrA (B : Nat) : Array Value := #[.string ⟨#[99, 111, 108, 117, 109, 110, 115]⟩, .int .i64 1, .int .i64 4096, .int .i64 80, .pointer (some ⟨B, 0, none⟩), .pointer none,
  .string ⟨#[105, 110, 100, 101, 110, 116]⟩, .int .i64 0, .int .i64 16, .int .i64 4, .pointer (some ⟨B, 1, none⟩), .pointer none,
  .string ⟨#[104, 97, 110, 103]⟩, .int .i64 0, .int .i64 16, .int .i64 8, .pointer (some ⟨B, 2, none⟩), .pointer none,
  .string ⟨#[98, 108, 97, 110, 107, 115]⟩, .int .i64 0, .int .i64 8, .int .i64 1, .pointer (some ⟨B, 3, none⟩), .pointer none,
  .string ⟨#[107, 101, 101, 112]⟩, .int .i64 0, .int .i64 1, .int .i64 0, .pointer none, .pointer (some ⟨B, 4, none⟩),
  .string ⟨#[97, 108, 105, 103, 110]⟩, .int .i64 0, .int .i64 1, .int .i64 1, .pointer none, .pointer (some ⟨B, 5, none⟩),
  .string ⟨#[114, 101, 102, 108, 111, 119]⟩, .int .i64 0, .int .i64 1, .int .i64 1, .pointer none, .pointer (some ⟨B, 6, none⟩)]
def arrC (B : Nat) : Array Value := #[.string ⟨#[101, 120, 99, 101, 115, 115]⟩, .int .i64 1000, .pointer (some ⟨B, 7, none⟩),
  .string ⟨#[111, 112, 101, 110]⟩, .int .i64 10, .pointer (some ⟨B, 8, none⟩),
  .string ⟨#[99, 111, 109, 109, 97]⟩, .int .i64 1, .pointer (some ⟨B, 9, none⟩),
  .string ⟨#[97, 115, 115, 105, 103, 110]⟩, .int .i64 5, .pointer (some ⟨B, 10, none⟩),
  .string ⟨#[99, 104, 111, 105, 99, 101]⟩, .int .i64 3, .pointer (some ⟨B, 11, none⟩),
  .string ⟨#[108, 111, 103, 105, 99]⟩, .int .i64 4, .pointer (some ⟨B, 12, none⟩),
  .string ⟨#[99, 111, 109, 112, 97, 114, 101]⟩, .int .i64 6, .pointer (some ⟨B, 13, none⟩),
  .string ⟨#[115, 117, 109]⟩, .int .i64 7, .pointer (some ⟨B, 14, none⟩),
  .string ⟨#[112, 114, 111, 100, 117, 99, 116]⟩, .int .i64 8, .pointer (some ⟨B, 15, none⟩),
  .string ⟨#[109, 101, 109, 98, 101, 114]⟩, .int .i64 9, .pointer (some ⟨B, 16, none⟩),
  .string ⟨#[101, 108, 115, 101]⟩, .int .i64 20, .pointer (some ⟨B, 17, none⟩)]

def entCells (e : Ent) : List Value := [.string e.nm, .int .i64 e.lo, .int .i64 e.hi, .int .i64 e.fi, .pointer e.n, .pointer e.is]
/-- The cost rows lie in block R. -/
def Lies3 (W : World) (R : Nat) (L : List Ent) : Prop := ∀ i e, L[7 + i]? = some e →
  W.cell? ⟨R, i * 3, none⟩ = some (.string e.nm) ∧ W.cell? ⟨R, i * 3 + 1, none⟩ = some (.int .i64 e.fi) ∧ W.cell? ⟨R, i * 3 + 2, none⟩ = some (.pointer e.n) ∧ e.lo = 0 ∧ e.hi = 1000000 ∧ e.is = none
theorem lies3_of {W : World} {R B : Nat} (h : W.heap[R]? = some (.cells (arrC B) 81 (0, 0))) : Lies3 W R (entL B) := by
  have hc : ∀ o, W.cell? ⟨R, o, none⟩ = (arrC B)[o]? := fun o => by simp [World.cell?, h]
  intro i e he
  rw [hc, hc, hc]
  have hi : i < 11 := by
    have := (List.getElem?_eq_some_iff.1 he).1
    simp [entL] at this
    omega
  match i, hi with
  | 0, _ | 1, _ | 2, _ | 3, _ | 4, _ | 5, _ | 6, _ | 7, _ | 8, _ | 9, _ | 10, _ => simp [entL] at he; subst he; simp [arrC]
theorem Lies3.kept {W W' : World} {R : Nat} {L : List Ent} {row : Option Nat} (h : Lies3 W R L) (hg : W.grownBy W' row) (hR : R < W.heap.size) (hne : some R ≠ row) : Lies3 W' R L := by
  intro i e he
  have hc : ∀ o, W'.cell? ⟨R, o, none⟩ = W.cell? ⟨R, o, none⟩ := fun o => World.cell?_of_block (w := W) (hg.block R hR hne)
  simpa [hc] using h i e he
theorem two1 (w : World) (A : Array Value) (e t : TypeId) (n : Nat) :
    Boxed (((w.alloc (.cells A e)).alloc (.cells #[.slice (some ⟨w.heap.size, 0, none⟩) n n] t)).drew) (w.heap.size + 1) t (.slice (some ⟨w.heap.size, 0, none⟩) n n) ∧
    (((w.alloc (.cells A e)).alloc (.cells #[.slice (some ⟨w.heap.size, 0, none⟩) n n] t)).drew).heap[w.heap.size]? = some (.cells A e (0, 0)) ∧
    Below w.heap.size w (((w.alloc (.cells A e)).alloc (.cells #[.slice (some ⟨w.heap.size, 0, none⟩) n n] t)).drew) := by
  refine ⟨?_, ?_, (((Below.refl _ w).alloc (Nat.le_refl _) _).alloc (by simp) _).drew⟩
  · have := Boxed.new (w.alloc (.cells A e)) t (.slice (some ⟨w.heap.size, 0, none⟩) n n)
    rw [World.size_alloc] at this
    exact this
  · exact (Below.heap_alloc _ _ _ (by simp)).trans (World.alloc_heap_new w _)
theorem two2 (w : World) (A : Array Value) (e t : TypeId) (n : Nat) :
    Boxed (((w.alloc (.cells #[.slice (some ⟨w.heap.size + 1, 0, none⟩) n n] t)).alloc (.cells A e)).drew) w.heap.size t (.slice (some ⟨w.heap.size + 1, 0, none⟩) n n) ∧
    (((w.alloc (.cells #[.slice (some ⟨w.heap.size + 1, 0, none⟩) n n] t)).alloc (.cells A e)).drew).heap[w.heap.size + 1]? = some (.cells A e (0, 0)) ∧
    Below w.heap.size w (((w.alloc (.cells #[.slice (some ⟨w.heap.size + 1, 0, none⟩) n n] t)).alloc (.cells A e)).drew) := by
  refine ⟨?_, ?_, (((Below.refl _ w).alloc (Nat.le_refl _) _).alloc (by simp) _).drew⟩
  · exact (Boxed.new w t _).alloc _
  · have := World.alloc_heap_new (w.alloc (.cells #[.slice (some ⟨w.heap.size + 1, 0, none⟩) n n] t)) (.cells A e)
    rw [World.size_alloc] at this
    exact this
theorem one1 (w : World) (A : Array Value) (e : TypeId) :
    ((w.alloc (.cells A e)).drew).heap[w.heap.size]? = some (.cells A e (0, 0)) ∧ w.grownBy ((w.alloc (.cells A e)).drew) none :=
  ⟨World.alloc_heap_new w _, by have h := World.grownBy_alloc w (.cells A e) none; exact ⟨h.os, h.tape, h.output, h.size, h.block⟩⟩
theorem cells_new_at (w : World) (A : List Value) (t : TypeId) (n : Nat) (hn : n = w.heap.size) : ∀ j u, A[j]? = some u → (w.alloc (.cells A.toArray t)).cell? ((⟨n, 0, none⟩ : Addr).add j) = some u := by
  subst hn
  intro j u h
  have e : (⟨w.heap.size, 0, none⟩ : Addr).add j = ⟨w.heap.size, j, none⟩ := by
    unfold Addr.add
    split
    · rename_i h0; rw [h0]
    · simp
  rw [e, World.cell?_alloc_at (w := w) A.toArray t _ _ rfl]
  simpa using h
theorem cells_not_row {W : World} {B : Nat} {A : Array Value} {t e : TypeId} (h : W.heap[B]? = some (.cells A t (0, 0))) (hte : t ≠ e) {base size k : Nat} {v : Value} {xs : List Value} (hr : W.ownsRow base e size v k xs) : some B ≠ v.ownBlock := by
  rcases hr.2 with ⟨rfl, _⟩ | ⟨g, cap, cur, rfl, _, hgb, _⟩
  · simp [Value.ownBlock]
  · intro e'
    obtain rfl : B = g := by simpa [Value.ownBlock] using e'
    have := h.symm.trans hgb
    simp at this
    exact hte this.2
def pre7 (B k : Nat) : List Value := ((entL B).take (7 + k)).flatMap entCells
theorem flat_get : ∀ (L : List Ent) (i j : Nat) (e : Ent), L[i]? = some e → j < 6 → (L.flatMap entCells)[i * 6 + j]? = (entCells e)[j]?
  | [], _, _, _, h, _ => by simp at h
  | a :: r, 0, j, e, h, hj => by
    simp at h; subst h
    rw [List.flatMap_cons, List.getElem?_append_left (by simp [entCells]; omega)]
    simp
  | a :: r, i + 1, j, e, h, hj => by
    rw [List.flatMap_cons, List.getElem?_append_right (by simp [entCells]; omega)]
    have := flat_get r i j e (by simpa using h) hj
    rw [← this]
    congr 1
    simp [entCells]; omega
theorem lies_of_row {W : World} {base : Nat} {v : Value} {n : Nat} {L : List Ent} (h : W.ownsRow base 54 6 v n (L.flatMap entCells)) (hn : 0 < n) :
    ∃ g cap, v = .slice (some ⟨g, 0, none⟩) n cap ∧ base ≤ g ∧ Lies W g L ∧ ∃ A fr, W.heap[g]? = some (.cells A 54 fr) := by
  rcases h.2 with ⟨_, h0⟩ | ⟨g, cap, cur, rfl, hb, hg, hc⟩
  · omega
  · refine ⟨g, cap, rfl, hb, fun i e he => ?_, _, _, hg⟩
    have hcell := h.cells (g := g) rfl
    have key : ∀ j u, j < 6 → (entCells e)[j]? = some u → W.cell? ⟨g, i * 6 + j, none⟩ = some u := fun j u hj hu => by
      have := hcell (i * 6 + j) u ((flat_get L i j e he hj).trans hu)
      have ea : (⟨g, 0, none⟩ : Addr).add (i * 6 + j) = ⟨g, i * 6 + j, none⟩ := by
        unfold Addr.add
        split
        · rename_i h0; rw [h0]
        · simp
      rwa [ea] at this
    exact ⟨key 0 _ (by omega) rfl, key 1 _ (by omega) rfl, key 2 _ (by omega) rfl, key 3 _ (by omega) rfl, key 4 _ (by omega) rfl, key 5 _ (by omega) rfl⟩
theorem pre7_snoc {B k : Nat} {e : Ent} (h : (entL B)[7 + k]? = some e) : pre7 B (k + 1) = pre7 B k ++ entCells e := by
  unfold pre7
  rw [← Nat.add_assoc, List.take_add_one, h]
  simp
theorem ownsRow_arrA {W : World} {R B base : Nat} (h : W.heap[R]? = some (.cells (arrA B) 54 (0, 0))) (hb : base ≤ R) : W.ownsRow base 54 6 (.slice (some ⟨R, 0, none⟩) 7 7) 7 (pre7 B 0) :=
  ⟨rfl, .inr ⟨R, 7, arrA B, rfl, hb, h, Nat.le_refl _, by simp [maxLen], rfl, rfl⟩⟩
theorem Tryd.info54 : (Tryd.prog.info? 54).map (fun i => (i.zero, i.size, i.bytes)) = some (some (.agg #[.string ⟨#[]⟩, .int .i64 0, .int .i64 0, .int .i64 0, .pointer none, .pointer none]), 6, 56) := by kernel_rfl
set_option maxRecDepth 100000 in
set_option maxHeartbeats 2000000 in
theorem entries_calls (B : Nat) (w : World) :
    Calls Tryd.prog 18 #[.pointer (some ⟨B, 0, none⟩)] w fun e w' => ∃ R Cb cap : Nat, e = .returned (.func (.func 34) #[] #[.pointer (some ⟨Cb, 0, none⟩)]) ∧ Holds R Cb cap (entL B) w' ∧ w.heap.size ≤ Cb ∧ w.heap.size ≤ R ∧ Below w.heap.size w w' := by
  go_enter Tryd.func18, Tryd.ntmps18
  go_upto_region 1 with fail
  go_cut [3] (fun s3 wx => ∃ C R : Nat, s3 = .pointer (some ⟨C, 0, none⟩) ∧ w.heap.size ≤ C ∧ w.heap.size ≤ R ∧ C ≠ R ∧ Boxed wx C 80 (.slice (some ⟨R, 0, none⟩) 7 7) ∧ wx.heap[R]? = some (.cells (arrA B) 54 (0, 0)) ∧ Below w.heap.size w wx)
  case first =>
    go_region
    all_goals
      go_wp2_with fail
      go_meet
    · obtain ⟨h1, h2, h3⟩ := two1 w (arrA B) 54 80 7
      exact ⟨w.heap.size + 1, w.heap.size, rfl, by omega, by omega, by omega, h1, h2, h3⟩
    · obtain ⟨h1, h2, h3⟩ := two2 w (arrA B) 54 80 7
      exact ⟨w.heap.size, w.heap.size + 1, rfl, by omega, by omega, by omega, h1, h2, h3⟩
  case rest =>
    obtain ⟨C, R, rfl, hCs, hRs, hCR, hC, hR, hB⟩ := hcut
    go_upto_region 2 with fail
    go_cut [4] (fun s4 wx => ∃ R2 : Nat, s4 = .slice (some ⟨R2, 0, none⟩) 11 11 ∧ Boxed wx C 80 (.slice (some ⟨R, 0, none⟩) 7 7) ∧ wx.ownsRow w.heap.size 54 6 (.slice (some ⟨R, 0, none⟩) 7 7) 7 (pre7 B 0) ∧ wx.heap[R2]? = some (.cells (arrC B) 81 (0, 0)) ∧ Below w.heap.size w wx)
    case first =>
      have hos := hB.size
      go_region
      go_wp2_with fail
      go_meet
      obtain ⟨h1, h2⟩ := one1 wc (arrC B) 81
      exact ⟨wc.heap.size, rfl, hC.kept h2 (by simp), (ownsRow_arrA hR hRs).kept h2 (.inr (by simp [Value.ownBlock])), h1, hB.grown h2 hos (fun k e => by cases e)⟩
    case rest =>
      obtain ⟨R2, rfl, hC2, hO2, hL2, hB2⟩ := hcut
      obtain ⟨i0, hi, hz0, hz1, hz2⟩ := info_parts Tryd.info54
      clear hB hR hC
      go_upto_region 3 with fail
      go_wp2
      go_loopw [83] (fun i wr => ∃ k : Nat, k ≤ 11 ∧ i = .int .i64 k ∧ (∃ v, Boxed wr C 80 v ∧ wr.ownsRow w.heap.size 54 6 v (7 + k) (pre7 B k)) ∧ wr.heap[R2]? = some (.cells (arrC B) 81 (0, 0)) ∧ Below w.heap.size w wr) (fun i _ => 11 - (intOf i).toNat)
      case atStart => exact ⟨0, by omega, rfl, ⟨_, hC2, hO2⟩, hL2, hB2⟩
      case round =>
        obtain ⟨k, hk, rfl, ⟨v, hCr, hOr⟩, hLr, hBr⟩ := hrel
        by_cases hlt : k < 11
        · obtain ⟨e, he⟩ : ∃ e, (entL B)[7 + k]? = some e := ⟨_, List.getElem?_eq_getElem (by simp [entL]; omega)⟩
          obtain ⟨c0, c1, c2, l0, h0, is0⟩ := lies3_of hLr k e he
          have hsn := pre7_snoc he
          obtain ⟨nm, lo, hi', fi, n, is⟩ := e
          simp only at c0 c1 c2 l0 h0 is0
          subst l0 h0 is0
          clear he
          have HS := Lib.hid hsn
          clear hsn
          have hCl := hCr.lt
          have hc := hCr.cell
          have hf := hCr.frozen
          have hRl := (Array.getElem?_eq_some_iff.1 hLr).1
          have hsz := hBr.size
          go_wp2_with (at_builtin; refine wpList_append_own _ rfl _ _ 80 rfl w.heap.size 54 i0 _ 6 56 Tryd.underlying80 hi hz0 hz1 hz2 rfl (by decide) _ _ _ rfl ((hOr.alloc _).alloc _) ⟨wr.heap.size + 1, 0, none⟩ 1 1 (entCells ⟨nm, 0, 1000000, fi, n, none⟩) rfl rfl (cells_new_at _ (entCells ⟨nm, 0, 1000000, fi, n, none⟩) 54 _ (by simp)) (by simp [entCells, Value.oneCell']) (by unfold maxLen; omega) (by omega) (by simp; omega) ?_; intro v' w1 hown' hgrow _; have hb0 := ((hCr.alloc _).alloc _).kept hgrow (hCr.not_row (by decide) hOr); have hb1 := hb0.cell; have hb2 := hb0.frozen; have hb3 := hb0.lt; obtain ⟨g', cap', rfl⟩ := ownsRow_succ hown')
          have hv1 := hb0.set (.slice (some ⟨g', 0, none⟩) (7 + k + 1) cap')
          have hn1 := hb0.not_row (by decide) hown'
          have ho1 := hown'.kept (grownBy_setCell' w1 C (.slice (some ⟨g', 0, none⟩) (7 + k + 1) cap')) (.inr hn1.symm)
          have hl1 := (hgrow.block R2 (by simp; omega) (cells_not_row hLr (by decide) hOr)).trans (((Below.heap_alloc _ _ _ (by simp; omega)).trans (Below.heap_alloc _ _ _ hRl)).trans hLr)
          have hRC : R2 ≠ C := fun e => by subst e; have := hLr.symm.trans hCr; simp at this
          have hl2 := (Below.heap_setCell w1 ⟨C, 0, none⟩ (.slice (some ⟨g', 0, none⟩) (7 + k + 1) cap') R2 hRC).trans hl1
          have hbl := ((((hBr.alloc hsz _).alloc (by simp; omega) _).grown hgrow (by simp; omega) (fun j ej => (hOr.lt j ej).1)).setCell (p := ⟨C, 0, none⟩) hCs (.slice (some ⟨g', 0, none⟩) (7 + k + 1) cap'))
          rw [← HS.out] at ho1
          clear hb0 hb1 hb2 hb3 hown' hgrow hn1 hl1 hCr hOr hLr hBr hc hf hC2 hO2 hL2 hB2 HS c0 c1 c2
          go_roundw
          case rel => exact ⟨k + 1, by omega, by go_num, ⟨_, hv1, ho1⟩, hl2, hbl⟩
          case measure => simp [intOf]; omega
        · obtain rfl : k = 11 := by omega
          have hc := hCr.cell
          have e11 : pre7 B 11 = (entL B).flatMap entCells := rfl
          rw [e11] at hOr
          clear e11
          obtain ⟨g, cap, rfl, hg, hl, hgt⟩ := lies_of_row hOr (by omega)
          go_wp2
          go_ret
          exact ⟨g, C, cap, rfl, ⟨hc, hl, ⟨_, _, hCr⟩, hgt⟩, hCs, hg, hBr⟩
end Go.Proofs.YtjfpfmknngkgaaaDoor
