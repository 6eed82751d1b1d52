/- nearest and Nearest: a path's nearest style's file that is there. Conditions: readable files, of at most 3000 bytes as great reckons them; a path of at most 1000 bytes; the library's variable is there. -/
import Derived.Test.YtifbjccioklaoaaDoorFo
namespace Go.Proofs.YtifbjccioklaoaaDoor
set_option linter.unusedVariables false
set_option linter.unusedSimpArgs false
open Go.RowKit Rng Go.Maps
attribute [local go_sem] Oper.semAt_some
/-- Is it the name of one of the files, and a path? -/
def inN (l : List (ByteArray × ByteArray)) (x : List UInt8) : Bool := l.any fun f => decide (f.1.data.toList = x) && pathB f.1
theorem mapF_has {w : World} {b : Nat} {l : List (ByteArray × ByteArray)} (h : MapF w b l) : ∃ (D : DataW Unit) (m : Nat), w.ownsMap Tryd.prog 9 (plainElem Tryd.prog 3) b m D ∧ m ≤ l.length ∧ ∀ x, Maps.has D (.string x) = inN l x := by
  obtain ⟨D, m, h1, h2, h3⟩ := h
  refine ⟨D, m, h1, h2, fun x => ?_⟩
  rw [Bool.eq_iff_iff, h3 x]
  unfold inN
  rw [List.any_eq_true]
  simp only [Bool.and_eq_true, decide_eq_true_eq]
theorem mapF_block {w w' : World} {b : Nat} {l : List (ByteArray × ByteArray)} (h : MapF w b l) (hb : w'.heap[b]? = w.heap[b]?) : MapF w' b l := by
  obtain ⟨D, m, ⟨es, clock, h1, h2⟩, h3⟩ := h
  exact ⟨D, m, ⟨es, clock, hb.trans h1, h2⟩, h3⟩
theorem mapF_lt {w : World} {b : Nat} {l : List (ByteArray × ByteArray)} (h : MapF w b l) : b < w.heap.size := by
  obtain ⟨D, m, ⟨es, clock, h1, h2⟩, h3⟩ := h
  exact (Array.getElem?_eq_some_iff.1 h1).1
/-- Within the range: the captured map, the found one so far. -/
def NearAt (b h : Nat) (w : World) (l : List (ByteArray × ByteArray)) (f : ByteArray) (W : World) : Prop :=
  MapF W b l ∧ W.heap[h]? = some (.cells #[.map (some b)] 45 (0, 0)) ∧ W.heap[h + 1]? = some (.cells #[.string f] 9 (0, 0)) ∧ Below h w W ∧ h + 3 ≤ W.heap.size ∧ b < h
theorem NearAt.kept {b h : Nat} {w : World} {l : List (ByteArray × ByteArray)} {f : ByteArray} {X Y : World} {row : Option Nat} (hn : NearAt b h w l f X) (hg : X.grownBy Y row) (hr : ∀ r, row = some r → h + 1 < r) : NearAt b h w l f Y := by
  obtain ⟨h1, h2, h3, h4, h5, h6⟩ := hn
  have kp : ∀ k, k ≤ h + 1 → Y.heap[k]? = X.heap[k]? := fun k hk => hg.block k (by omega) (fun e => by have := hr k e.symm; omega)
  exact ⟨mapF_block h1 (kp b (by omega)), (kp _ (by omega)).trans h2, (kp _ (by omega)).trans h3, h4.grown hg (by omega) (fun k e => by have := hr k e; omega), Nat.le_trans h5 hg.size, h6⟩
/-- The nearest, or nothing. -/
def foundB (l : List (ByteArray × ByteArray)) (s : ByteArray) : ByteArray := match (fol s.data.toList s.size).find? (inN l) with
  | none => ⟨#[]⟩
  | some x => ⟨x.toArray⟩
set_option maxRecDepth 100000 in
theorem folders_maker (s : ByteArray) (w : World) :
    Calls Tryd.prog 32 #[.string s] w fun e w' => e = .returned (.func (.func 48) #[] #[.pointer (some ⟨w.heap.size, 0, none⟩)]) ∧ w' = w.alloc (.cells #[.string s] 9) := by
  go_enter Tryd.func32, Tryd.ntmps32
  go_wp2
  go_ret
  exact ⟨rfl, rfl⟩
theorem find_none {q : List UInt8 → Bool} {L : List (List UInt8)} (h : ∀ x ∈ L, q x = false) : L.find? q = none := List.find?_eq_none.2 fun x hx => by rw [h x hx]; simp
theorem find_some {q : List UInt8 → Bool} {p suf : List (List UInt8)} {x : List UInt8} (h : ∀ y ∈ p, q y = false) (hx : q x = true) : (p ++ [x] ++ suf).find? q = some x := by
  rw [List.append_assoc, List.find?_append, find_none h]
  simp [hx]
set_option maxRecDepth 100000 in
set_option maxHeartbeats 2000000 in
theorem nearest_calls {b : Nat} {l : List (ByteArray × ByteArray)} {w : World} (hM : MapF w b l) (s : ByteArray) (hs : s.size ≤ 1000) :
    Calls Tryd.prog 22 #[.map (some b), .string s] w fun e w' => e = .returned (.string (foundB l s)) ∧ Below w.heap.size w w' := by
  have HM := Lib.hid hM
  have HS := Lib.hid hs
  clear hM hs
  refine (callsIn_wide (n := 8)).1 ?_
  refine callsIn_of_wp_marks Tryd.func22 rfl trivial ?_ rfl
  simp only [Tryd.ntmps22, List.size_toArray, List.length_cons, List.length_nil, Nat.reduceAdd, Nat.reduceSub, Array.replicate_succ, Array.replicate_zero, List.push_toArray, List.append_toArray, List.nil_append, List.cons_append]
  refine wpIn_wide.2 ?_
  obtain ⟨h, hh⟩ : ∃ h, w.heap.size = h := ⟨_, rfl⟩
  go_wp2
  go_step3
  go_wp2
  go_step3
  obtain ⟨W0, hW0⟩ : ∃ W0, (w.alloc (.cells #[.map (some b)] 45)).alloc (.cells #[.string ⟨#[]⟩] 9) = W0 := ⟨_, rfl⟩
  have hs0 : W0.heap.size = h + 2 := by rw [← hW0, ← hh]; simp
  go_wp2_with (go_at_call 32; refine (folders_maker _ _).mono ?_; rintro e w3 ⟨rfl, hw3⟩)
  obtain ⟨W3, hW3⟩ : ∃ W3, W0.alloc (.cells #[.string s] 9) = W3 := ⟨_, rfl⟩
  have hs3 : W3.heap.size = h + 3 := by rw [← hW3]; simp; omega
  have hBw : Below h w W0 := by rw [← hW0, ← hh]; exact ((Below.refl _ w).alloc (Nat.le_refl _) _).alloc (by simp) _
  have hx3 : PathAt (h + 2) s W3 := by unfold PathAt; rw [← hW3, ← hs0]; exact World.alloc_heap_new W0 _
  have hbh : b < h := by rw [← hh]; exact mapF_lt HM.out
  have hB3 : Below h w W3 := by rw [← hW3]; exact hBw.alloc (by omega) _
  have hA0 : NearAt b h w l ⟨#[]⟩ W3 := by
    refine ⟨mapF_block HM.out (hB3.block b hbh), ?_, ?_, hB3, by omega, hbh⟩
    · rw [← hW3, ← hW0, ← hh]
      exact (Below.heap_alloc _ _ _ (by simp; omega)).trans ((Below.heap_alloc _ _ _ (by simp)).trans (World.alloc_heap_new w _))
    · rw [← hW3, ← hW0, ← hh]
      refine (Below.heap_alloc _ _ _ (by simp)).trans ?_
      have := World.alloc_heap_new (w.alloc (.cells #[.map (some b)] 45)) (.cells #[.string ⟨#[]⟩] 9)
      rwa [World.size_alloc] at this
  rw [hW3]
  have HH := Lib.hid hh
  clear hW3 hW0 hBw hs0 hB3 hh hw3
  refine (wpIn_wide (n := 8)).1 ?_
  refine range_law (n := 8) (gf := 48) (lb := #[.pointer (some ⟨h + 2, 0, none⟩)]) rfl (enters_of Tryd.func48 (by kernel_rfl) rfl) (folders1_iter (h + 2) s HS.out) (by intro _; rfl)
    (fun k hk => by simp at hk; omega) (fun k hk => by simp at hk; omega)
    (fun W hg => (hg.block _ (by omega) (fun e => by cases e)).trans hx3)
    (fun pre W => (∀ x ∈ pre, inN l x = false) ∧ NearAt b h w l ⟨#[]⟩ W)
    (fun c pre W => c = .exit 0 ∧ ∃ p x, pre = p ++ [x] ∧ (∀ y ∈ p, inN l y = false) ∧ inN l x = true ∧ NearAt b h w l ⟨x.toArray⟩ W)
    (fun pre X Y row hI hg hr => ⟨hI.1, hI.2.kept hg (fun r e => by
      rcases hr r e with h1 | ⟨h1, _⟩
      · simp at h1; omega
      · omega)⟩)
    (fun c pre X Y row hI hg hr => by
      obtain ⟨h0, p, x, h1, h2, h3, h4⟩ := hI
      exact ⟨h0, p, x, h1, h2, h3, h4.kept hg (fun r e => by
        rcases hr r e with h1 | ⟨h1, _⟩
        · simp at h1; omega
        · omega)⟩)
    ⟨fun x hx => by simp at hx, hA0⟩ ?round ?done ?stop
  case round =>
    rintro q pre x suf W hL hq hqW ⟨hno, hA⟩
    gi_wp2
    refine ⟨⟨Nat.le_refl _, fun _ _ _ h _ => h⟩, Same.refl _ _, fun W2 hg2 hl2 => ?_⟩
    have hA2 : NearAt b h w l ⟨#[]⟩ W2 := hA.kept hg2 (fun r e => by cases e; omega)
    obtain ⟨z1, z2, z3, z4, z5, z6⟩ := hA2
    have y2 := cell_of z2 0
    have y3 := cell_of z3 0
    simp only [List.getElem?_toArray, List.getElem?_cons_zero] at y2 y3
    obtain ⟨D, m, g1, g2, g3⟩ := mapF_has z1
    have hxl : x.length ≤ 1005 := by
      have := fol_len (p := s.data.toList) (k := s.size) (x := x) (by rw [hL]; simp)
      have := HS.out
      omega
    have hky := Go.WideMaps.keyOf_string_mk (P := Tryd.prog) Tryd.underlying9 (s := ⟨x.toArray⟩) (by show x.toArray.size ≤ _; rw [List.size_toArray]; unfold maxLen; omega)
    have HKY := Lib.hid (show keyOf Tryd.prog 9 (.string ⟨x.toArray⟩) = some (.string x) from hky)
    have HX := Lib.hid (g3 x)
    have HG := Lib.hid g1
    have HNO := Lib.hid hno
    have HA2 := Lib.hid (show NearAt b h w l ⟨#[]⟩ W2 from ⟨z1, z2, z3, z4, z5, z6⟩)
    have HFR := Lib.hid (frozen_of_row _ (h + 1) 0 _ _ z3)
    have HZ3 := Lib.hid z3
    have HS3 := Lib.hid hs3
    clear z1 z2 z3 z4 g1 g2 g3 hky hno hA hL hg2 hl2 hxl hx3 hA0
    cases hx : inN l x with
    | false =>
      rw [hx] at HX
      have HXF := Lib.hid hx
      clear hx
      gi_wp2_with (gi_at_lookup; refine wpListIn_lookup_own_ok_int _ rfl _ _ 45 rfl 9 3 .i64 keyStr Tryd.underlying45 Tryd.underlying3 (zeroInt _) b m D rfl HG.out _ _ rfl HKY.out ?_; intro c hat hwc; rw [HX.out]; clear hat hwc)
      refine ⟨⟨Nat.le_refl _, fun _ _ _ h _ => h⟩, Same.refl _ _, ?_, HA2.out⟩
      intro y hy
      rcases List.mem_append.1 hy with hy | hy
      · exact HNO.out y hy
      · obtain rfl : y = x := by simpa using hy
        exact HXF.out
    | true =>
      rw [hx] at HX
      have HXF := Lib.hid hx
      clear hx
      have hfr := HFR.out
      gi_wp2_with (gi_at_lookup; refine wpListIn_lookup_own_ok_int _ rfl _ _ 45 rfl 9 3 .i64 keyStr Tryd.underlying45 Tryd.underlying3 (zeroInt _) b m D rfl HG.out _ _ rfl HKY.out ?_; intro c hat hwc; rw [HX.out]; clear hat hwc)
      obtain ⟨z1, z2, z3, z4, z5, z6⟩ := HA2.out
      exact ⟨keepsFrom_setCell, rfl, pre, x, rfl, HNO.out, HXF.out, mapF_block z1 (Below.heap_setCell _ _ _ _ (fun e => by have e2 : b = h + 1 := e; omega)), (Below.heap_setCell _ _ _ _ (fun e => by have e2 : h = h + 1 := e; omega)).trans z2,
        (heap_setCell_same _ _ _ _ _ _ HZ3.out).trans rfl, z4.setCell (show h ≤ h + 1 by omega) _, by simp; omega, z6⟩
  case done =>
    rintro K W hK ⟨hno, z1, z2, z3, z4, z5, z6⟩ hKd
    have hK2 := (Array.getElem?_eq_some_iff.1 hKd).1
    have y3 := cell_of z3 0
    simp only [List.getElem?_toArray, List.getElem?_cons_zero] at y3
    have HF := Lib.hid (show foundB l s = ⟨#[]⟩ by unfold foundB; rw [find_none hno])
    have HS3 := Lib.hid hs3
    clear z1 hA0 hx3 hno
    go_wp2
    rw [Exit.noGoto_ret]
    refine ⟨by simp, .inl ⟨_, _, rfl, run_takeDeferred hKd, ?_⟩⟩
    refine ⟨.string ⟨#[]⟩, ?_, by rw [HF.out], ?_⟩
    · simp [results, Tryd.f22, go_sem]
    · rw [HH.out]
      exact z4.trans ((Below.refl _ _).grown (grownBy_putObj' _ _ _) (by omega) (fun k e => by cases e; omega))
  case stop =>
    rintro K c pre suf W hK hL ⟨rfl, p, x, rfl, hp, hx, z1, z2, z3, z4, z5, z6⟩ hKd
    have hK2 := (Array.getElem?_eq_some_iff.1 hKd).1
    have y3 := cell_of z3 0
    simp only [List.getElem?_toArray, List.getElem?_cons_zero] at y3
    have HF := Lib.hid (show foundB l s = ⟨x.toArray⟩ by unfold foundB; rw [hL, find_some hp hx])
    have HS3 := Lib.hid hs3
    clear z1 hA0 hx3 hp hx hL
    refine wpIn_wide.2 ?_
    go_wp2
    rw [Exit.noGoto_ret]
    refine ⟨by simp, .inl ⟨_, _, rfl, run_takeDeferred hKd, ?_⟩⟩
    refine ⟨.string ⟨x.toArray⟩, ?_, by rw [HF.out], ?_⟩
    · simp [results, Tryd.f22, go_sem]
    · rw [HH.out]
      exact z4.trans ((Below.refl _ _).grown (grownBy_putObj' _ _ _) (by omega) (fun k e => by cases e; omega))
end Go.Proofs.YtifbjccioklaoaaDoor
