/- files: a new map that has just the names of those files that are paths. Conditions: readable files, of at most 3000 bytes as great reckons them; the library's variable is there. -/
import Derived.Test.YtifbjccioklaoaaDoorBw
import Derived.Test.YtifbjccioklaoaaDoorPt
import Derived.Maps.OwnIn
import Derived.Maps.OwnSet
import Derived.Sort.CutIn
import Derived.Sort.MapsRangeIn
import Derived.WalkMore
namespace Go.Proofs.YtifbjccioklaoaaDoor
set_option linter.unusedVariables false
set_option linter.unusedSimpArgs false
open Go.RowKit Rng Go.Maps
attribute [local go_sem] Oper.semAt_some
theorem keyStr : Keyed Tryd.prog 9 := string_keyed Tryd.underlying9
theorem zeroInt (w : World) : (zeroValue 3).run Tryd.prog w = .ok (.int .i64 0) w := by kernel_rfl
/-- The names that are stored. -/
def stored (pre : List ((ByteArray × ByteArray) × Nat)) : List (List UInt8) := (pre.filter fun x => pathB x.1.1).map fun x => x.1.1.data.toList
theorem stored_snoc (pre : List ((ByteArray × ByteArray) × Nat)) (x : (ByteArray × ByteArray) × Nat) : stored (pre ++ [x]) = if pathB x.1.1 then stored pre ++ [x.1.1.data.toList] else stored pre := by
  unfold stored
  rw [List.filter_append, List.map_append]
  cases h : pathB x.1.1 <;> simp [h]
/-- The block is the map that has just these names. -/
def MapS (w : World) (b m : Nat) (ns : List (List UInt8)) (D : DataW Unit) : Prop :=
  w.ownsMap Tryd.prog 9 (plainElem Tryd.prog 3) b m D ∧ ∀ x, Maps.has D (.string x) = ns.contains x
theorem MapS.block {w w' : World} {b m : Nat} {ns : List (List UInt8)} {D : DataW Unit} (h : MapS w b m ns D) (hb : w'.heap[b]? = w.heap[b]?) : MapS w' b m ns D := by
  obtain ⟨⟨es, clock, h1, h2⟩, h3⟩ := h
  exact ⟨⟨es, clock, hb.trans h1, h2⟩, h3⟩
theorem MapS.lt {w : World} {b m : Nat} {ns : List (List UInt8)} {D : DataW Unit} (h : MapS w b m ns D) : b < w.heap.size := by
  obtain ⟨⟨es, clock, h1, _⟩, _⟩ := h
  exact (Array.getElem?_eq_some_iff.1 h1).1
theorem MapS.step {w w' : World} {b m : Nat} {ns : List (List UInt8)} {x : List UInt8} {D d : DataW Unit} (h : MapS w b m ns D) (h' : w'.ownsMap Tryd.prog 9 (plainElem Tryd.prog 3) b (m + 1) (D.put (.string x) d)) : MapS w' b (m + 1) (ns ++ [x]) (D.put (.string x) d) := by
  obtain ⟨h1, h3⟩ := h
  refine ⟨h', fun y => ?_⟩
  by_cases e : y = x
  · subst e
    rw [has_put_same h1.isMap (by simp [Go.WideAt.IsKeyLit])]
    simp
  · rw [has_put_other (by simpa using e), h3 y]
    simp [e]
/-- Within the range: the map's variable, the map, the names so far. -/
def FilesAt (b : Nat) (w : World) (pre : List ((ByteArray × ByteArray) × Nat)) (W : World) : Prop :=
  (∃ D m, MapS W b m (stored pre) D ∧ m ≤ pre.length) ∧ W.heap[b + 1]? = some (.cells #[.map (some b)] 45 (0, 0)) ∧ Below w.heap.size w W ∧ b + 3 ≤ W.heap.size
theorem FilesAt.kept {b : Nat} {w : World} {pre : List ((ByteArray × ByteArray) × Nat)} {X Y : World} {row : Option Nat} (h : FilesAt b w pre X) (hb : w.heap.size ≤ b) (hg : X.grownBy Y row) (hr : ∀ r, row = some r → b + 2 < r) : FilesAt b w pre Y := by
  obtain ⟨⟨D, m, h1, h2⟩, h3, h4, h5⟩ := h
  refine ⟨⟨D, m, h1.block (hg.block b h1.lt (fun e => ?_)), h2⟩, ?_, h4.grown hg (by omega) (fun k e => by have := hr k e; omega), Nat.le_trans h5 hg.size⟩
  · have := hr b e.symm; omega
  · exact (hg.block _ (by omega) (fun e => by have := hr _ e.symm; omega)).trans h3
theorem FilesAt.below {b : Nat} {w : World} {pre : List ((ByteArray × ByteArray) × Nat)} {X Y : World} (h : FilesAt b w pre X) (hg : Below X.heap.size X Y) : FilesAt b w pre Y := by
  obtain ⟨⟨D, m, h1, h2⟩, h3, h4, h5⟩ := h
  exact ⟨⟨D, m, h1.block (hg.block b h1.lt), h2⟩, (hg.block _ (by omega)).trans h3, h4.trans (hg.mono h4.size), Nat.le_trans h5 hg.size⟩
set_option maxRecDepth 100000 in
theorem back_maker (a : Option Addr) (p c : Nat) (w : World) :
    Calls Tryd.prog 27 #[.slice a p c] w fun e w' => e = .returned (.func (.func 43) #[] #[.pointer (some ⟨w.heap.size, 0, none⟩)]) ∧ w' = w.alloc (.cells #[.slice a p c] 22) := by
  go_enter Tryd.func27, Tryd.ntmps27
  go_wp2
  go_ret
  exact ⟨rfl, rfl⟩
/-- The map has just the names of the files that are paths. -/
def MapF (w : World) (b : Nat) (l : List (ByteArray × ByteArray)) : Prop :=
  ∃ (D : DataW Unit) (m : Nat), w.ownsMap Tryd.prog 9 (plainElem Tryd.prog 3) b m D ∧ m ≤ l.length ∧ ∀ x, Maps.has D (.string x) = true ↔ ∃ f ∈ l, f.1.data.toList = x ∧ pathB f.1 = true
theorem stored_back (l : List (ByteArray × ByteArray)) (x : List UInt8) : (stored (backL l)).contains x = true ↔ ∃ f ∈ l, f.1.data.toList = x ∧ pathB f.1 = true := by
  unfold stored
  rw [List.contains_eq_mem, decide_eq_true_eq, List.mem_map]
  constructor
  · rintro ⟨y, hy, rfl⟩
    obtain ⟨h1, h2⟩ := List.mem_filter.1 hy
    obtain ⟨f, hf, he⟩ := mem_backL.1 ⟨y, h1, rfl⟩
    exact ⟨f, hf, by rw [he], by rw [he]; exact h2⟩
  · rintro ⟨f, hf, rfl, hp⟩
    obtain ⟨y, hy, he⟩ := mem_backL.2 ⟨f, hf, rfl⟩
    exact ⟨y, List.mem_filter.2 ⟨hy, by rw [he]; exact hp⟩, by rw [he]⟩
set_option maxRecDepth 100000 in
set_option maxHeartbeats 2000000 in
theorem files_calls {B C : Nat} {v : Value} {l : List (ByteArray × ByteArray)} {w : World} (h : Rf B w v l) (hB : B ≤ w.heap.size) (hs : sumF l ≤ 3000) (ht : EnvT C w) (hC : C ≤ w.heap.size) :
    Calls Tryd.prog 15 #[v] w fun e w' => ∃ b, e = .returned (.map (some b)) ∧ MapF w' b l ∧ w.heap.size ≤ b ∧ Below w.heap.size w w' := by
  have HR := Lib.hid (fun (w1 : World) (hb : Below w.heap.size w w1) => (h.below hb hB).mono hB)
  have HT := Lib.hid (fun (w1 : World) (hb : Below w.heap.size w w1) => And.intro (ht.later (hb.mono hC)) (Nat.le_trans hC hb.size))
  have HN := Lib.hid (show l.length ≤ 1000 by have := sumF_length l; omega)
  have HSZ := Lib.hid (fun (x : (ByteArray × ByteArray) × Nat) (hx : x ∈ backL l) => show x.1.1.size ≤ 3000 by
    obtain ⟨f, hf, he⟩ := mem_backL.1 ⟨x, hx, rfl⟩
    have := sumF_mem hf
    rw [← he]
    omega)
  obtain ⟨a1, c1, rfl, q1⟩ := h
  clear q1 hs ht hB hC
  refine (callsIn_wide (n := 8)).1 ?_
  refine callsIn_of_wp_marks Tryd.func15 rfl trivial ?_ rfl
  simp only [Tryd.ntmps15, List.size_toArray, List.length_cons, List.length_nil, Nat.reduceAdd, Nat.reduceSub, Array.replicate_succ, Array.replicate_zero, List.push_toArray, List.append_toArray, List.nil_append, List.cons_append]
  refine wpIn_wide.2 ?_
  have hmm := @run_makeMap Tryd.prog
  go_upto_region 2 with fail
  clear hmm
  obtain ⟨b, hb⟩ : ∃ b, w.heap.size = b := ⟨_, rfl⟩
  obtain ⟨W0, hW0⟩ : ∃ W0, (w.alloc (.map #[] 0)).alloc (.cells #[.map (some b)] 45) = W0 := ⟨_, rfl⟩
  have hs0 : W0.heap.size = b + 2 := by rw [← hW0, ← hb]; simp
  have hm0 : MapS W0 b 0 [] (.map []) := by
    have h1 : MapS (w.alloc (.map #[] 0)) b 0 [] (.map []) := ⟨by rw [← hb]; exact World.ownsMap_made _ _ _ _, fun x => rfl⟩
    refine h1.block ?_
    rw [← hW0]
    exact Below.heap_alloc _ _ _ (by simp; omega)
  have hv0 : W0.heap[b + 1]? = some (.cells #[.map (some b)] 45 (0, 0)) := by
    rw [← hW0]
    have := World.alloc_heap_new (w.alloc (.map #[] 0)) (.cells #[.map (some b)] 45)
    rwa [World.size_alloc, hb] at this
  have hB0 : Below w.heap.size w W0 := by rw [← hW0]; exact ((Below.refl _ w).alloc (Nat.le_refl _) _).alloc (by simp) _
  rw [hb, hW0]
  rw [hb] at HR HT
  clear hW0
  go_wp2_with (go_at_call 27; refine (back_maker _ _ _ _).mono ?_; rintro e w3 ⟨rfl, hw3⟩)
  obtain ⟨W3, hW3⟩ : ∃ W3, W0.alloc (.cells #[.slice a1 l.length c1] 22) = W3 := ⟨_, rfl⟩
  have hs3 : W3.heap.size = b + 3 := by rw [← hW3]; simp; omega
  have hB3 : Below b w W3 := by rw [← hW3, ← hb]; exact hB0.alloc hB0.size _
  have hx3 : W3.heap[b + 2]? = some (.cells #[.slice a1 l.length c1] 22 (0, 0)) := by rw [← hW3, ← hs0]; exact World.alloc_heap_new W0 _
  have hI0 : FilesAt b w [] W3 := ⟨⟨_, 0, hm0.block (by rw [← hW3]; exact Below.heap_alloc _ _ _ (by omega)), Nat.le_refl _⟩, by rw [← hW3]; exact (Below.heap_alloc _ _ _ (by omega)).trans hv0, by rw [hb]; exact hB3, by omega⟩
  have hSl : SlAt (b + 2) b l W3 := ⟨_, hx3, HR.out _ hB3⟩
  have hkl : ∀ k, k ∈ (b + 2) :: List.range b → k < W3.heap.size := by
    intro k hk
    simp only [List.mem_cons, List.mem_range] at hk
    omega
  rw [hW3]
  clear hW3 hm0 hv0 hs0 hB0 hx3
  refine (wpIn_wide (n := 8)).1 ?_
  refine range_law (n := 8) (gf := 43) (lb := #[.pointer (some ⟨b + 2, 0, none⟩)]) rfl (enters_of Tryd.func43 (by kernel_rfl) rfl) (back1_iter (b + 2) b (by omega) l HN.out) (by intro _; rfl)
    (fun k h => by simp at h) hkl
    (fun W hg => hSl.of_same (Same.grown hg hkl (fun r e => by cases e)))
    (FilesAt b w) (fun _ _ _ => False)
    (fun s X Y row h hg hr => h.kept (by omega) hg (fun r e => by
      rcases hr r e with h1 | ⟨h1, _⟩
      · simp at h1
      · omega))
    (fun c => (abides_pure _ _ (fun _ => False))) hI0 ?round ?done ?stop
  case round =>
    rintro q pre ⟨⟨n, tx⟩, i⟩ suf W hL hq hqW hI
    obtain ⟨x, hx⟩ : ∃ x, ((n, tx), i) = x := ⟨_, rfl⟩
    rw [hx] at hL
    have HXX := Lib.hid hx
    clear hx
    have hxm : x ∈ backL l := by rw [hL]; simp
    have hpl : pre.length < l.length := by have := congrArg List.length hL; rw [backL_length] at this; simp at this; omega
    have hWs := hI.2.2.2
    dsimp only
    gi_wp2
    refine ⟨(KeepsOthers.alloc _ _).from _, Same.grown (World.grownBy_alloc W _ none) (fun k hk => by have := hkl k hk; omega) (fun r e => by cases e), fun W2 hg2 hl2 => ?_⟩
    have hb2 := cells_kept (World.alloc_heap_new W _) hg2 hl2
    have c0 := cell_of hb2 0
    simp at c0
    have hI2 : FilesAt b w pre W2 := (hI.kept (by omega) (World.grownBy_alloc W _ none) (fun r e => by cases e)).kept (by omega) hg2 (fun r e => by cases e; omega)
    have HI2 := Lib.hid hI2
    have HX := Lib.hid (HSZ.out x hxm)
    have HIX := Lib.hid (show x.2 < l.length by
      have h1 := List.mem_reverse.1 hxm
      have h2 := List.mem_zipIdx (x := x.1) (i := x.2) h1
      omega)
    have HSX := Lib.hid (stored_snoc pre x)
    have HPL := Lib.hid hpl
    have HTW := Lib.hid (HT.out W2 (by have := hI2.2.2.1; rwa [hb] at this))
    have HKL := Lib.hid (fun k (hk : k ∈ (b + 2) :: List.range b) => show k < b + 3 by simp only [List.mem_cons, List.mem_range] at hk; omega)
    have HS3 := Lib.hid hs3
    clear hI hI2 hI0 hSl hkl hL hxm hpl hg2 hl2 hB3 hs3
    have hx := HXX.out
    clear HXX
    subst hx
    dsimp only at c0 HX HSX HIX
    have HP := Lib.hid (path_calls n HX.out W2 HTW.out.2 HTW.out.1)
    cases hp : pathB n with
    | false =>
      rw [hp] at HP HSX
      gi_wp2_with (refine ⟨trivial, ?_⟩; gi_at_call 9; refine (in_round HP.out).mono ?_; rintro e w4 ⟨rfl, hB4⟩)
      refine ⟨keepsFrom_below hB4, same_below hB4 (fun k hk => Nat.lt_of_lt_of_le (HKL.out k hk) HI2.out.2.2.2), ?_⟩
      have h4 := HI2.out.below hB4
      obtain ⟨⟨D, m, z1, z2⟩, z3⟩ := h4
      exact ⟨⟨D, m, by rw [HSX.out]; exact z1, by simp; omega⟩, z3⟩
    | true =>
      rw [hp] at HP HSX
      have HCB := Lib.hid (Array.getElem?_eq_some_iff.1 hb2).1
      have HC0 := Lib.hid c0
      have HWF := Lib.hid (show (Lit.int .i64 (i : Int)).wf = true by
        have e := wrap64_wf (i : Int)
        rwa [wrap_in _ (by have := HIX.out; have := HN.out; omega)] at e)
      have HKY := Lib.hid (Go.WideMaps.keyOf_string_mk (P := Tryd.prog) Tryd.underlying9 (s := n) (by have := HX.out; unfold maxLen; omega))
      clear hb2 hp
      gi_wp2_with (first
        | (refine ⟨trivial, ?_⟩; gi_at_call 9; refine (in_round HP.out).mono ?_; rintro e w4 ⟨rfl, hB4⟩; obtain ⟨⟨D, m, z1, z2⟩, z3, z4, z5⟩ := HI2.out.below hB4; have y1 := cell_of z3 0; simp only [List.getElem?_toArray, List.getElem?_cons_zero] at y1; have y2 := (World.cell?_of_block (hB4.block W.heap.size HCB.out)).trans HC0.out; have HB4 := Lib.hid hB4; clear hB4 c0)
        | (gi_at_mapUpdate; refine wpListIn_mapUpdate_own _ rfl _ _ _ 45 rfl 9 3 keyStr Tryd.underlying45 _ b m D rfl z1.1 (by have := HN.out; have := HPL.out; unfold maxLen; omega) _ _ _ rfl rfl HKY.out _ [] (plainElem_int Tryd.underlying3 HWF.out) ?_; intro w5 hown5 hgrow5))
      have hB4 := HB4.out
      have h5s := Nat.le_trans hB4.size hgrow5.size
      refine ⟨⟨h5s, fun k o hk ho hc => (hgrow5.block k (Nat.lt_of_lt_of_le (Array.getElem?_eq_some_iff.1 ho).1 hB4.size) ?_).trans ((hB4.block k ?_).trans ho)⟩, fun k hk => ?_, ⟨_, _, by rw [HSX.out]; exact z1.step hown5, by simp; omega⟩, ?_, ?_, ?_⟩
      · intro e
        cases e
        have := HS3.out
        omega
      · exact (Array.getElem?_eq_some_iff.1 ho).1
      · have hk3 := HKL.out k hk
        have hs2 := HI2.out.2.2.2
        refine (hgrow5.block k (by have := hB4.size; omega) (fun e => ?_)).trans (hB4.block k (by omega))
        have e2 : k = b := by simpa using e
        simp only [List.mem_cons, List.mem_range] at hk
        omega
      · exact (hgrow5.block (b + 1) (by omega) (fun e => by cases e)).trans z3
      · exact z4.grown hgrow5 z4.size (fun k e => by cases e; omega)
      · exact Nat.le_trans HI2.out.2.2.2 h5s
  case done =>
    rintro K W hK ⟨⟨D, m, z1, z2⟩, z3, z4, z5⟩ hKd
    have hK2 := (Array.getElem?_eq_some_iff.1 hKd).1
    have y1 := cell_of z3 0
    simp only [List.getElem?_toArray, List.getElem?_cons_zero] at y1
    have Z1 := Lib.hid z1
    have HHS := Lib.hid hs3
    clear z1 hI0 hSl hkl
    go_wp2
    refine ⟨by simp, .inl ⟨_, _, rfl, run_takeDeferred hKd, ?_⟩⟩
    refine ⟨.map (some b), ?_, b, rfl, ⟨D, m, (Z1.out.block ?_).1, by rw [backL_length] at z2; exact z2, fun x => by rw [Z1.out.2 x]; exact stored_back l x⟩, by omega, z4.trans ((Below.refl _ _).grown (grownBy_putObj' _ _ _) z4.size (fun k e => by cases e; omega))⟩
    · simp [results, Tryd.f15, go_sem]
    · exact World.putObj_heap_other (by omega)
  case stop =>
    rintro K c pre suf W hK hL h hKd
    exact h.elim
end Go.Proofs.YtifbjccioklaoaaDoor
