/- slices.Concat of two slices of ranges: a new slice of the ranges of both. Condition: at most 65536 ranges each. -/
import Derived.Test.YtapojgbiboeaiaaGreatDoorCl
import Derived.Lib.AppendZeros
namespace Go.Proofs.YtapojgbiboeaiaaGreatDoor
set_option linter.unusedVariables false
set_option linter.unusedSimpArgs false
open Go.RowKit Rng
set_option maxRecDepth 100000 in
set_option maxHeartbeats 400000 in
theorem grow_calls {n : Nat} {w : World} (hn : n ≤ 131072) :
    Calls Tryz.prog 39 #[.slice none 0 0, .int .i64 n] w fun e w' => ∃ x, e = .returned x ∧ Own w' w.heap.size x [] ∧ Below w.heap.size w w' := by
  obtain ⟨i0, hi, hz0, hz1, hz2⟩ := info_rg
  have HN := Lib.hid hn
  have h1 : ¬ ((n : Int) < 0) := by omega
  have h2 : wrap64 ((0 : Int) - 0) = 0 := by rw [wrap_in _ (by omega)]; rfl
  have h3 : wrap64 ((n : Int) - 0) = n := by rw [wrap_in _ (by omega)]; omega
  clear hn
  go_enter Tryz.func39, Tryz.ntmps39
  by_cases h0 : n = 0
  · subst h0
    clear h1 h3
    go_wp2
    go_ret
    exact ⟨_, rfl, World.ownsRow_nil _ _ _ _, Below.refl _ _⟩
  · have hr := Lib.run_append_nil_zeros (P := Tryz.prog) w 22 3 22 28 i0 _ .i64 .i64 Tryz.underlying22 Tryz.underlying3 hi hz0 n (by omega) (by rw [hz1]; decide) (by have := HN.out; omega) (by rw [hz2]; have := HN.out; omega)
    have hge := grownCap_ge w n 0 28
    have hcm : grownCap w n 0 28 ≤ maxLen := grownCap_le_maxLen w n 0 28 (by have := HN.out; unfold maxLen; omega)
    generalize grownCap w n 0 28 = cap at hr hge hcm
    have h4 : 0 < (n : Int) := by omega
    clear h0
    have h5 : wrap64 (n : Int) = n := wrap_in _ (by have := HN.out; omega)
    obtain ⟨A, hA⟩ : ∃ A : Array Value, Builtin.zeroCells (Value.agg #[Value.int IntKind.i64 0, Value.int IntKind.i64 0]).cells n ++ Builtin.zeroCells (Value.agg #[Value.int IntKind.i64 0, Value.int IntKind.i64 0]).cells (cap - n) = A := ⟨_, rfl⟩
    rw [hA] at hr
    rw [← h5] at hr
    have h7 : 0 < wrap64 (n : Int) := by rw [h5]; exact h4
    have HR := Lib.hid hr
    have HGE := Lib.hid hge
    have h6 : (0 : Int) ≤ cap := by omega
    clear hr hge hi hz0 hz1 hz2 h5
    go_upto_region 5 with fail
    go_wp2_with (at_builtin; go_loud (refine Lib.wpList_append_run _ rfl _ _ 22 3 rfl (.slice none 0 0) (.int .i64 (wrap64 n)) rfl rfl _ _ HR.out ?_))
    go_ret
    refine ⟨_, rfl, ?_, ?_⟩
    · refine ⟨rfl, .inr ⟨w.heap.size, cap, A, rfl, Nat.le_refl _, World.alloc_heap_new w _, Nat.zero_le _, hcm, ?_, by simp [rcells]⟩⟩
      have := HGE.out
      rw [← hA, Array.size_append, size_zeroCells, size_zeroCells]
      simp only [Value.cells, List.size_toArray, List.length_cons, List.length_nil]
      omega
    · exact ((Below.refl _ w).alloc (Nat.le_refl _) _).drew
/-- An append of a readable slice of ranges to the call's own. -/
theorem append_rd {w : World} {ops : Array Oper} {rest : List Oper} {o : Oper} {a : Act} {Q : Exit → Act → World → Prop} (hgd : o.guard = none) (s x : Operand)
    (ho : o.op = .call { callee := .builtin .append, args := #[s, x], argTypes := #[22, 22] })
    (base : Nat) (v : Value) (L : List (Int × Int)) (hs : a.eval s = v) (hown : Own w base v L) (xv : Value) (hx : a.eval x = xv) (B : Nat) (l : List (Int × Int)) (hr : Rd B w xv l)
    (hlen : L.length + l.length ≤ 262144) (hbase : base ≤ w.heap.size)
    (h : ∀ v' w', Own w' base v' (L ++ l) → w.grownBy w' v.ownBlock → wpList Tryz.prog ops Q rest (a.put o.dst v') w') : wpList Tryz.prog ops Q (o :: rest) a w := by
  obtain ⟨i0, hi, hz0, hz1, hz2⟩ := info_rg
  obtain ⟨ao, cap, rfl, h1, h2, h3⟩ := hr
  cases ao with
  | none =>
    have hl : l = [] := by
      cases l with
      | nil => rfl
      | cons r l => obtain ⟨b, o, e, _⟩ := h3 0 r rfl; cases e
    subst hl
    have hrun : (Builtin.append_ #[22, 22] o.type #[v, .slice none 0 cap]).run Tryz.prog w = .ok v w := by
      rcases hown.2 with ⟨rfl, h0⟩ | ⟨g, cap, cur, rfl, _, _, hnc, _⟩
      · simp [Builtin.append_, run_underlying Tryz.underlying22, sizeOf, typeInfo, hi, Builtin.lenOf, Builtin.firstCells]
      · simp [Builtin.append_, run_underlying Tryz.underlying22, sizeOf, typeInfo, hi, Builtin.lenOf, Builtin.firstCells, hnc, storeCells]
    refine wpList_plain hgd fun K hK' => ?_
    unfold Oper.wp
    simp [execOp, ho, resolve, invoke, builtin, hs, hx, hrun, Result.andThen]
    exact hK' _ _ (h v w (by rw [List.append_nil]; exact hown) (World.grownBy.refl _ _))
  | some ad =>
    have hc : ∀ j u, (rcells l)[j]? = some u → w.cell? (ad.add j) = some u := by
      cases l with
      | nil => intro j u hu; simp [rcells] at hu
      | cons r l =>
        obtain ⟨b, o, e, _⟩ := h3 0 r rfl
        obtain rfl := Option.some.inj e
        exact rd_cells (B := B) rfl h3
    refine wpList_append_own w hgd s x _ ho base 28 i0 _ 2 16 Tryz.underlying22 hi hz0 hz1 hz2 rfl (by decide) v L.length (rcells L) hs hown ad l.length cap (rcells l) hx (rcells_length l) hc (by intro u hu; obtain ⟨r, _, hr⟩ := List.mem_flatMap.1 hu; simp at hr; rcases hr with rfl | rfl <;> rfl) (by unfold maxLen; omega) (by omega) hbase ?_
    intro v' w' hown' hg _
    refine h v' w' ?_ hg
    unfold Own
    rw [List.length_append, rcells_append]
    exact hown'
theorem wrap_one {p : Nat} (hp : p ≤ 65536) : wrap64 (p : Int) = (p : Int) := wrap_in _ (by omega)
theorem wrap_sum {p q : Nat} (hp : p ≤ 65536) (hq : q ≤ 65536) : wrap64 ((p : Int) + q) = ((p + q : Nat) : Int) := by
  rw [wrap_in _ (by omega)]
  push_cast
  rfl
set_option maxRecDepth 100000 in
set_option maxHeartbeats 1000000 in
theorem concat_calls {B C g : Nat} {v u : Value} {l m : List (Int × Int)} {w : World} (hb : w.heap[g]? = some (.cells #[v, u] 22 (0, 0))) (h : Rd B w v l) (hB : B ≤ w.heap.size) (h' : Rd C w u m) (hC : C ≤ w.heap.size) (hl : l.length ≤ 65536) (hm : m.length ≤ 65536) :
    Calls Tryz.prog 22 #[.slice (some ⟨g, 0, none⟩) 2 2] w fun e w' => ∃ x, e = .returned x ∧ Own w' w.heap.size x (l ++ m) ∧ Below w.heap.size w w' := by
  have hgs := (Array.getElem?_eq_some_iff.1 hb).1
  have HL := Lib.hid (fun (W : World) (b : Below w.heap.size w W) => h.below b hB)
  have HM := Lib.hid (fun (W : World) (b : Below w.heap.size w W) => h'.below b hC)
  obtain ⟨a1, c1, rfl, q1⟩ := h
  obtain ⟨a2, c2, rfl, q2⟩ := h'
  clear q1 q2
  obtain ⟨p, hp⟩ : ∃ p, l.length = p := ⟨_, rfl⟩
  obtain ⟨q, hq⟩ : ∃ q, m.length = q := ⟨_, rfl⟩
  rw [hp] at hl hb HL
  rw [hq] at hm hb HM
  obtain ⟨N, hN⟩ : ∃ N, p + q = N := ⟨_, rfl⟩
  have HW0 := Lib.hid (wrap_one hl)
  have HW1 := Lib.hid (show wrap64 ((p : Int) + q) = N by rw [← hN]; exact wrap_sum hl hm)
  have HN := Lib.hid (show N ≤ 131072 by omega)
  have HB := Lib.hid hb
  have HP := Lib.hid hp
  have HQ := Lib.hid hq
  have HPQ := Lib.hid hN
  have HLE := Lib.hid (And.intro hl hm)
  clear hb hp hq hN hl hm
  go_enter Tryz.func22, Tryz.ntmps22
  go_wp2
  go_loopw [3, 11] (fun s i wr => ∃ k : Nat, k ≤ 2 ∧ i = .int .i64 k ∧ s = .int .i64 ((if k = 0 then 0 else if k = 1 then p else N : Nat) : Int) ∧ wr = w) (fun _ i _ => 2 - (intOf i).toNat)
  case atStart => exact ⟨0, by omega, rfl, rfl, rfl⟩
  case round =>
    obtain ⟨k, hk, rfl, rfl, hww⟩ := hrel
    subst wr
    have hA0 := cell_of HB.out 0
    have hA1 := cell_of HB.out 1
    obtain rfl | rfl | rfl : k = 0 ∨ k = 1 ∨ k = 2 := by omega
    · clear hA1
      have hp0 : ¬ wrap64 (p : Int) < 0 := by rw [HW0.out]; omega
      go_wp2
      go_roundw
      case rel => exact ⟨1, by omega, rfl, congrArg (Value.int IntKind.i64) HW0.out, trivial⟩
      case measure => simp only [intOf]; omega
    · clear hA0
      have hp0 : ¬ wrap64 ((p : Int) + q) < 0 := by rw [HW1.out]; omega
      go_wp2
      go_roundw
      case rel => exact ⟨2, by omega, rfl, congrArg (Value.int IntKind.i64) HW1.out, trivial⟩
      case measure => simp only [intOf]; omega
    · have HG := Lib.hid (grow_calls (w := w) HN.out)
      go_upto_region 10 with (go_at_call 39; refine HG.out.mono ?_; rintro e w1 ⟨x, rfl, hO1, hB1⟩)
      go_wp2
      go_loopw [6, 27] (fun s i wr => ∃ k : Nat, k ≤ 2 ∧ i = .int .i64 k ∧ Own wr w.heap.size s (if k = 0 then [] else if k = 1 then l else l ++ m) ∧ Below w.heap.size w wr) (fun _ i _ => 2 - (intOf i).toNat)
      case atStart => exact ⟨0, by omega, rfl, hO1, hB1⟩
      case round =>
        obtain ⟨k, hk, rfl, hO, hBr⟩ := hrel
        have hbr := (hBr.block g hgs).trans HB.out
        have hA0 := cell_of hbr 0
        have hA1 := cell_of hbr 1
        have HO := Lib.hid hO
        have hs := hBr.size
        obtain rfl | rfl | rfl : k = 0 ∨ k = 1 ∨ k = 2 := by omega
        · clear hA1 hO hbr hO1 hB1
          go_wp2_with (at_builtin; refine append_rd rfl _ _ rfl w.heap.size _ [] rfl HO.out _ rfl B l (HL.out _ hBr) (by have := HLE.out; have := HP.out; simp; omega) hs ?_; intro v' w4 hown' hgrow)
          go_roundw
          case rel => exact ⟨1, by omega, rfl, hown', hBr.grown hgrow hs (fun j ej => (HO.out.lt j ej).1)⟩
          case measure => simp only [intOf]; omega
        · clear hA0 hO hbr hO1 hB1
          go_wp2_with (at_builtin; refine append_rd rfl _ _ rfl w.heap.size _ l rfl HO.out _ rfl C m (HM.out _ hBr) (by have := HLE.out; have := HP.out; have := HQ.out; omega) hs ?_; intro v' w4 hown' hgrow)
          go_roundw
          case rel => exact ⟨2, by omega, rfl, hown', hBr.grown hgrow hs (fun j ej => (HO.out.lt j ej).1)⟩
          case measure => simp only [intOf]; omega
        · clear hA0 hA1 hO hbr hO1 hB1
          go_wp2
          go_ret
          exact ⟨_, rfl, HO.out, hBr⟩
end Go.Proofs.YtapojgbiboeaiaaGreatDoor
