/- And: what both of two sets have, or an error where one is no set. Condition: at most 50 ranges each. -/
import Derived.Test.YtapojgbiboeaiaaGreatDoorBt
import Derived.Test.YtapojgbiboeaiaaGreatDoorJo
import Derived.Test.YtapojgbiboeaiaaGreatDoorOr
import Derived.Test.YtapojgbiboeaiaaGreatDoorNt
namespace Go.Proofs.YtapojgbiboeaiaaGreatDoor
set_option linter.unusedVariables false
set_option linter.unusedSimpArgs false
open Go.RowKit Rng
attribute [local go_sem] Oper.semAt_some
set_option maxRecDepth 100000 in
set_option maxHeartbeats 1000000 in
theorem sand_no {B C : Nat} {v u : Value} {l m : List (Int × Int)} {w : World} (h : Rd B w v l) (hB : B ≤ w.heap.size) (h' : Rd C w u m) (hC : C ≤ w.heap.size) (hno : (okR l && okR m) = false) :
    Calls Tryz.prog 6 #[v, u] w fun e w' => e = .returned (.tuple #[.slice none 0 0, .int .i64 2]) ∧ Below w.heap.size w w' := by
  have HA := Lib.hid (valid_calls h hB)
  have HV := Lib.hid (fun (w1 : World) (hb : Below w.heap.size w w1) => valid_calls (h'.below hb hC) (Nat.le_trans hC hb.size))
  go_enter Tryz.func6, Tryz.ntmps6
  cases hl : okR l with
  | false =>
    rw [hl] at HA
    clear hno HV h h'
    go_wp2_with (go_at_call 17; refine HA.out.mono ?_; rintro e w1 ⟨rfl, hB1⟩)
    go_ret2
    exact ⟨rfl, hB1⟩
  | true =>
    rw [hl] at HA hno
    have hm : okR m = false := by simpa using hno
    rw [hm] at HV
    clear hno h h' hl hm
    go_wp2_with (first | (go_at_call 17; refine HA.out.mono ?_; clear HA; rintro e w1 ⟨rfl, hB1⟩) | (go_at_call 17; refine (HV.out _ hB1).mono ?_; rintro e w2 ⟨rfl, hB2⟩))
    go_ret2
    exact ⟨rfl, hB1.trans (hB2.mono hB1.size)⟩
set_option maxRecDepth 100000 in
set_option maxHeartbeats 1000000 in
theorem both_maker (a1 a2 : Option Addr) (p q c1 c2 : Nat) (w : World) :
    Calls Tryz.prog 19 #[.slice a1 p c1, .slice a2 q c2] w fun e w' => e = .returned (.func (.func 34) #[] #[.pointer (some ⟨w.heap.size, 0, none⟩), .pointer (some ⟨w.heap.size + 1, 0, none⟩)]) ∧ w' = (w.alloc (.cells #[.slice a1 p c1] 22)).alloc (.cells #[.slice a2 q c2] 22) := by
  go_enter Tryz.func19, Tryz.ntmps19
  go_wp2
  go_ret
  exact ⟨rfl, rfl⟩
theorem bothN_length : ∀ (n : Nat) (l m : List (Int × Int)), (bothN n l m).length ≤ n
  | 0, _, _ => Nat.le_refl _
  | _ + 1, [], _ => Nat.zero_le _
  | _ + 1, _ :: _, [] => Nat.zero_le _
  | n + 1, r :: l, q :: m => by
    have h1 := bothN_length n l (q :: m)
    have h2 := bothN_length n (r :: l) m
    unfold bothN
    rw [List.length_append]
    split <;> split <;> simp <;> omega
/-- What the rounds of And make: the variable's slice. -/
def AndAt (G : Nat) (w : World) (pre : List (Int × Int)) (W : World) : Prop :=
  ∃ v, W.heap[G]? = some (.cells #[v] 22 (0, 0)) ∧ Own W (G + 3) v pre ∧ Below w.heap.size w W ∧ G + 3 ≤ W.heap.size
theorem AndAt.kept {G : Nat} {w : World} {pre : List (Int × Int)} {X Y : World} {row : Option Nat} (h : AndAt G w pre X) (hG : w.heap.size ≤ G) (hg : X.grownBy Y row) (hr : ∀ r, row = some r → (r = G + 1 ∨ r = G + 2) ∨ (G < r ∧ ∃ o : Obj, X.heap[r]? = some o ∧ o.isCells = false)) : AndAt G w pre Y := by
  obtain ⟨v, h1, h2, h3, h4⟩ := h
  refine ⟨v, (hg.block G (Array.getElem?_eq_some_iff.1 h1).1 (fun e => ?_)).trans h1, h2.kept hg ?_, h3.grown hg h3.size (fun k e => ?_), Nat.le_trans h4 hg.size⟩
  · rcases hr G e.symm with h | h <;> omega
  · rcases h2.2 with ⟨rfl, _⟩ | ⟨g, cap, cur, rfl, hb, hc, _⟩
    · exact .inl rfl
    · refine .inr (fun e => ?_)
      rcases hr g e.symm with h | ⟨_, o, ho, hn⟩
      · omega
      · rw [hc] at ho; cases ho; cases hn
  · rcases hr k e with h | h <;> omega
set_option maxRecDepth 100000 in
set_option maxHeartbeats 4000000 in
theorem sand_ok {B C : Nat} {v u : Value} {l m : List (Int × Int)} {w : World} (h : Rd B w v l) (hB : B ≤ w.heap.size) (h' : Rd C w u m) (hC : C ≤ w.heap.size) (hl : okR l = true) (hm : okR m = true) (hll : l.length ≤ 1000) (hlm : m.length ≤ 1000) :
    Calls Tryz.prog 6 #[v, u] w fun e w' => ∃ x mm, e = .returned (.tuple #[x, .int .i64 0]) ∧ mm.Perm (bothN (l.length + m.length) l m) ∧ Rises mm ∧ Own w' w.heap.size x (putAll mm) ∧ Below w.heap.size w w' := by
  have HA := Lib.hid (valid_calls h hB)
  have HV := Lib.hid (fun (w1 : World) (hb : Below w.heap.size w w1) => valid_calls (h'.below hb hC) (Nat.le_trans hC hb.size))
  have HRl := Lib.hid (fun (w1 : World) (hb : Below w.heap.size w w1) => (h.below hb hB).mono hB)
  have HRm := Lib.hid (fun (w1 : World) (hb : Below w.heap.size w w1) => (h'.below hb hC).mono hC)
  have HLL := Lib.hid (show (bothN (l.length + m.length) l m).length ≤ 2000 from Nat.le_trans (bothN_length _ _ _) (by omega))
  obtain ⟨i0, hi, hz0, hz1, hz2⟩ := info_rg
  rw [hl] at HA
  rw [hm] at HV
  obtain ⟨a1, c1, rfl, q1⟩ := h
  obtain ⟨a2, c2, rfl, q2⟩ := h'
  clear q1 q2 hl hm hll hlm hB hC
  refine (callsIn_wide (n := 8)).1 ?_
  refine callsIn_of_wp_marks Tryz.func6 rfl trivial ?_ rfl
  simp only [Tryz.ntmps6, List.size_toArray, List.length_cons, List.length_nil, Nat.reduceAdd, Nat.reduceSub, Array.replicate_succ, Array.replicate_zero, List.push_toArray, List.append_toArray, List.nil_append, List.cons_append]
  refine wpIn_wide.2 ?_
  go_upto_region 4 with (first | (go_at_call 17; refine HA.out.mono ?_; clear HA; rintro e w1 ⟨rfl, hB1⟩) | (go_at_call 17; refine (HV.out _ hB1).mono ?_; rintro e w2 ⟨rfl, hB2⟩))
  have hB3 := hB1.trans (hB2.mono hB1.size)
  clear hB1 hB2
  obtain ⟨G, hG⟩ : ∃ G, w2.heap.size = G := ⟨_, rfl⟩
  obtain ⟨W0, hW0⟩ : ∃ W0, w2.alloc (.cells #[.slice none 0 0] 22) = W0 := ⟨_, rfl⟩
  have hb0 : W0.heap[G]? = some (.cells #[.slice none 0 0] 22 (0, 0)) := by rw [← hW0, ← hG]; exact World.alloc_heap_new w2 _
  have hs0 : W0.heap.size = G + 1 := by rw [← hW0, ← hG]; simp
  have hB4 : Below w.heap.size w W0 := by rw [← hW0]; exact hB3.alloc hB3.size _
  have hGw : w.heap.size ≤ G := by rw [← hG]; exact hB3.size
  change Code.wp _ _ _ _ (w2.alloc (.cells #[.slice none 0 0] 22))
  rw [hW0, hG]
  clear hW0 hG hB3
  go_wp2_with (go_at_call 19; refine (both_maker _ _ _ _ _ _ _).mono ?_; rintro e w3 ⟨rfl, hw3⟩)
  obtain ⟨W3, hW3⟩ : ∃ W3, (W0.alloc (.cells #[.slice a1 l.length c1] 22)).alloc (.cells #[.slice a2 m.length c2] 22) = W3 := ⟨_, rfl⟩
  have t0 : W3.heap[G]? = some (.cells #[.slice none 0 0] 22 (0, 0)) := by rw [← hW3]; exact (Below.heap_alloc _ _ _ (by simp; omega)).trans ((Below.heap_alloc _ _ _ (by omega)).trans hb0)
  have t1 : W3.heap[G + 1]? = some (.cells #[.slice a1 l.length c1] 22 (0, 0)) := by rw [← hW3, ← hs0]; exact (Below.heap_alloc _ _ _ (by simp)).trans (World.alloc_heap_new W0 _)
  have t2 : W3.heap[G + 1 + 1]? = some (.cells #[.slice a2 m.length c2] 22 (0, 0)) := by rw [← hW3, ← hs0]; have := World.alloc_heap_new (W0.alloc (.cells #[.slice a1 l.length c1] 22)) (.cells #[.slice a2 m.length c2] 22); rwa [World.size_alloc] at this
  have hs3 : W3.heap.size = G + 3 := by rw [← hW3]; simp; omega
  have hB5 : Below w.heap.size w W3 := by rw [← hW3]; exact (hB4.alloc hB4.size _).alloc (by simp; omega) _
  have hTw : TwoAt (G + 1) (G + 1 + 1) w.heap.size l m W3 := ⟨_, _, t1, t2, HRl.out _ hB5, HRm.out _ hB5⟩
  have hI0 : AndAt G w [] W3 := ⟨_, t0, World.ownsRow_nil _ _ _ _, hB5, by omega⟩
  rw [hW3]
  clear hW3 hb0 hs0 hB4 t0 t1 t2 HRl HRm
  refine (wpIn_wide (n := 8)).1 ?_
  refine range_law (n := 8) (gf := 34) (lb := #[.pointer (some ⟨G + 1, 0, none⟩), .pointer (some ⟨G + 1 + 1, 0, none⟩)]) rfl (enters_of Tryz.func34 (by kernel_rfl) rfl) (both1_iter (G + 1) (G + 1 + 1) w.heap.size (by omega) (by omega) l m) (by intro _; rfl)
    (fun k h => by simp at h; omega) (keepL_lt (by omega) (by omega) (by omega))
    (fun W hg => hTw.of_same (Same.grown hg (keepL_lt (by omega) (by omega) (by omega)) (fun r e => by cases e)))
    (AndAt G w) (fun _ _ _ => False)
    (fun s X Y row h hg hr => h.kept hGw hg (fun r e => by
      rcases hr r e with h1 | ⟨h1, h2⟩
      · simp at h1; omega
      · exact .inr ⟨by omega, h2⟩))
    (fun c => (abides_pure _ _ (fun _ => False))) hI0 ?round ?done ?stop
  case round =>
    rintro y pre x suf W hL hy hyW hI
    have hlen : pre.length < 2000 := by have := congrArg List.length hL; have := HLL.out; simp at *; omega
    unfold rgEnc
    gi_wp2
    refine ⟨(KeepsOthers.alloc _ _).from _, Same.grown (World.grownBy_alloc W _ none) (keepL_lt (by omega) (by obtain ⟨_, _, _, _, h⟩ := hI; omega) (by obtain ⟨_, _, _, _, h⟩ := hI; omega)) (fun r e => by cases e), fun W2 hg2 hl2 => ?_⟩
    have hb2 := cells_kept (World.alloc_heap_new W _) hg2 hl2
    have c0 := cell_of hb2 0
    have c1 := cell_of hb2 1
    simp at c0 c1
    have hI2 : AndAt G w pre W2 := (hI.kept hGw (World.grownBy_alloc W _ none) (fun r e => by cases e)).kept hGw hg2 (fun r e => by cases e; exact .inr ⟨by omega, hl2⟩)
    obtain ⟨v, g1, g2, g3, g4⟩ := hI2
    have cG := cell_of g1 0
    have fG := frozen_of_row _ G 0 _ _ g1
    have HG1 := Lib.hid g1
    have HG2 := Lib.hid g2
    have HG3 := Lib.hid g3
    have E1 := Lib.hid (show pre.length + 1 ≤ maxLen by unfold maxLen; omega)
    have E2 := Lib.hid (show (pre.length + 1) * 16 ≤ 140737488355328 by omega)
    have E3 := Lib.hid (show G + 3 ≤ W2.heap.size + 1 by omega)
    clear hI hL g1 g2 g3 hI0 hTw hB5 hlen
    have E4 := Lib.hid (show Below (G + 3) W2 (W2.alloc (.cells #[.int .i64 x.1, .int .i64 x.2] 28)) from (Below.refl _ W2).alloc g4 _)
    gi_wp2_with (gi_at_builtin; refine wpListIn_append_own _ rfl _ _ 22 rfl (G + 3) 28 i0 _ 2 16 Tryz.underlying22 hi hz0 hz1 hz2 rfl (by decide) _ _ _ rfl (HG2.out.alloc _) ⟨W2.heap.size, 0, none⟩ 1 1 [.int .i64 x.1, .int .i64 x.2] rfl rfl (new2 W2 _ _ _) (by simp [Value.oneCell']) E1.out E2.out (by simpa using E3.out) ?_; intro v' w4 hown' hgrow hnil'; obtain ⟨ao', n', c', hv'⟩ := own_slice hown'; have hB := E4.out.grown hgrow (by simpa using E3.out) (fun j ej => (HG2.out.lt j ej).1); have hO1 := (hB.block G (by omega)).trans HG1.out; have cO1 := cell_of hO1 0; have fO1 := frozen_of_row _ G 0 _ _ hO1; subst hv')
    refine ⟨(((KeepsOthers.alloc W2 _).trans (KeepsOthers.of_grownBy hgrow fun j o ej hj => ?_)).trans (KeepsOthers.setCell _ _ _)).from _, fun k hk => ?_, _, (heap_setCell_same _ _ _ _ _ _ hO1).trans rfl, ?_, ?_, ?_⟩
    · have ej2 : v.ownBlock = some j := ej
      clear ej
      rcases (HG2.out.alloc (.cells #[.int .i64 x.1, .int .i64 x.2] 28)).2 with ⟨rfl, _⟩ | ⟨g, cap, cur, rfl, _, hgb, _⟩
      · simp [Value.ownBlock] at ej2
      · obtain rfl : g = j := by simpa [Value.ownBlock] using ej2
        rw [hgb] at hj; cases hj; rfl
    · have hk' := hk
      simp only [keepL, List.mem_cons, List.mem_range] at hk'
      exact (Below.heap_setCell _ _ _ _ (by simp; omega)).trans (hB.block k (by omega))
    · exact own_setCell (own_more (r := x) hown') (by simp) _
    · exact (HG3.out.trans (hB.mono (by omega))).setCell hGw _
    · have := hB.size; simp; omega
  case done =>
    rintro K W hK ⟨v, g1, g2, g3, g4⟩ hKd
    have hK2 := (Array.getElem?_eq_some_iff.1 hKd).1
    have cG := cell_of g1 0
    have HJ := Lib.hid (joined_calls (own_rd g2) (Nat.le_refl _) (by have := HLL.out; omega))
    have HG3 := Lib.hid g3
    clear g1 g2 g3 hI0 hTw hB5
    go_wp2_with (go_at_call 16; refine HJ.out.mono ?_; rintro e W5 ⟨x, mm, rfl, hp, hri, hO5, hB5⟩)
    have hK5 : W5.heap[K]? = some (.deferred (some [])) := (hB5.block K hK2).trans hKd
    refine ⟨by simp, .inl ⟨_, _, rfl, run_takeDeferred hK5, ?_⟩⟩
    refine ⟨.tuple #[x, .int .i64 0], ?_, x, mm, rfl, hp, hri, ?_, ?_⟩
    · simp [results, Tryz.f6, go_sem]
    · refine (own_mono hO5 HG3.out.size).kept (grownBy_putObj' W5 K (.deferred none)) ?_
      rcases hO5.2 with ⟨rfl, _⟩ | ⟨g, cap, cur, rfl, _, hc, _⟩
      · exact .inl rfl
      · refine .inr (fun e => ?_)
        have e2 : g = K := by simpa [Value.ownBlock] using e
        rw [← e2, hc] at hK5
        cases hK5
    · exact (HG3.out.trans (hB5.mono HG3.out.size)).trans ((Below.refl _ _).grown (grownBy_putObj' _ _ _) (Nat.le_trans HG3.out.size hB5.size) (fun k e => by cases e; omega))
  case stop =>
    rintro K c pre suf W hK hL h hKd
    exact h.elim
end Go.Proofs.YtapojgbiboeaiaaGreatDoor
