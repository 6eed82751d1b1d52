/- Parse: what holds between its lines. No condition. -/
import Derived.Test.YtjfpfmknngkgaaaDoorPpl
import Derived.Maps.OwnIn
import Derived.Maps.OwnSet
import Derived.Sort.MapsRangeIn
namespace Go.Proofs.YtjfpfmknngkgaaaDoor
set_option linter.unusedVariables false
set_option linter.unusedSimpArgs false
open Go.RowKit Rng Go.Maps
theorem keyStr : Keyed Tryd.prog 9 := string_keyed Tryd.underlying9
theorem zeroInt (w : World) : (zeroValue 3).run Tryd.prog w = .ok (.int .i64 0) w := by kernel_rfl
/-- The block is the map that says 1 of just these names. -/
def MapN (w : World) (b m : Nat) (had : List (List UInt8)) (D : DataW Unit) : Prop :=
  w.ownsMap Tryd.prog 9 (plainElem Tryd.prog 3) b m D ∧ ∀ x, D.atKey (.string x) (.lit (.int .i64 0)) = .lit (.int .i64 (if had.contains x then 1 else 0))
theorem MapN.block {w w' : World} {b m : Nat} {ns : List (List UInt8)} {D : DataW Unit} (h : MapN w b m ns D) (hb : w'.heap[b]? = w.heap[b]?) : MapN w' b m ns D := by
  obtain ⟨⟨es, clock, h1, h2⟩, h3⟩ := h
  exact ⟨⟨es, clock, hb.trans h1, h2⟩, h3⟩
theorem MapN.lt {w : World} {b m : Nat} {ns : List (List UInt8)} {D : DataW Unit} (h : MapN w b m ns D) : b < w.heap.size := by
  obtain ⟨⟨es, clock, h1, _⟩, _⟩ := h
  exact (Array.getElem?_eq_some_iff.1 h1).1
theorem MapN.step {w w' : World} {b m : Nat} {ns : List (List UInt8)} {x : List UInt8} {D : DataW Unit} (h : MapN w b m ns D) (h' : w'.ownsMap Tryd.prog 9 (plainElem Tryd.prog 3) b (m + 1) (D.put (.string x) (.lit (.int .i64 1)))) : MapN w' b (m + 1) (x :: ns) (D.put (.string x) (.lit (.int .i64 1))) := by
  obtain ⟨h1, h3⟩ := h
  refine ⟨h', fun y => ?_⟩
  by_cases e : y = x
  · subst e
    rw [atKey_put_same h1.isMap (by simp [Go.WideAt.IsKeyLit])]
    simp
  · rw [atKey_put_other (by simpa using e), h3 y]
    simp [e]
theorem MapN.look {w : World} {b m : Nat} {ns : List (List UInt8)} {D : DataW Unit} (h : MapN w b m ns D) (x : ByteArray) (hx : x.size ≤ maxLen) :
    (Instr.lookup 67 (.map (some b)) (.string x) false).run Tryd.prog w = .ok (.int .i64 (if ns.contains x.data.toList then 1 else 0)) w := by
  obtain ⟨c, h1, h2, h3⟩ := h.1.lookup_int keyStr Tryd.underlying67 Tryd.underlying3 (zeroInt w) (Go.WideMaps.keyOf_string_mk (P := Tryd.prog) Tryd.underlying9 (s := x) hx)
  rw [h.2] at h2
  simp only [DataW.lit.injEq, Lit.int.injEq, true_and] at h2
  rw [h1, h2]
/-- The text's other variables: the map's, the place's; the results' three. -/
structure ParVars (h s1 : Nat) (w : World) (a : Nat) (W : World) : Prop where
  mp : W.heap[s1 + 2]? = some (.cells #[.map (some (s1 + 1))] 67 (0, 0))
  at' : W.heap[s1 + 3]? = some (.cells #[.int .i64 (a : Nat)] 3 (0, 0))
  r0 : SAt W h zeroSty
  r1 : W.heap[h + 1]? = some (.cells #[.int .i64 0] 3 (0, 0))
  r2 : W.heap[h + 2]? = some (.cells #[.int .i64 0] 24 (0, 0))
  below : Below h w W
  lo : h + 3 ≤ s1
  hi : s1 + 7 ≤ W.heap.size
theorem ParVars.kept {h s1 a : Nat} {w X Y : World} {row : Option Nat} (hp : ParVars h s1 w a X) (hg : X.grownBy Y row) (hr : ∀ r, row = some r → r = s1 ∨ r = s1 + 1 ∨ s1 + 6 < r ∨ r = s1 + 4) : ParVars h s1 w a Y := by
  obtain ⟨p1, p2, p3, p4, p5, p6, p7, p8⟩ := hp
  have b : ∀ k, k < s1 + 7 → k ≠ s1 → k ≠ s1 + 1 → k ≠ s1 + 4 → Y.heap[k]? = X.heap[k]? := fun k hk h1 h2 h3 => hg.block _ (by omega) (fun e => by have := hr _ e.symm; omega)
  exact ⟨(b _ (by omega) (by omega) (by omega) (by omega)).trans p1, (b _ (by omega) (by omega) (by omega) (by omega)).trans p2, p3.block (b _ (by omega) (by omega) (by omega) (by omega)), (b _ (by omega) (by omega) (by omega) (by omega)).trans p4, (b _ (by omega) (by omega) (by omega) (by omega)).trans p5, p6.grown hg (by omega) (fun k e => by have := hr k e; omega), p7, Nat.le_trans p8 hg.size⟩
/-- The style and the names so far. -/
structure ParSty (s1 : Nat) (s : Sty) (had : List (List UInt8)) (n : Nat) (W : World) : Prop where
  sty : SAt W s1 s
  map : ∃ D m, MapN W (s1 + 1) m had D ∧ m ≤ n
theorem ParSty.kept {s1 n : Nat} {s : Sty} {had : List (List UInt8)} {X Y : World} {row : Option Nat} (hp : ParSty s1 s had n X) (hg : X.grownBy Y row) (hr : ∀ r, row = some r → r ≠ s1 ∧ r ≠ s1 + 1) : ParSty s1 s had n Y := by
  obtain ⟨p1, D, m, p2, p3⟩ := hp
  exact ⟨p1.block (hg.block _ p1.lt (fun e => (hr _ e.symm).1 rfl)), D, m, p2.block (hg.block _ p2.lt (fun e => (hr _ e.symm).2 rfl)), p3⟩
/-- Between the lines. -/
def ParAt (h s1 : Nat) (w : World) (L : List (List UInt8)) (pre : List (List UInt8)) (W : World) : Prop :=
  ∃ s had, (∀ suf, L = pre ++ suf → parseFrom L firstSty [] 0 = parseFrom suf s had (lensL pre)) ∧ ParSty s1 s had pre.length W ∧ ParVars h s1 w (lensL pre) W
theorem ParAt.kept {h s1 : Nat} {w : World} {L pre : List (List UInt8)} {X Y : World} {row : Option Nat} (hp : ParAt h s1 w L pre X) (hg : X.grownBy Y row) (hr : ∀ r, row = some r → s1 + 6 < r ∨ r = s1 + 4) : ParAt h s1 w L pre Y := by
  obtain ⟨s, had, p1, p2, p3⟩ := hp
  exact ⟨s, had, p1, p2.kept hg (fun r e => by have := hr r e; omega), p3.kept hg (fun r e => by have := hr r e; omega)⟩
/-- At the refusal. -/
def ParEnd (h : Nat) (w : World) (L : List (List UInt8)) (W : World) : Prop :=
  ∃ b : Int, parseFrom L firstSty [] 0 = (zeroSty, b, 90) ∧ SAt W h zeroSty ∧ W.heap[h + 1]? = some (.cells #[.int .i64 b] 3 (0, 0)) ∧ W.heap[h + 2]? = some (.cells #[.int .i64 90] 24 (0, 0)) ∧ Below h w W
theorem ParEnd.kept {h : Nat} {w : World} {L : List (List UInt8)} {X Y : World} {row : Option Nat} (hp : ParEnd h w L X) (hg : X.grownBy Y row) (hr : ∀ r, row = some r → h + 2 < r) : ParEnd h w L Y := by
  obtain ⟨b, p1, p2, p3, p4, p5⟩ := hp
  have bl : ∀ k, k < h + 3 → Y.heap[k]? = X.heap[k]? := fun k hk => hg.block _ (Nat.lt_of_lt_of_le hk (Array.getElem?_eq_some_iff.1 p4).1) (fun e => by have := hr _ e.symm; omega)
  exact ⟨b, p1, p2.block (bl _ (by omega)), (bl _ (by omega)).trans p3, (bl _ (by omega)).trans p4, p5.grown hg (by have := (Array.getElem?_eq_some_iff.1 p4).1; have := p5.size; omega) (fun k e => by have := hr k e; omega)⟩
end Go.Proofs.YtjfpfmknngkgaaaDoor
