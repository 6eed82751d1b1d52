/- Or, And, Not and Of, each in one contract: what they give, whether the ranges are a set or not. Conditions: at most 50 ranges each, 50 numbers. -/
import Derived.Test.YtapojgbiboeaiaaGreatDoorPm
namespace Go.Proofs.YtapojgbiboeaiaaGreatDoor
set_option linter.unusedVariables false
set_option linter.unusedSimpArgs false
open Go.RowKit Rng
/-- What Or, And give. -/
def pairL (and : Bool) (l m : List (Int × Int)) : List (Int × Int) := if okR l && okR m then setUp (fun i => andOr and (mem l i) (mem m i)) 65536 else []
def pairC (l m : List (Int × Int)) : Int := if okR l && okR m then 0 else 2
/-- A slice of ranges, an error's number. -/
def Gives (w : World) (L : List (Int × Int)) (c : Int) (e : Ending) (w' : World) : Prop := ∃ x, e = .returned (.tuple #[x, .int .i64 c]) ∧ Own w' w.heap.size x L ∧ Below w.heap.size w w'
theorem gives_no {f : FuncId} {args : Array Value} {w : World} {L : List (Int × Int)} {c : Int} (hL : L = []) (hc : c = 2) (h : Calls Tryz.prog f args w fun e w' => e = .returned (.tuple #[.slice none 0 0, .int .i64 2]) ∧ Below w.heap.size w w') : Calls Tryz.prog f args w (Gives w L c) := by
  subst hL hc
  exact h.mono fun e w' ⟨h1, h2⟩ => ⟨_, h1, World.ownsRow_nil _ _ _ _, h2⟩
theorem pairC_no {l m : List (Int × Int)} (h : (okR l && okR m) = false) : pairC l m = 2 := by simp [pairC, h]
theorem pairL_no {a : Bool} {l m : List (Int × Int)} (h : (okR l && okR m) = false) : pairL a l m = [] := by simp [pairL, h]
theorem pairC_ok {l m : List (Int × Int)} (h : (okR l && okR m) = true) : pairC l m = 0 := by simp [pairC, h]
theorem pairL_ok {a : Bool} {l m : List (Int × Int)} (h : (okR l && okR m) = true) : pairL a l m = setUp (fun i => andOr a (mem l i) (mem m i)) 65536 := by unfold pairL; rw [h, if_pos rfl]
section
variable {B C : Nat} {v u : Value} {l m : List (Int × Int)} {w : World}
theorem or_any (h : Rd B w v l) (hB : B ≤ w.heap.size) (h' : Rd C w u m) (hC : C ≤ w.heap.size) (hll : l.length ≤ 1000) (hlm : m.length ≤ 1000) :
    Calls Tryz.prog 8 #[v, u] w (Gives w (pairL false l m) (pairC l m)) := by
  cases hok : okR l && okR m with
  | false => exact gives_no (pairL_no hok) (pairC_no hok) (sor_no h hB h' hC hok)
  | true =>
    have hk := hok
    rw [Bool.and_eq_true] at hk
    rw [pairL_ok hok, pairC_ok hok]
    exact (sor_ok h hB h' hC hk.1 hk.2 hll hlm).mono fun e w' ⟨x, mm, h1, h2, h3, h4, h5⟩ => ⟨x, h1, by rw [← or_law hk.1 hk.2 h2 h3]; exact h4, h5⟩
theorem and_any (h : Rd B w v l) (hB : B ≤ w.heap.size) (h' : Rd C w u m) (hC : C ≤ w.heap.size) (hll : l.length ≤ 1000) (hlm : m.length ≤ 1000) :
    Calls Tryz.prog 6 #[v, u] w (Gives w (pairL true l m) (pairC l m)) := by
  cases hok : okR l && okR m with
  | false => exact gives_no (pairL_no hok) (pairC_no hok) (sand_no h hB h' hC hok)
  | true =>
    have hk := hok
    rw [Bool.and_eq_true] at hk
    rw [pairL_ok hok, pairC_ok hok]
    exact (sand_ok h hB h' hC hk.1 hk.2 hll hlm).mono fun e w' ⟨x, mm, h1, h2, h3, h4, h5⟩ => ⟨x, h1, by rw [← and_law hk.1 hk.2 h2 h3]; exact h4, h5⟩
def notOk (l : List (Int × Int)) (n : Int) : Bool := okR l && decide (0 ≤ n) && decide (n ≤ 65536)
def notL (l : List (Int × Int)) (n : Int) : List (Int × Int) := if notOk l n then setUp (fun i => decide (i < n.toNat) && !mem l i) 65536 else []
def notC (l : List (Int × Int)) (n : Int) : Int := if notOk l n then 0 else 2
theorem notOk_no {n : Int} (h : notOk l n = false) : okR l = false ∨ n < 0 ∨ 65536 < n := by
  cases hl : okR l with
  | false => exact .inl rfl
  | true =>
    rw [notOk, hl, Bool.true_and, Bool.and_eq_false_iff, decide_eq_false_iff_not, decide_eq_false_iff_not] at h
    omega
theorem notOk_ok {n : Int} (h : notOk l n = true) : okR l = true ∧ ∃ k : Nat, n = k ∧ k ≤ 65536 := by
  rw [notOk, Bool.and_eq_true, Bool.and_eq_true, decide_eq_true_eq, decide_eq_true_eq] at h
  exact ⟨h.1.1, n.toNat, by omega, by omega⟩
theorem not_any (n : Int) (h : Rd B w v l) (hB : B ≤ w.heap.size) (hll : l.length ≤ 1000) :
    Calls Tryz.prog 5 #[v, .int .i64 n] w (Gives w (notL l n) (notC l n)) := by
  cases hok : notOk l n with
  | false => exact gives_no (by simp [notL, hok]) (by simp [notC, hok]) (snot_no n h hB (notOk_no hok))
  | true =>
    obtain ⟨hl, k, rfl, hk⟩ := notOk_ok hok
    have e1 : notC l (k : Int) = 0 := by simp [notC, hok]
    have e2 : notL l (k : Int) = notR l k := by rw [not_law hl hk]; unfold notL; rw [hok, if_pos rfl, Int.toNat_natCast]
    rw [e1, e2]
    exact (snot_ok k h hB hl hk hll)
end
def ofL (l : List Int) : List (Int × Int) := if l.all isLine then setUp (isIn l) 65536 else []
def ofC (l : List Int) : Int := if l.all isLine then 0 else 2
theorem of_any {B : Nat} {v : Value} {l : List Int} {w : World} (h : Rn B w v l) (hB : B ≤ w.heap.size) (hlen : l.length ≤ 1000) :
    Calls Tryz.prog 9 #[v] w (Gives w (ofL l) (ofC l)) :=
  (of_calls h hB (by omega)).mono fun e w' ⟨⟨x, c, h1, h2⟩, h3⟩ => by
    rcases h2 with ⟨a, rfl, mm, p, r, o⟩ | ⟨a, rfl, rfl⟩
    · exact ⟨x, by rw [h1]; simp [ofC, a], by unfold ofL; rw [a, if_pos rfl, ← of_law a p r]; exact o, h3⟩
    · exact ⟨.slice none 0 0, by rw [h1]; simp [ofC, a], by rw [show ofL l = [] by simp [ofL, a]]; exact World.ownsRow_nil _ _ _ _, h3⟩
end Go.Proofs.YtapojgbiboeaiaaGreatDoor
