/- Lists of ranges as values and in memory: what a slice of ranges holds. Plain definitions and lemmas. -/
import Derived.Test.YtapojgbiboeaiaaGreatDoorProg
import Derived.Test.YtapojgbiboeaiaaGreatDoorRng
import Derived.Laws.AppendOwn
import Derived.WalkKit
import Derived.Below
import Derived.Lib.Hide
namespace Go.Proofs.YtapojgbiboeaiaaGreatDoor
set_option linter.unusedVariables false
set_option linter.unusedSimpArgs false
open Go.RowKit Rng
theorem wrap_in (n : Int) (h : -9223372036854775808 ≤ n ∧ n ≤ 9223372036854775807) : wrap64 n = n := by unfold wrap64; omega
theorem wrap_succ {k n cap : Nat} (h : k < n) (h1 : n ≤ cap) (h2 : cap ≤ maxLen) : wrap64 ((k : Int) + 1) = ((k + 1 : Nat) : Int) := by
  simp only [maxLen] at h2
  rw [wrap_in _ (by omega)]
  omega
/-- The cells of a list of ranges. -/
def rcells (l : List (Int × Int)) : List Value := l.flatMap fun r => [.int .i64 r.1, .int .i64 r.2]
/-- The value v is a slice of just the ranges l, in blocks under B. -/
def Rd (B : Nat) (w : World) (v : Value) (l : List (Int × Int)) : Prop :=
  ∃ (ao : Option Addr) (cap : Nat), v = .slice ao l.length cap ∧ l.length ≤ cap ∧ cap ≤ maxLen ∧
    ∀ (i : Nat) (r : Int × Int), l[i]? = some r → ∃ b o, ao = some ⟨b, o, none⟩ ∧ b < B ∧ w.cell? ⟨b, o + i * 2, none⟩ = some (.int .i64 r.1) ∧ w.cell? ⟨b, o + i * 2 + 1, none⟩ = some (.int .i64 r.2)
theorem Rd.below {B n : Nat} {w w' : World} {v : Value} {l : List (Int × Int)} (h : Rd B w v l) (hb : Below n w w') (hn : B ≤ n) : Rd B w' v l := by
  obtain ⟨ao, cap, hv, h1, h2, h3⟩ := h
  refine ⟨ao, cap, hv, h1, h2, fun i r hr => ?_⟩
  obtain ⟨b, o, hx, hB, c1, c2⟩ := h3 i r hr
  have e := hb.block b (Nat.lt_of_lt_of_le hB hn)
  exact ⟨b, o, hx, hB, (World.cell?_of_block (w := w) e).trans c1, (World.cell?_of_block (w := w) e).trans c2⟩
theorem Rd.mono {B C : Nat} {w : World} {v : Value} {l : List (Int × Int)} (h : Rd B w v l) (hn : B ≤ C) : Rd C w v l := by
  obtain ⟨ao, cap, hv, h1, h2, h3⟩ := h
  exact ⟨ao, cap, hv, h1, h2, fun i r hr => by obtain ⟨b, o, hx, hB, c⟩ := h3 i r hr; exact ⟨b, o, hx, Nat.lt_of_lt_of_le hB hn, c⟩⟩
end Go.Proofs.YtapojgbiboeaiaaGreatDoor
