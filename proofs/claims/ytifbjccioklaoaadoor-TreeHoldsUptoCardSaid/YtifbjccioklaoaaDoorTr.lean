/- Readable slices of files and of texts. No condition. -/
import Derived.Test.YtifbjccioklaoaaDoorRng
import Derived.Test.YtifbjccioklaoaaDoorProg
import Derived.WalkKit
import Derived.Below
import Derived.Sort.KeysCollected
import Derived.Laws.OwnMore
import Derived.OwnWalk
namespace Go.Proofs.YtifbjccioklaoaaDoor
set_option linter.unusedVariables false
set_option linter.unusedSimpArgs false
open Go.RowKit Rng
theorem wrap_in (n : Int) (h : -9223372036854775808 ≤ n ∧ n ≤ 9223372036854775807) : wrap64 n = n := by unfold wrap64; omega
/-- The value v is a readable slice of the files l, in blocks under B. -/
def Rf (B : Nat) (w : World) (v : Value) (l : List (ByteArray × ByteArray)) : Prop :=
  ∃ ao cap, v = .slice ao l.length cap ∧ l.length ≤ cap ∧ cap ≤ maxLen ∧
    ∀ (i : Nat) (f : ByteArray × ByteArray), l[i]? = some f → ∃ b o, ao = some ⟨b, o, none⟩ ∧ b < B ∧ w.cell? ⟨b, o + i * 2, none⟩ = some (.string f.1) ∧ w.cell? ⟨b, o + i * 2 + 1, none⟩ = some (.string f.2)
theorem Rf.below {B n : Nat} {w w' : World} {v : Value} {l : List (ByteArray × ByteArray)} (h : Rf B w v l) (hb : Below n w w') (hn : B ≤ n) : Rf B w' v l := by
  obtain ⟨ao, cap, hv, h1, h2, h3⟩ := h
  refine ⟨ao, cap, hv, h1, h2, fun i r hr => ?_⟩
  obtain ⟨b, o, hx, hB, c1, c2⟩ := h3 i r hr
  have e := hb.block b (Nat.lt_of_lt_of_le hB hn)
  exact ⟨b, o, hx, hB, (World.cell?_of_block (w := w) e).trans c1, (World.cell?_of_block (w := w) e).trans c2⟩
theorem Rf.mono {B C : Nat} {w : World} {v : Value} {l : List (ByteArray × ByteArray)} (h : Rf B w v l) (hn : B ≤ C) : Rf C w v l := by
  obtain ⟨ao, cap, hv, h1, h2, h3⟩ := h
  exact ⟨ao, cap, hv, h1, h2, fun i r hr => by obtain ⟨b, o, hx, hB, c⟩ := h3 i r hr; exact ⟨b, o, hx, Nat.lt_of_lt_of_le hB hn, c⟩⟩
def FIn (w : World) (v : Value) (l : List (ByteArray × ByteArray)) : Prop := Rf w.heap.size w v l
theorem FIn.later {w w' : World} {v : Value} {l : List (ByteArray × ByteArray)} (h : FIn w v l) (hb : Below w.heap.size w w') : FIn w' v l := (Rf.below h hb (Nat.le_refl _)).mono hb.size
/-- A readable slice of texts. -/
def Rs (B : Nat) (w : World) (v : Value) (l : List (List UInt8)) : Prop :=
  ∃ ao cap, v = .slice ao l.length cap ∧ l.length ≤ cap ∧ cap ≤ maxLen ∧
    ∀ (i : Nat) (s : List UInt8), l[i]? = some s → ∃ b o, ao = some ⟨b, o, none⟩ ∧ b < B ∧ w.cell? ⟨b, o + i, none⟩ = some (encStr s)
theorem Rs.below {B n : Nat} {w w' : World} {v : Value} {l : List (List UInt8)} (h : Rs B w v l) (hb : Below n w w') (hn : B ≤ n) : Rs B w' v l := by
  obtain ⟨ao, cap, hv, h1, h2, h3⟩ := h
  refine ⟨ao, cap, hv, h1, h2, fun i r hr => ?_⟩
  obtain ⟨b, o, hx, hB, c1⟩ := h3 i r hr
  exact ⟨b, o, hx, hB, (World.cell?_of_block (w := w) (hb.block b (Nat.lt_of_lt_of_le hB hn))).trans c1⟩
theorem Rs.mono {B C : Nat} {w : World} {v : Value} {l : List (List UInt8)} (h : Rs B w v l) (hn : B ≤ C) : Rs C w v l := by
  obtain ⟨ao, cap, hv, h1, h2, h3⟩ := h
  exact ⟨ao, cap, hv, h1, h2, fun i r hr => by obtain ⟨b, o, hx, hB, c⟩ := h3 i r hr; exact ⟨b, o, hx, Nat.lt_of_lt_of_le hB hn, c⟩⟩
def SIn (w : World) (v : Value) (l : List (List UInt8)) : Prop := Rs w.heap.size w v l
theorem SIn.later {w w' : World} {v : Value} {l : List (List UInt8)} (h : SIn w v l) (hb : Below w.heap.size w w') : SIn w' v l := (Rs.below h hb (Nat.le_refl _)).mono hb.size
theorem info_str : ∃ i, Tryd.prog.info? 9 = some i ∧ i.zero = some (.string ByteArray.empty) ∧ i.size = 1 ∧ i.bytes = 16 := by
  have e1 : (Tryd.prog.info? 9).bind (·.zero) = some (.string ByteArray.empty) := by kernel_rfl
  have e2 : (Tryd.prog.info? 9).map (·.size) = some 1 := by kernel_rfl
  have e3 : (Tryd.prog.info? 9).map (·.bytes) = some 16 := by kernel_rfl
  cases h : Tryd.prog.info? 9 with
  | none => rw [h] at e2; cases e2
  | some i =>
    rw [h] at e1 e2 e3
    simp only [Option.bind_some, Option.map_some, Option.some.injEq] at e1 e2 e3
    exact ⟨i, rfl, e1, e2, e3⟩
end Go.Proofs.YtifbjccioklaoaaDoor
