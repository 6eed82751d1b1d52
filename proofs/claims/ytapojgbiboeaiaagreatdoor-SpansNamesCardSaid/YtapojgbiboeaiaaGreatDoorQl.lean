/- A struct read from the middle of a row, in a region of open order; two structs of two numbers compared. -/
import Derived.Test.YtapojgbiboeaiaaGreatDoorRr
import Derived.Test.YtapojgbiboeaiaaGreatDoorQt
import Derived.Deep.MidRow
import Derived.Laws.StructEq
import Derived.BigQuiet
namespace Go.Proofs.YtapojgbiboeaiaaGreatDoor
set_option linter.unusedVariables false
set_option linter.unusedSimpArgs false
open Go.RowKit Rng
theorem quiet_load_mid {P : Program} {ops : Array Oper} {C : World → Prop} {Q : Act → Prop} {a : Act} {op : Oper} {rest : List Oper} (hw : Region.wanted op (yielded ops a.tmps) = true) (ty : TypeId) (x : Operand) (ho : op.op = .load ty x)
    (b o : Nat) (hx : a.eval x = .pointer (some ⟨b, o, none⟩)) (cs : List Value) (d : TypeDesc) (hc : ∀ w, C w → w.rangeAt b o cs)
    (hu : P.underlying ty = some d) (hd : d.isRow = true) (hi : (P.info? ty).map (·.size) = some cs.length)
    (h : wpQuiet P ops C Q rest (a.put op.dst (.agg cs.toArray))) : wpQuiet P ops C Q (op :: rest) a := by
  unfold wpQuiet
  rw [if_pos hw]
  refine ⟨.agg cs.toArray, fun w hcw => ?_, h⟩
  unfold Oper.quietAt execOp
  simp only [ho, hx, Sem.run_bind, Sem.run_pure, Result.andThen_ok, run_loadAt_mid w b o ty cs d (hc w hcw) hu hd hi]
  exact ⟨rfl, rfl⟩
theorem range2 {w : World} {b o : Nat} {x y : Value} (h1 : w.cell? ⟨b, o, none⟩ = some x) (h2 : w.cell? ⟨b, o + 1, none⟩ = some y) : w.rangeAt b o [x, y] := by
  intro j v hv
  match j with
  | 0 => rw [← hv]; exact h1
  | 1 => rw [← hv]; exact h2
  | j + 2 => simp at hv
theorem neq_rg (a b c d : Int) (W : World) : (binOp .neq 28 (.agg #[.int .i64 a, .int .i64 b]) (.agg #[.int .i64 c, .int .i64 d])).run Tryz.prog W = .ok (.bool (!(decide (a = c) && decide (b = d)))) W := by
  have hf : Tryz.prog.fieldsOf 28 = #[⟨ "From", 3, 0, false, "", "", 0⟩, ⟨ "To", 3, 1, false, "", "", 8⟩] := by kernel_rfl
  have ht : Tryz.prog.underlying 28 = some (.struct (Tryz.prog.fieldsOf 28)) := by kernel_rfl
  have hi := Tryz.underlying3
  rw [run_neq_struct, run_equalIn_agg _ _ _ _ _ ht (by kernel_rfl), hf]
  by_cases h1 : a = c <;> by_cases h2 : b = d <;> simp [Op.eqFields, go_sem, hi, run_equalIn_int, h1, h2]
end Go.Proofs.YtapojgbiboeaiaaGreatDoor
