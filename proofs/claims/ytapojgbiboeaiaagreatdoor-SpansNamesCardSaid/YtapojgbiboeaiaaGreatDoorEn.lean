/- What the rows' lists of variables and the world's shape give of the library's variables. -/
import Derived.Test.YtapojgbiboeaiaaGreatDoorNu
import Derived.Test.YtapojgbiboeaiaaGreatDoorRows
import Derived.LaidSub
import Derived.MakeChecks
import Derived.Stop.LaidErr
import Derived.Lib.LaidTab
namespace Go.Proofs.YtapojgbiboeaiaaGreatDoor
set_option linter.unusedVariables false
open Go.RowKit
theorem gTab : Tryz.prog.globalNamed "internal/strconv.uint64pow10" = some 3 := by kernel_rfl
theorem gTabType : (Tryz.prog.globals[3]?).map (·.type) = some 124 := by kernel_rfl
theorem cellsTab : Tryz.prog.cellsOf 124 = 20 := by kernel_rfl
theorem cellsU64 : Tryz.prog.cellsOf 101 = 1 := by kernel_rfl
theorem cellsStr : Tryz.prog.cellsOf 9 = 1 := by kernel_rfl
theorem cellsErr : Tryz.prog.cellsOf 134 = 1 := by kernel_rfl
theorem pow_laid : (Rows.laid_internal_strconv_uint64pow10 : DataW Unit) = Lib.tabData .u64 Lib.pow10Tab := by rfl
theorem gSyn : Tryz.prog.globalNamed "strconv.ErrSyntax" = some 1 := by kernel_rfl
theorem gSynType : (Tryz.prog.globals[1]?).map (·.type) = some 56 := by kernel_rfl
theorem gRng : Tryz.prog.globalNamed "strconv.ErrRange" = some 2 := by kernel_rfl
theorem gRngType : (Tryz.prog.globals[2]?).map (·.type) = some 56 := by kernel_rfl
theorem starErr : "*" ++ "errors.errorString" = "*errors.errorString" := by decide
theorem rowErr (u : TypeId) (h : Tryz.prog.typeName? 3 u = some "*errors.errorString") : u = 132 :=
  typeName_ptr_named (nm := "errors.errorString") (by rw [starErr]; kernel_rfl) (by kernel_rfl) (by decide) u (by rw [starErr]; exact h)
theorem env_of {W : World} (h : laidMetH Tryz.prog Rows.spansNamesRow.laid W) (hsh : W.ShapedOpen Tryz.prog) : Env W.heap.size W := by
  have h1 : laidMetH Tryz.prog [("internal/strconv.uint64pow10", Rows.laid_internal_strconv_uint64pow10)] W := h.filter fun x => x.1 == "internal/strconv.uint64pow10"
  have h2 : laidMetH Tryz.prog [("strconv.ErrSyntax", Rows.laid_strconv_ErrSyntax)] W := h.filter fun x => x.1 == "strconv.ErrSyntax"
  have h3 : laidMetH Tryz.prog [("strconv.ErrRange", Rows.laid_strconv_ErrRange)] W := h.filter fun x => x.1 == "strconv.ErrRange"
  rw [pow_laid] at h1
  rw [Go.MakeChecks.laidMetH_plain _ _ _ (by kernel_rfl)] at h2 h3
  obtain ⟨a1, s1, v1, _⟩ := laid_sentinel (r := []) h2 gSyn gSynType Tryz.underlying56 rowErr Tryz.underlying132 Tryz.underlying134 rfl rfl Tryz.underlying9 cellsErr cellsStr
  obtain ⟨a2, s2, v2, _⟩ := laid_sentinel (r := []) h3 gRng gRngType Tryz.underlying56 rowErr Tryz.underlying132 Tryz.underlying134 rfl rfl Tryz.underlying9 cellsErr cellsStr
  have c1 := World.var?_cell gSyn v1 0
  have c2 := World.var?_cell gRng v2 0
  obtain ⟨m, c0⟩ := Tryz.laysM146.s1_3 W hsh
  exact ⟨⟨World.block_lt_of_cell? _ _ c0, World.block_lt_of_cell? _ _ (c1.trans rfl), World.block_lt_of_cell? _ _ (c2.trans rfl)⟩, ⟨m, c0⟩, ⟨_, c1.trans rfl, .inr ⟨_, _, rfl⟩⟩, ⟨_, c2.trans rfl, .inr ⟨_, _, rfl⟩⟩,
    Lib.tabBelow_of_tabIs (Lib.tabIs_of_head (rest := []) gTab gTabType Tryz.underlying124 Tryz.underlying101 cellsU64 cellsTab h1)⟩
end Go.Proofs.YtapojgbiboeaiaaGreatDoor
