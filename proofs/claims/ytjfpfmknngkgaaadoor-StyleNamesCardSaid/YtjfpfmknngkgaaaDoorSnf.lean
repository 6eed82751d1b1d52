/- StyleNames' plain facts. No condition. -/
import Derived.Test.YtjfpfmknngkgaaaDoorAlv
namespace Go.Proofs.YtjfpfmknngkgaaaDoor
set_option linter.unusedVariables false
set_option linter.unusedSimpArgs false
open Go.RowKit Rng
theorem ref1 : parseS [98, 108, 97, 110, 107, 115, 32, 61, 32, 57] = (zeroSty, 0, 90) := by kernel_rfl
theorem ref2 : parseS [120, 32, 61, 32, 49] = (zeroSty, 0, 90) := by kernel_rfl
theorem ref3 : parseS [99, 111, 108, 117, 109, 110, 115, 32, 53] = (zeroSty, 0, 90) := by kernel_rfl
theorem ref4 : parseS [107, 101, 101, 112, 32, 61, 32, 49, 10, 107, 101, 101, 112, 32, 61, 32, 49] = (zeroSty, 9, 90) := by kernel_rfl
theorem ref5 : parseS [105, 110, 100, 101, 110, 116, 32, 61, 32, 48, 48, 48, 48, 48, 48, 48, 52] = (zeroSty, 0, 90) := by kernel_rfl
theorem ref6 : parseS [10, 32, 13, 9, 99, 111, 108, 117, 109, 110, 115, 32, 61, 32, 48, 10] = (zeroSty, 4, 90) := by kernel_rfl
theorem ref7 : parseS [101, 108, 115, 101, 32, 61, 32, 49, 48, 48, 48, 48, 48, 49] = (zeroSty, 0, 90) := by kernel_rfl
theorem ref8 : parseS [107, 101, 101, 112, 32, 61, 32, 50] = (zeroSty, 0, 90) := by kernel_rfl
theorem ref9 : parseS [105, 110, 100, 101, 110, 116, 32, 61, 32, 45, 49] = (zeroSty, 0, 90) := by kernel_rfl
theorem ref10 : parseS [61] = (zeroSty, 0, 90) := by kernel_rfl
def twoSty : Sty := { firstSty with columns := 4096, els := 1000000 }
theorem two_parse : parseS [9, 101, 108, 115, 101, 9, 61, 9, 49, 48, 48, 48, 48, 48, 48, 13, 10, 99, 111, 108, 117, 109, 110, 115, 61, 52, 48, 57, 54] = (twoSty, 0, 0) := by kernel_rfl
theorem long_parse (t : List UInt8) (h : 65536 < t.length) : parseS t = (zeroSty, 0, 3) := by unfold parseS; rw [if_pos h]
theorem first_bad : firstSty.bad = false := by decide +kernel
theorem zero_bad : zeroSty.bad = true := by decide +kernel
theorem first_text : (textTo firstSty 18).take 13 = [99, 111, 108, 117, 109, 110, 115, 32, 61, 32, 56, 48, 10] := by decide +kernel
theorem eql_first (W : World) : (binOp .eql 23 (.agg firstSty.cells.toArray) (.agg #[.int .i64 80, .int .i64 4, .int .i64 8, .int .i64 1, .bool false, .bool true, .bool true, .int .i64 1000, .int .i64 10, .int .i64 1, .int .i64 5, .int .i64 3, .int .i64 4, .int .i64 6, .int .i64 7, .int .i64 8, .int .i64 9, .int .i64 20])).run Tryd.prog W = .ok (.bool true) W := by kernel_rfl
end Go.Proofs.YtjfpfmknngkgaaaDoor
