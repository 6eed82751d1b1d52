import Derived.Test.YtjfpfmknngkgaaaDoorProg
import Derived.WalkKit
import Derived.Below
import Derived.WalkSpells
import Derived.WalkLawsBesides
import Derived.KernelRfl
import Derived.Outline
namespace Go.Proofs.YtjfpfmknngkgaaaDoor
set_option linter.unusedVariables false
set_option linter.unusedSimpArgs false
open Go.RowKit
/-- An entry's value. -/
abbrev entV (nm : ByteArray) (lo hi fi : Int) (n is : Option Addr) : Value := .agg #[.string nm, .int .i64 lo, .int .i64 hi, .int .i64 fi, .pointer n, .pointer is]
/-- A truth as a number. -/
def b2i (b : Bool) : Int := if b then 1 else 0
theorem get_n (nm : ByteArray) (lo hi fi v : Int) (b o : Nat) (is : Option Addr) (w : World) (hb : b < w.heap.size) (hc : w.cell? ⟨b, o, none⟩ = some (.int .i64 v)) :
    Calls Tryd.prog 21 #[entV nm lo hi fi (some ⟨b, o, none⟩) is] w fun e w' => e = .returned (.int .i64 v) ∧ Below w.heap.size w w' := by
  go_enter Tryd.func21, Tryd.ntmps21
  go_wp2
  go_ret
  exact ⟨rfl, (Below.refl _ _).alloc (Nat.le_refl _) _⟩
theorem get_is (nm : ByteArray) (lo hi fi : Int) (v : Bool) (b o : Nat) (w : World) (hb : b < w.heap.size) (hc : w.cell? ⟨b, o, none⟩ = some (.bool v)) :
    Calls Tryd.prog 21 #[entV nm lo hi fi none (some ⟨b, o, none⟩)] w fun e w' => e = .returned (.int .i64 (b2i v)) ∧ Below w.heap.size w w' := by
  cases v
  all_goals
    go_enter Tryd.func21, Tryd.ntmps21
    go_wp2
    go_ret
    exact ⟨rfl, (Below.refl _ _).alloc (Nat.le_refl _) _⟩
end Go.Proofs.YtjfpfmknngkgaaaDoor
