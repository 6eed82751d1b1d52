/- The text of a style: one line for each entry. Plain definitions and lemmas, no program. -/
import Derived.Test.YtjfpfmknngkgaaaDoorSChk
import Derived.Lib.ItoaNum
import Derived.Lib.ItoaLen
import Derived.Lib.UnsafeStr
namespace Go.Proofs.YtjfpfmknngkgaaaDoor
set_option linter.unusedVariables false
set_option linter.unusedSimpArgs false
open Go.RowKit
def nameOf (i : Nat) : ByteArray := ((entL 0)[i]?.map Ent.nm).getD ByteArray.empty
/-- A line. -/
def lineS (nm : ByteArray) (v : Int) : ByteArray := nm ++ ⟨#[32, 61, 32]⟩ ++ ⟨(Lib.itoa v).toArray⟩ ++ ⟨#[10]⟩
def textTo (s : Sty) (k : Nat) : List UInt8 := (List.range k).flatMap fun i => (lineS (nameOf i) (s.nums.getD i 0)).data.toList
theorem textTo_succ (s : Sty) (k : Nat) : textTo s (k + 1) = textTo s k ++ (lineS (nameOf k) (s.nums.getD k 0)).data.toList := by
  simp [textTo, List.range_succ]
theorem nameOf_eq {B i : Nat} {e : Ent} (h : (entL B)[i]? = some e) : nameOf i = e.nm ∧ e.nm.size ≤ 7 := by
  have hi : i < 18 := by have := (List.getElem?_eq_some_iff.1 h).1; simpa [entL] using this
  match i, hi with
  | 0, _ | 1, _ | 2, _ | 3, _ | 4, _ | 5, _ | 6, _ | 7, _ | 8, _ | 9, _ | 10, _ | 11, _ | 12, _ | 13, _ | 14, _ | 15, _ | 16, _ | 17, _ =>
    simp [entL] at h; subst h; exact ⟨rfl, by simp [ByteArray.size]⟩
theorem nameOf_le (i : Nat) : (nameOf i).size ≤ 7 := by
  unfold nameOf
  cases h : (entL 0)[i]? with
  | none => simp
  | some e => simpa using (nameOf_eq h).2
def InI64 (n : Int) : Prop := -9223372036854775808 ≤ n ∧ n ≤ 9223372036854775807
theorem lineS_size (nm : ByteArray) (v : Int) (hv : InI64 v) : (lineS nm v).size ≤ nm.size + 25 := by
  have h := Lib.itoa_length_le v hv.1 hv.2
  have e : (⟨(Lib.itoa v).toArray⟩ : ByteArray).size = (Lib.itoa v).length := by simp [ByteArray.size]
  have e1 : (⟨#[32, 61, 32]⟩ : ByteArray).size = 3 := rfl
  have e2 : (⟨#[10]⟩ : ByteArray).size = 1 := rfl
  simp only [lineS, ByteArray.size_append, e, e1, e2]
  omega
/-- Every number of a style is an int's. -/
def Sty.wf (s : Sty) : Prop := ∀ i, InI64 (s.nums.getD i 0)
theorem textTo_length (s : Sty) (hs : s.wf) (k : Nat) : (textTo s k).length ≤ 32 * k := by
  induction k with
  | zero => simp [textTo]
  | succ k ih =>
    rw [textTo_succ, List.length_append]
    have h := lineS_size (nameOf k) _ (hs k)
    have h2 := nameOf_le k
    have e : (lineS (nameOf k) (s.nums.getD k 0)).data.toList.length = (lineS (nameOf k) (s.nums.getD k 0)).size := rfl
    omega
end Go.Proofs.YtjfpfmknngkgaaaDoor
