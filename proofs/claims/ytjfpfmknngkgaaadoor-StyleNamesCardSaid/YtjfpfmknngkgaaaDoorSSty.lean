/- A style as a value, its cells and numbers; what get answers of each entry. Conditions: the style lies in block B. -/
import Derived.Test.YtjfpfmknngkgaaaDoorSIter
import Derived.Test.YtjfpfmknngkgaaaDoorSEnt
import Derived.Test.YtjfpfmknngkgaaaDoorSGet
namespace Go.Proofs.YtjfpfmknngkgaaaDoor
set_option linter.unusedVariables false
set_option linter.unusedSimpArgs false
open Go.RowKit Rng
structure Sty where
  columns : Int
  indent : Int
  hang : Int
  blanks : Int
  keep : Bool
  align : Bool
  reflow : Bool
  excess : Int
  opn : Int
  comma : Int
  assign : Int
  choice : Int
  logic : Int
  compare : Int
  sum : Int
  product : Int
  member : Int
  els : Int
def Sty.cells (s : Sty) : List Value := [.int .i64 s.columns, .int .i64 s.indent, .int .i64 s.hang, .int .i64 s.blanks, .bool s.keep, .bool s.align, .bool s.reflow, .int .i64 s.excess, .int .i64 s.opn, .int .i64 s.comma, .int .i64 s.assign, .int .i64 s.choice, .int .i64 s.logic, .int .i64 s.compare, .int .i64 s.sum, .int .i64 s.product, .int .i64 s.member, .int .i64 s.els]
abbrev Sty.val (s : Sty) : Value := .agg #[.int .i64 s.columns, .int .i64 s.indent, .int .i64 s.hang, .int .i64 s.blanks, .bool s.keep, .bool s.align, .bool s.reflow, .int .i64 s.excess, .int .i64 s.opn, .int .i64 s.comma, .int .i64 s.assign, .int .i64 s.choice, .int .i64 s.logic, .int .i64 s.compare, .int .i64 s.sum, .int .i64 s.product, .int .i64 s.member, .int .i64 s.els]
def Sty.nums (s : Sty) : List Int := [s.columns, s.indent, s.hang, s.blanks, b2i s.keep, b2i s.align, b2i s.reflow, s.excess, s.opn, s.comma, s.assign, s.choice, s.logic, s.compare, s.sum, s.product, s.member, s.els]

/-- The style s lies in block B. -/
def StyAt (W : World) (B : Nat) (s : Sty) : Prop := ∀ i v, s.cells[i]? = some v → W.cell? ⟨B, i, none⟩ = some v
theorem StyAt.of_block {W W' : World} {B : Nat} {s : Sty} (h : StyAt W B s) (hb : W'.heap[B]? = W.heap[B]?) : StyAt W' B s :=
  fun i v hv => (World.cell?_of_block (w := W) hb).trans (h i v hv)
theorem StyAt.lt {W : World} {B : Nat} {s : Sty} (h : StyAt W B s) : B < W.heap.size := World.block_lt_of_cell? _ _ (h 0 _ rfl)
theorem StyAt.kept {W W' : World} {B : Nat} {s : Sty} {row : Option Nat} (h : StyAt W B s) (hg : W.grownBy W' row) (hne : some B ≠ row) : StyAt W' B s := h.of_block (hg.block B h.lt hne)
theorem styAt_new (w : World) (s : Sty) (t : TypeId) : StyAt (w.alloc (.cells s.cells.toArray t)) w.heap.size s := fun i v hv => by
  rw [World.cell?_alloc_at (w := w) s.cells.toArray t _ _ rfl]
  simpa using hv
theorem get_any (B : Nat) (s : Sty) (w : World) (hs : StyAt w B s) (hB : B < w.heap.size) : ∀ (i : Nat) (_ : i < 18) (e : Ent), (entL B)[i]? = some e →
    Calls Tryd.prog 21 #[e.val] w fun e' w' => e' = .returned (.int .i64 (s.nums.getD i 0)) ∧ Below w.heap.size w w' := fun i hi e he => match i, hi with
  | 0, _ => by simp [entL] at he; subst he; exact get_n _ _ _ _ s.columns B 0 none w hB (hs 0 _ rfl)
  | 1, _ => by simp [entL] at he; subst he; exact get_n _ _ _ _ s.indent B 1 none w hB (hs 1 _ rfl)
  | 2, _ => by simp [entL] at he; subst he; exact get_n _ _ _ _ s.hang B 2 none w hB (hs 2 _ rfl)
  | 3, _ => by simp [entL] at he; subst he; exact get_n _ _ _ _ s.blanks B 3 none w hB (hs 3 _ rfl)
  | 4, _ => by simp [entL] at he; subst he; exact get_is _ _ _ _ s.keep B 4 w hB (hs 4 _ rfl)
  | 5, _ => by simp [entL] at he; subst he; exact get_is _ _ _ _ s.align B 5 w hB (hs 5 _ rfl)
  | 6, _ => by simp [entL] at he; subst he; exact get_is _ _ _ _ s.reflow B 6 w hB (hs 6 _ rfl)
  | 7, _ => by simp [entL] at he; subst he; exact get_n _ _ _ _ s.excess B 7 none w hB (hs 7 _ rfl)
  | 8, _ => by simp [entL] at he; subst he; exact get_n _ _ _ _ s.opn B 8 none w hB (hs 8 _ rfl)
  | 9, _ => by simp [entL] at he; subst he; exact get_n _ _ _ _ s.comma B 9 none w hB (hs 9 _ rfl)
  | 10, _ => by simp [entL] at he; subst he; exact get_n _ _ _ _ s.assign B 10 none w hB (hs 10 _ rfl)
  | 11, _ => by simp [entL] at he; subst he; exact get_n _ _ _ _ s.choice B 11 none w hB (hs 11 _ rfl)
  | 12, _ => by simp [entL] at he; subst he; exact get_n _ _ _ _ s.logic B 12 none w hB (hs 12 _ rfl)
  | 13, _ => by simp [entL] at he; subst he; exact get_n _ _ _ _ s.compare B 13 none w hB (hs 13 _ rfl)
  | 14, _ => by simp [entL] at he; subst he; exact get_n _ _ _ _ s.sum B 14 none w hB (hs 14 _ rfl)
  | 15, _ => by simp [entL] at he; subst he; exact get_n _ _ _ _ s.product B 15 none w hB (hs 15 _ rfl)
  | 16, _ => by simp [entL] at he; subst he; exact get_n _ _ _ _ s.member B 16 none w hB (hs 16 _ rfl)
  | 17, _ => by simp [entL] at he; subst he; exact get_n _ _ _ _ s.els B 17 none w hB (hs 17 _ rfl)
end Go.Proofs.YtjfpfmknngkgaaaDoor
