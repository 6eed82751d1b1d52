/- put: an entry's number is set; First: the style as it is at first. Condition of put: the style's block. -/
import Derived.Test.YtjfpfmknngkgaaaDoorSChk
import Derived.Test.YtjfpfmknngkgaaaDoorSai
namespace Go.Proofs.YtjfpfmknngkgaaaDoor
set_option linter.unusedVariables false
set_option linter.unusedSimpArgs false
open Go.RowKit Rng
attribute [local go_sem] Oper.semAt_some
/-- The style's block, whole. -/
def SAt (W : World) (B : Nat) (s : Sty) : Prop := W.heap[B]? = some (.cells s.cells.toArray 23 (0, 0))
theorem SAt.sty {W : World} {B : Nat} {s : Sty} (h : SAt W B s) : StyAt W B s := fun i v hv => by
  rw [cell_of h i]
  simpa using hv
theorem SAt.lt {W : World} {B : Nat} {s : Sty} (h : SAt W B s) : B < W.heap.size := (Array.getElem?_eq_some_iff.1 h).1
theorem SAt.block {W W' : World} {B : Nat} {s : Sty} (h : SAt W B s) (hb : W'.heap[B]? = W.heap[B]?) : SAt W' B s := hb.trans h
def Sty.put (s : Sty) (i : Nat) (v : Int) : Sty := match i with
  | 0 => { s with columns := v }
  | 1 => { s with indent := v }
  | 2 => { s with hang := v }
  | 3 => { s with blanks := v }
  | 4 => { s with keep := v == 1 }
  | 5 => { s with align := v == 1 }
  | 6 => { s with reflow := v == 1 }
  | 7 => { s with excess := v }
  | 8 => { s with opn := v }
  | 9 => { s with comma := v }
  | 10 => { s with assign := v }
  | 11 => { s with choice := v }
  | 12 => { s with logic := v }
  | 13 => { s with compare := v }
  | 14 => { s with sum := v }
  | 15 => { s with product := v }
  | 16 => { s with member := v }
  | 17 => { s with els := v }
  | _ => s
theorem put_n (nm : ByteArray) (lo hi fi v x : Int) (b o : Nat) (is : Option Addr) (w : World) (hb : b < w.heap.size) (hc : w.cell? ⟨b, o, none⟩ = some (.int .i64 x)) (hf : w.frozen? ⟨b, o, none⟩ = false) :
    Calls Tryd.prog 30 #[entV nm lo hi fi (some ⟨b, o, none⟩) is, .int .i64 v] w fun e w' => e = .returned (.tuple #[]) ∧ w' = (w.setCell ⟨b, o, none⟩ (.int .i64 v)).alloc (.cells #[.string nm, .int .i64 lo, .int .i64 hi, .int .i64 fi, .pointer (some ⟨b, o, none⟩), .pointer is] 54) := by
  go_enter Tryd.func30, Tryd.ntmps30
  go_wp2
  refine bodyPost_ret (results_none rfl _ _ _) rfl ?_
  exact ⟨rfl, rfl⟩
theorem put_is (nm : ByteArray) (lo hi fi v : Int) (x : Bool) (b o : Nat) (w : World) (hb : b < w.heap.size) (hc : w.cell? ⟨b, o, none⟩ = some (.bool x)) (hf : w.frozen? ⟨b, o, none⟩ = false) :
    Calls Tryd.prog 30 #[entV nm lo hi fi none (some ⟨b, o, none⟩), .int .i64 v] w fun e w' => e = .returned (.tuple #[]) ∧ w' = (w.setCell ⟨b, o, none⟩ (.bool (v == 1))).alloc (.cells #[.string nm, .int .i64 lo, .int .i64 hi, .int .i64 fi, .pointer none, .pointer (some ⟨b, o, none⟩)] 54) := by
  go_enter Tryd.func30, Tryd.ntmps30
  go_wp2
  go_end0
  exact ⟨rfl, rfl⟩
theorem grownBy_setCellAt (W : World) (B i : Nat) (v : Value) : W.grownBy (W.setCell ⟨B, i, none⟩ v) (some B) :=
  ⟨rfl, rfl, rfl, by simp, fun k hk hne => Below.heap_setCell _ _ _ _ (fun e => hne (by rw [show k = B from e]))⟩
theorem set_block {W : World} {B i : Nat} {s : Sty} {v : Value} (h : SAt W B s) {t : Sty} (hc : s.cells.toArray.setIfInBounds i v = t.cells.toArray) : SAt (W.setCell ⟨B, i, none⟩ v) B t := by
  have := heap_setCell_same W B i _ _ v h
  unfold SAt
  rw [this, hc]
theorem put_any (B : Nat) (s : Sty) (w : World) (v : Int) (hs : SAt w B s) : ∀ (i : Nat) (_ : i < 18) (e : Ent), (entL B)[i]? = some e →
    Calls Tryd.prog 30 #[e.val, .int .i64 v] w fun e' w' => e' = .returned (.tuple #[]) ∧ SAt w' B (s.put i v) ∧ w.grownBy w' (some B) := by
  have hfr := fun i => frozen_of_row w B i _ _ hs
  have fin : ∀ {o : Nat} {x : Value} {A : Obj} {t : Sty} {w' : World}, w' = (w.setCell ⟨B, o, none⟩ x).alloc A → s.cells.toArray.setIfInBounds o x = t.cells.toArray → SAt w' B t ∧ w.grownBy w' (some B) := fun {o x A t w'} hw hc => by
    subst hw
    have h1 := set_block (v := x) hs hc
    refine ⟨h1.block (Below.heap_alloc _ _ _ h1.lt), ?_⟩
    have g1 := grownBy_setCellAt w B o x
    have g2 := World.grownBy_alloc (w.setCell ⟨B, o, none⟩ x) A (some B)
    exact ⟨g2.os.trans g1.os, g2.tape.trans g1.tape, g2.output.trans g1.output, Nat.le_trans g1.size g2.size, fun k hk hr => (g2.block k (Nat.lt_of_lt_of_le hk g1.size) hr).trans (g1.block k hk hr)⟩
  intro i hi e he
  match i, hi with
  | 0, _ => simp [entL] at he; subst he; exact (put_n _ _ _ _ v s.columns B 0 none w hs.lt (hs.sty 0 _ rfl) (hfr 0)).mono fun e' w' ⟨h1, h2⟩ => ⟨h1, fin (t := s.put 0 v) h2 rfl⟩
  | 1, _ => simp [entL] at he; subst he; exact (put_n _ _ _ _ v s.indent B 1 none w hs.lt (hs.sty 1 _ rfl) (hfr 1)).mono fun e' w' ⟨h1, h2⟩ => ⟨h1, fin (t := s.put 1 v) h2 rfl⟩
  | 2, _ => simp [entL] at he; subst he; exact (put_n _ _ _ _ v s.hang B 2 none w hs.lt (hs.sty 2 _ rfl) (hfr 2)).mono fun e' w' ⟨h1, h2⟩ => ⟨h1, fin (t := s.put 2 v) h2 rfl⟩
  | 3, _ => simp [entL] at he; subst he; exact (put_n _ _ _ _ v s.blanks B 3 none w hs.lt (hs.sty 3 _ rfl) (hfr 3)).mono fun e' w' ⟨h1, h2⟩ => ⟨h1, fin (t := s.put 3 v) h2 rfl⟩
  | 4, _ => simp [entL] at he; subst he; exact (put_is _ _ _ _ v s.keep B 4 w hs.lt (hs.sty 4 _ rfl) (hfr 4)).mono fun e' w' ⟨h1, h2⟩ => ⟨h1, fin (t := s.put 4 v) h2 rfl⟩
  | 5, _ => simp [entL] at he; subst he; exact (put_is _ _ _ _ v s.align B 5 w hs.lt (hs.sty 5 _ rfl) (hfr 5)).mono fun e' w' ⟨h1, h2⟩ => ⟨h1, fin (t := s.put 5 v) h2 rfl⟩
  | 6, _ => simp [entL] at he; subst he; exact (put_is _ _ _ _ v s.reflow B 6 w hs.lt (hs.sty 6 _ rfl) (hfr 6)).mono fun e' w' ⟨h1, h2⟩ => ⟨h1, fin (t := s.put 6 v) h2 rfl⟩
  | 7, _ => simp [entL] at he; subst he; exact (put_n _ _ _ _ v s.excess B 7 none w hs.lt (hs.sty 7 _ rfl) (hfr 7)).mono fun e' w' ⟨h1, h2⟩ => ⟨h1, fin (t := s.put 7 v) h2 rfl⟩
  | 8, _ => simp [entL] at he; subst he; exact (put_n _ _ _ _ v s.opn B 8 none w hs.lt (hs.sty 8 _ rfl) (hfr 8)).mono fun e' w' ⟨h1, h2⟩ => ⟨h1, fin (t := s.put 8 v) h2 rfl⟩
  | 9, _ => simp [entL] at he; subst he; exact (put_n _ _ _ _ v s.comma B 9 none w hs.lt (hs.sty 9 _ rfl) (hfr 9)).mono fun e' w' ⟨h1, h2⟩ => ⟨h1, fin (t := s.put 9 v) h2 rfl⟩
  | 10, _ => simp [entL] at he; subst he; exact (put_n _ _ _ _ v s.assign B 10 none w hs.lt (hs.sty 10 _ rfl) (hfr 10)).mono fun e' w' ⟨h1, h2⟩ => ⟨h1, fin (t := s.put 10 v) h2 rfl⟩
  | 11, _ => simp [entL] at he; subst he; exact (put_n _ _ _ _ v s.choice B 11 none w hs.lt (hs.sty 11 _ rfl) (hfr 11)).mono fun e' w' ⟨h1, h2⟩ => ⟨h1, fin (t := s.put 11 v) h2 rfl⟩
  | 12, _ => simp [entL] at he; subst he; exact (put_n _ _ _ _ v s.logic B 12 none w hs.lt (hs.sty 12 _ rfl) (hfr 12)).mono fun e' w' ⟨h1, h2⟩ => ⟨h1, fin (t := s.put 12 v) h2 rfl⟩
  | 13, _ => simp [entL] at he; subst he; exact (put_n _ _ _ _ v s.compare B 13 none w hs.lt (hs.sty 13 _ rfl) (hfr 13)).mono fun e' w' ⟨h1, h2⟩ => ⟨h1, fin (t := s.put 13 v) h2 rfl⟩
  | 14, _ => simp [entL] at he; subst he; exact (put_n _ _ _ _ v s.sum B 14 none w hs.lt (hs.sty 14 _ rfl) (hfr 14)).mono fun e' w' ⟨h1, h2⟩ => ⟨h1, fin (t := s.put 14 v) h2 rfl⟩
  | 15, _ => simp [entL] at he; subst he; exact (put_n _ _ _ _ v s.product B 15 none w hs.lt (hs.sty 15 _ rfl) (hfr 15)).mono fun e' w' ⟨h1, h2⟩ => ⟨h1, fin (t := s.put 15 v) h2 rfl⟩
  | 16, _ => simp [entL] at he; subst he; exact (put_n _ _ _ _ v s.member B 16 none w hs.lt (hs.sty 16 _ rfl) (hfr 16)).mono fun e' w' ⟨h1, h2⟩ => ⟨h1, fin (t := s.put 16 v) h2 rfl⟩
  | 17, _ => simp [entL] at he; subst he; exact (put_n _ _ _ _ v s.els B 17 none w hs.lt (hs.sty 17 _ rfl) (hfr 17)).mono fun e' w' ⟨h1, h2⟩ => ⟨h1, fin (t := s.put 17 v) h2 rfl⟩
end Go.Proofs.YtjfpfmknngkgaaaDoor
