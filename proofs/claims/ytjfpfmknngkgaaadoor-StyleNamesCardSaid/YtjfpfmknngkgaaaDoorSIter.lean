/- The iterator that entries hands back gives the entries of its list in their order. Conditions: the captured variable's block holds the list, whose cells are the entries'. -/
import Derived.Test.YtjfpfmknngkgaaaDoorProg
import Derived.Test.YtjfpfmknngkgaaaDoorRng
import Derived.WalkSpells
import Derived.WalkLawsBesides
import Derived.KernelRfl
import Derived.Outline
import Derived.OwnWalkIn
import Derived.TacticsInMore
import Derived.LoopNIn
import Derived.LoopIn
import Derived.Lib.Hide
namespace Go.Proofs.YtjfpfmknngkgaaaDoor
set_option linter.unusedVariables false
set_option linter.unusedSimpArgs false
open Go.RowKit Rng
structure Ent where
  nm : ByteArray
  lo : Int
  hi : Int
  fi : Int
  n : Option Addr
  is : Option Addr
abbrev Ent.val (e : Ent) : Value := .agg #[.string e.nm, .int .i64 e.lo, .int .i64 e.hi, .int .i64 e.fi, .pointer e.n, .pointer e.is]
/-- The block R holds the entries L from its start on. -/
def Lies (W : World) (R : Nat) (L : List Ent) : Prop := ∀ i e, L[i]? = some e →
  W.cell? ⟨R, i * 6, none⟩ = some (.string e.nm) ∧ W.cell? ⟨R, i * 6 + 1, none⟩ = some (.int .i64 e.lo) ∧ W.cell? ⟨R, i * 6 + 2, none⟩ = some (.int .i64 e.hi) ∧
  W.cell? ⟨R, i * 6 + 3, none⟩ = some (.int .i64 e.fi) ∧ W.cell? ⟨R, i * 6 + 4, none⟩ = some (.pointer e.n) ∧ W.cell? ⟨R, i * 6 + 5, none⟩ = some (.pointer e.is)
theorem Lies.of_block {W W' : World} {R : Nat} {L : List Ent} (h : Lies W R L) (hb : W'.heap[R]? = W.heap[R]?) : Lies W' R L := by
  intro i e he
  have hc : ∀ o, W'.cell? ⟨R, o, none⟩ = W.cell? ⟨R, o, none⟩ := fun o => World.cell?_of_block (w := W) hb
  simpa [hc] using h i e he
def Holds (R Cb cap : Nat) (L : List Ent) (W : World) : Prop := W.cell? ⟨Cb, 0, none⟩ = some (.slice (some ⟨R, 0, none⟩) L.length cap) ∧ Lies W R L ∧
  (∃ A fr, W.heap[Cb]? = some (.cells A 80 fr)) ∧ ∃ A fr, W.heap[R]? = some (.cells A 54 fr)
theorem Holds.of_same {R Cb cap : Nat} {L : List Ent} {W W' : World} (h : Holds R Cb cap L W) (hs : Same [Cb, R] W W') : Holds R Cb cap L W' :=
  ⟨(World.cell?_of_block (w := W) (hs Cb (by simp))).trans h.1, h.2.1.of_block (hs R (by simp)), by rw [hs Cb (by simp)]; exact h.2.2.1, by rw [hs R (by simp)]; exact h.2.2.2⟩

set_option maxRecDepth 100000 in
set_option maxHeartbeats 1000000 in
theorem entries1_iter (R Cb cap : Nat) (L : List Ent) (hL : L.length ≤ 1000) :
    Iter Tryd.prog 8 34 #[.pointer (some ⟨Cb, 0, none⟩)] (fun e : Ent => #[e.val]) [] [Cb, R] (Holds R Cb cap L) L := by
  intro l J Jx W hH hJ hJx hY h0
  refine callsIn_of_wp Tryd.func34 rfl trivial ?_ rfl
  simp only [Tryd.ntmps34, List.size_toArray, List.length_cons, List.length_nil, Nat.reduceAdd, Nat.reduceSub, Array.replicate_succ, Array.replicate_zero, List.push_toArray, List.append_toArray, List.nil_append, List.cons_append]
  have hc := hH.1
  gi_wp2
  clear hc
  gi_loopw [4, 7, 8, 9, 10, 11, 12, 13, 14, 15] (fun _ i _ _ _ _ _ _ _ _ wr => ∃ k : Nat, k ≤ L.length ∧ i = .int .i64 k ∧ Holds R Cb cap L wr ∧ J (L.take k) wr)
    (fun _ i _ _ _ _ _ _ _ _ _ => L.length - (intOf i).toNat)
  case atStart => exact ⟨0, Nat.zero_le _, rfl, hH, by simpa using h0⟩
  case round =>
    obtain ⟨k, hk, rfl, hHr, hJr⟩ := hrel
    have hCr := World.block_lt_of_cell? _ _ hHr.1
    by_cases hlt : k < L.length
    · have he := List.getElem?_eq_getElem hlt
      obtain ⟨e0, e1, e2, e3, e4, e5⟩ := hHr.2.1 k _ he
      have hRr := World.block_lt_of_cell? _ _ e0
      obtain ⟨e, hee⟩ : ∃ e, L[k] = e := ⟨_, rfl⟩
      rw [hee] at e0 e1 e2 e3 e4 e5
      have hsplit : L = L.take k ++ e :: L.drop (k + 1) := by rw [← hee]; simp
      have hJ2 : J (L.take k) (wr.alloc (.cells #[.string e.nm, .int .i64 e.lo, .int .i64 e.hi, .int .i64 e.fi, .pointer e.n, .pointer e.is] 54)) := hJ _ _ _ _ hJr (World.grownBy_alloc wr _ none) (fun r e => by cases e)
      obtain ⟨fn, tmps, assign, body, hy, hR⟩ := hY _ _ _ _ hsplit hJ2
      have htk : L.take k ++ [e] = L.take (k + 1) := by rw [← hee]; simp
      rw [htk] at hR
      have HS := Lib.hid hsplit
      clear hsplit htk hee he
      gi_wp2
      refine hR.mono ?_
      rintro e' W3 (⟨rfl, hJ3, hk3⟩ | ⟨rfl, hJx3⟩)
      · have hH3 : Holds R Cb cap L W3 := (hHr.of_same (Same.grown (World.grownBy_alloc wr _ none) (by simp; omega) (fun r e => by cases e))).of_same hk3
        gi_wp2
        go_roundw
        case rel => exact ⟨k + 1, by omega, by go_num, hH3, hJ3⟩
        case measure => simp [intOf]; omega
      · gi_wp2
        refine bodyPost_ret (results_none rfl _ _ _) rfl ?_
        exact ⟨⟨_, rfl⟩, .inr ⟨_, L.drop (k + 1), by simp, hJx3⟩⟩
    · obtain rfl : k = L.length := by omega
      gi_wp2
      go_end0
      exact ⟨⟨_, rfl⟩, .inl (by simpa using hJr)⟩
end Go.Proofs.YtjfpfmknngkgaaaDoor
