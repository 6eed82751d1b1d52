/- alive, refused: the chapter's examples. Condition: the library's variable is there. -/
import Derived.Test.YtjfpfmknngkgaaaDoorPar
namespace Go.Proofs.YtjfpfmknngkgaaaDoor
set_option linter.unusedVariables false
set_option linter.unusedSimpArgs false
open Go.RowKit Rng Go.Maps
attribute [local go_sem] Oper.semAt_some
attribute [-go_sem] run_eql_struct
def aliveSty : Sty := ⟨100, 4, 8, 1, true, true, true, 1000, 10, 1, 5, 3, 4, 6, 7, 8, 9, 20⟩
/-- A whole row loaded at an operation that its guard wants. -/
theorem wpList_load_row_g {P : Program} {ops : Array Oper} {rest : List Oper} {o : Oper} {a : Act} {w : World} {Q : Exit → Act → World → Prop} (hw : Region.wanted o (yielded ops a.tmps) = true) (ty : TypeId) (x : Operand) (ho : o.op = .load ty x)
    (g : Nat) (hx : a.eval x = .pointer (some ⟨g, 0, none⟩)) (t : TypeId) (cs : Array Value) (fr : Nat × Nat) (d : TypeDesc) (hg : w.heap[g]? = some (.cells cs t fr))
    (hu : P.underlying ty = some d) (hd : (match d with | .struct _ | .array _ _ => true | _ => false) = true) (hi : (P.info? ty).map (·.size) = some cs.size)
    (h : wpList P ops Q rest (a.put o.dst (.agg cs)) w) : wpList P ops Q (o :: rest) a w :=
  wpList_step fun K hK => by rw [if_pos hw]; exact wp_load_row ty x ho g hx t cs fr d hg hu hd hi (hK _ _ h)
theorem eql_alive (W : World) : (binOp .eql 23 (.agg aliveSty.cells.toArray) (.agg aliveSty.cells.toArray)).run Tryd.prog W = .ok (.bool true) W := by kernel_rfl
def aliveT : List UInt8 := [99, 111, 108, 117, 109, 110, 115, 32, 61, 32, 49, 48, 48, 10, 35, 32, 120, 10, 107, 101, 101, 112, 61, 49]
theorem alive_parse : parseS aliveT = (aliveSty, 0, 0) := by kernel_rfl
set_option maxRecDepth 100000 in
set_option maxHeartbeats 2000000 in
theorem alive_calls {B : Nat} (w : World) (hB : B ≤ w.heap.size) (hE : EnvS B w) : Calls Tryd.prog 16 #[] w fun e w' => e = .returned (.bool true) ∧ Below w.heap.size w w' := by
  have hP := parse_calls aliveT w hB hE
  rw [alive_parse] at hP
  have HP := Lib.hid (show Calls Tryd.prog 12 #[.string ⟨aliveT.toArray⟩] w fun e w' => e = .returned (.tuple #[.agg aliveSty.cells.toArray, .int .i64 0, .int .i64 0]) ∧ Below w.heap.size w w' from hP)
  clear hB hE hP
  go_enter Tryd.func16, Tryd.ntmps16
  go_upto_region 2 with (first
    | (go_at_call 12; refine HP.out.mono ?_; rintro e w1 ⟨rfl, hB1⟩)
    | (refine wpList_store_row rfl 23 (.tmp 1) (.tmp 7) rfl _ aliveSty.cells.toArray rfl rfl 23 _ (World.alloc_heap_new _ _) (by kernel_rfl) rfl (by kernel_rfl) ?_))
  have hz : (#[.int .i64 0, .int .i64 0, .int .i64 0, .int .i64 0, .bool false, .bool false, .bool false, .int .i64 0, .int .i64 0, .int .i64 0, .int .i64 0, .int .i64 0, .int .i64 0, .int .i64 0, .int .i64 0, .int .i64 0, .int .i64 0, .int .i64 0] : Array Value) = zeroSty.cells.toArray := rfl
  rw [hz]
  obtain ⟨b, hb⟩ : ∃ b, w1.heap.size = b := ⟨_, rfl⟩
  have hS1 := set_sty (World.alloc_heap_new w1 (.cells zeroSty.cells.toArray 23) : SAt _ _ zeroSty) aliveSty
  obtain ⟨w2, hw2⟩ : ∃ w2, (w1.alloc (.cells zeroSty.cells.toArray 23)).setRow w1.heap.size aliveSty.cells.toArray = w2 := ⟨_, rfl⟩
  have hB2 : Below w.heap.size w w2 := by rw [← hw2]; exact below_setRow (hB1.alloc hB1.size _) hB1.size _
  rw [hw2, hb] at hS1
  rw [hw2, hb]
  clear hw2 hB1 hb hz
  go_upto_region 3 with (first
    | (go_at_call 14; refine (first_calls _).mono ?_; rintro e w3 ⟨rfl, hB3⟩)
    | (refine wpList_store_row rfl 23 (.tmp 4) (.tmp 10) rfl _ firstSty.cells.toArray rfl rfl 23 _ (World.alloc_heap_new _ _) (by kernel_rfl) rfl (by kernel_rfl) ?_))
  rw [show ∀ a : Act, a.put none undef = a from fun _ => rfl]
  have hz : (#[.int .i64 0, .int .i64 0, .int .i64 0, .int .i64 0, .bool false, .bool false, .bool false, .int .i64 0, .int .i64 0, .int .i64 0, .int .i64 0, .int .i64 0, .int .i64 0, .int .i64 0, .int .i64 0, .int .i64 0, .int .i64 0, .int .i64 0] : Array Value) = zeroSty.cells.toArray := rfl
  rw [hz]
  obtain ⟨c, hc⟩ : ∃ c, w3.heap.size = c := ⟨_, rfl⟩
  have hbl := hS1.lt
  have hS3 := set_sty (World.alloc_heap_new w3 (.cells zeroSty.cells.toArray 23) : SAt _ _ zeroSty) firstSty
  have hbc : b < c := by rw [← hc]; exact Nat.lt_of_lt_of_le hbl hB3.size
  have hS4 : SAt ((w3.alloc (.cells zeroSty.cells.toArray 23)).setRow w3.heap.size firstSty.cells.toArray) b aliveSty :=
    hS1.block ((setRow_other _ _ _ _ (by omega)).trans ((Below.heap_alloc _ _ _ (by omega)).trans (hB3.block _ hbl)))
  have hB4 : Below w.heap.size w ((w3.alloc (.cells zeroSty.cells.toArray 23)).setRow w3.heap.size firstSty.cells.toArray) :=
    below_setRow ((hB2.trans (hB3.mono hB2.size)).alloc (Nat.le_trans hB2.size hB3.size) _) (Nat.le_trans hB2.size hB3.size) _
  have hwc : w.heap.size ≤ c := by rw [← hc]; exact Nat.le_trans hB2.size hB3.size
  obtain ⟨w4, hw4⟩ : ∃ w4, (w3.alloc (.cells zeroSty.cells.toArray 23)).setRow w3.heap.size firstSty.cells.toArray = w4 := ⟨_, rfl⟩
  rw [hw4] at hS3 hS4 hB4 ⊢
  rw [hc] at hS3 ⊢
  have d1 := hS3.sty 0 _ rfl
  have d2 := hS3.sty 4 _ rfl
  have f1 := frozen_of_row w4 c 0 _ _ hS3
  have f2 := frozen_of_row w4 c 4 _ _ hS3
  have hcl := hS3.lt
  have HS3 := Lib.hid hS3
  have HS4 := Lib.hid hS4
  have HB4 := Lib.hid hB4
  clear hS1 hB2 hB3 hz hbl hS3 hS4 hB4 hw4 hc
  go_upto_region 5 with fail
  have hS5 : SAt ((w4.setCell ⟨c, 0, none⟩ (.int .i64 100)).setCell ⟨c, 4, none⟩ (.bool true)) c aliveSty := set_block (set_block (t := { firstSty with columns := 100 }) HS3.out rfl) rfl
  have hS6 : SAt ((w4.setCell ⟨c, 0, none⟩ (.int .i64 100)).setCell ⟨c, 4, none⟩ (.bool true)) b aliveSty := HS4.out.block ((Below.heap_setCell _ _ _ _ (fun e => by have e2 : b = c := e; omega)).trans (Below.heap_setCell _ _ _ _ (fun e => by have e2 : b = c := e; omega)))
  have hB6 : Below w.heap.size w ((w4.setCell ⟨c, 0, none⟩ (.int .i64 100)).setCell ⟨c, 4, none⟩ (.bool true)) := (HB4.out.setCell (p := ⟨c, 0, none⟩) hwc _).setCell (p := ⟨c, 4, none⟩) hwc _
  generalize (w4.setCell ⟨c, 0, none⟩ (.int .i64 100)).setCell ⟨c, 4, none⟩ (.bool true) = w5 at hS5 hS6 hB6 ⊢
  have e1 : w5.cell? ⟨b, 7, none⟩ = some (.int .i64 1000) := hS6.sty 7 _ rfl
  have e2 : w5.cell? ⟨b, 1, none⟩ = some (.int .i64 4) := hS6.sty 1 _ rfl
  have HS5 := Lib.hid hS5
  have HS6 := Lib.hid hS6
  have heq := eql_alive w5
  clear d1 d2 f1 f2 hS5 hS6
  go_wp2_with (first
    | (refine wpList_load_row_g (by rfl) 23 (.tmp 1) rfl b rfl 23 aliveSty.cells.toArray (0, 0) _ HS6.out Tryd.underlying23 rfl (by kernel_rfl) ?_)
    | (refine wpList_load_row_g (by rfl) 23 (.tmp 4) rfl c rfl 23 aliveSty.cells.toArray (0, 0) _ HS5.out Tryd.underlying23 rfl (by kernel_rfl) ?_))
  go_ret
  exact ⟨rfl, hB6⟩
theorem eql_zero (W : World) : (binOp .eql 23 (.agg zeroSty.cells.toArray) (.agg #[.int .i64 0, .int .i64 0, .int .i64 0, .int .i64 0, .bool false, .bool false, .bool false, .int .i64 0, .int .i64 0, .int .i64 0, .int .i64 0, .int .i64 0, .int .i64 0, .int .i64 0, .int .i64 0, .int .i64 0, .int .i64 0, .int .i64 0])).run Tryd.prog W = .ok (.bool true) W := by kernel_rfl
set_option maxRecDepth 100000 in
set_option maxHeartbeats 2000000 in
theorem refused_calls {B : Nat} (t : List UInt8) (n : Int) (hp : parseS t = (zeroSty, n, 90)) (w : World) (hB : B ≤ w.heap.size) (hE : EnvS B w) : Calls Tryd.prog 17 #[.string ⟨t.toArray⟩, .int .i64 n] w fun e w' => e = .returned (.bool true) ∧ Below w.heap.size w w' := by
  have hP := parse_calls t w hB hE
  rw [hp] at hP
  have HP := Lib.hid (show Calls Tryd.prog 12 #[.string ⟨t.toArray⟩] w fun e w' => e = .returned (.tuple #[.agg zeroSty.cells.toArray, .int .i64 n, .int .i64 90]) ∧ Below w.heap.size w w' from hP)
  clear hB hE hP hp
  obtain ⟨sx, hsx⟩ : ∃ sx : ByteArray, (⟨t.toArray⟩ : ByteArray) = sx := ⟨_, rfl⟩
  rw [hsx] at HP ⊢
  clear hsx
  go_enter Tryd.func17, Tryd.ntmps17
  go_upto_region 2 with (first
    | (go_at_call 12; refine HP.out.mono ?_; rintro e w1 ⟨rfl, hB1⟩)
    | (refine wpList_store_row rfl 23 (.tmp 5) (.tmp 11) rfl _ zeroSty.cells.toArray rfl rfl 23 _ (World.alloc_heap_new _ _) (by kernel_rfl) rfl (by kernel_rfl) ?_))
  have hz : (#[.int .i64 0, .int .i64 0, .int .i64 0, .int .i64 0, .bool false, .bool false, .bool false, .int .i64 0, .int .i64 0, .int .i64 0, .int .i64 0, .int .i64 0, .int .i64 0, .int .i64 0, .int .i64 0, .int .i64 0, .int .i64 0, .int .i64 0] : Array Value) = zeroSty.cells.toArray := rfl
  rw [hz]
  obtain ⟨b, hb⟩ : ∃ b, w1.heap.size = b := ⟨_, rfl⟩
  have hS1 := set_sty (World.alloc_heap_new w1 (.cells zeroSty.cells.toArray 23) : SAt _ _ zeroSty) zeroSty
  obtain ⟨w2, hw2⟩ : ∃ w2, (w1.alloc (.cells zeroSty.cells.toArray 23)).setRow w1.heap.size zeroSty.cells.toArray = w2 := ⟨_, rfl⟩
  have hB2 : Below w.heap.size w w2 := by rw [← hw2]; exact below_setRow (hB1.alloc hB1.size _) hB1.size _
  rw [hw2, hb] at hS1
  rw [hw2, hb]
  clear hw2 hB1 hb hz
  have heq := eql_zero w2
  have HS := Lib.hid hS1
  clear hS1
  go_wp2_with (refine wpList_load_row_g (by rfl) 23 (.tmp 5) rfl b rfl 23 zeroSty.cells.toArray (0, 0) _ HS.out Tryd.underlying23 rfl (by kernel_rfl) ?_)
  go_ret
  exact ⟨rfl, hB2⟩
end Go.Proofs.YtjfpfmknngkgaaaDoor
