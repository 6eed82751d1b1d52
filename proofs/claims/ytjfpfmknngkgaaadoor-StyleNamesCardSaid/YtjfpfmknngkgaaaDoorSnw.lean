/- StyleNames: the walk. Conditions: the library's variable and table are there. -/
import Derived.Test.YtjfpfmknngkgaaaDoorSnf
import Derived.Test.YtjfpfmknngkgaaaDoorLPrt
namespace Go.Proofs.YtjfpfmknngkgaaaDoor
set_option linter.unusedVariables false
set_option linter.unusedSimpArgs false
open Go.RowKit Rng Go.Maps
attribute [local go_sem] Oper.semAt_some
attribute [-go_sem] run_eql_struct
theorem info_u8 : ∃ i, Tryd.prog.info? 5 = some i ∧ i.zero = some (.int .u8 0) ∧ i.size = 1 ∧ i.bytes = 1 := by
  have e1 : (Tryd.prog.info? 5).bind (·.zero) = some (.int .u8 0) := by kernel_rfl
  have e2 : (Tryd.prog.info? 5).map (·.size) = some 1 := by kernel_rfl
  have e3 : (Tryd.prog.info? 5).map (·.bytes) = some 1 := by kernel_rfl
  cases h : Tryd.prog.info? 5 with
  | none => rw [h] at e2; cases e2
  | some i =>
    rw [h] at e1 e2 e3
    simp only [Option.bind_some, Option.map_some, Option.some.injEq] at e1 e2 e3
    exact ⟨i, rfl, e1, e2, e3⟩
theorem make_blanks (w : World) : (Instr.makeSlice 42 (.int .i64 65537) (.int .i64 65537)).run Tryd.prog w = .ok (.slice (some ⟨w.heap.size, 0, none⟩) 65537 65537) (w.alloc (.cells (Array.replicate 65537 (.int .u8 0)) 5)) := by
  obtain ⟨i, hi, hz, hs, hb⟩ := info_u8
  have h := run_make (P := Tryd.prog) w 42 5 i (.int .u8 0) Tryd.underlying42 hi hz .i64 .i64 65537 65537 (by omega) (Int.le_refl _) (by rw [hb]; omega) (by omega)
  rw [h, hs]
  have e : ((65537 : Int).toNat * 1) = 65537 := rfl
  rw [e, show madeCells (Value.int .u8 0).cells 65537 = Array.replicate 65537 (.int .u8 0) by
    apply Array.ext
    · simp [madeCells, Value.cells]
    · intro j h1 h2
      simp [madeCells, Value.cells]
      rw [Nat.mod_one]
      rfl]
  rfl
theorem first_wf : firstSty.wf := fun i => by
  match i with
  | 0 | 1 | 2 | 3 | 4 | 5 | 6 | 7 | 8 | 9 | 10 | 11 | 12 | 13 | 14 | 15 | 16 | 17 => exact (by unfold InI64; decide)
  | k + 18 => exact (by unfold InI64; decide : InI64 0)
set_option maxRecDepth 100000 in
set_option maxHeartbeats 4000000 in
theorem names_true {B : Nat} (w : World) (hB : B ≤ w.heap.size) (hE : EnvS B w) (ht : Pow w.heap.size w) : Calls Tryd.prog 6 #[] w fun e w' => e = .returned (.bool true) ∧ Below w.heap.size w w' := by
  have HE := Lib.hid (fun w' (h : Below w.heap.size w w') => And.intro (Nat.le_trans hB h.size) (hE.later (h.mono hB)))
  have HT := Lib.hid ht
  clear hB hE ht
  go_enter Tryd.func6, Tryd.ntmps6
  go_upto_region 2 with (first
    | (go_at_call 14; refine (first_calls _).mono ?_; rintro e w1 ⟨rfl, hB1⟩)
    | (refine wpList_store_row rfl 23 (.tmp 1) (.tmp 16) rfl _ firstSty.cells.toArray rfl rfl 23 _ (World.alloc_heap_new _ _) (by kernel_rfl) rfl (by kernel_rfl) ?_))
  rw [show ∀ a : Act, a.put none undef = a from fun _ => rfl]
  have hz : (#[.int .i64 0, .int .i64 0, .int .i64 0, .int .i64 0, .bool false, .bool false, .bool false, .int .i64 0, .int .i64 0, .int .i64 0, .int .i64 0, .int .i64 0, .int .i64 0, .int .i64 0, .int .i64 0, .int .i64 0, .int .i64 0, .int .i64 0] : Array Value) = zeroSty.cells.toArray := rfl
  rw [hz]
  obtain ⟨b, hb⟩ : ∃ b, w1.heap.size = b := ⟨_, rfl⟩
  have hwb : w.heap.size ≤ b := by rw [← hb]; exact hB1.size
  have hS1 := set_sty (World.alloc_heap_new w1 (.cells zeroSty.cells.toArray 23) : SAt _ _ zeroSty) firstSty
  obtain ⟨w2, hw2⟩ : ∃ w2, (w1.alloc (.cells zeroSty.cells.toArray 23)).setRow w1.heap.size firstSty.cells.toArray = w2 := ⟨_, rfl⟩
  have hB2 : Below w.heap.size w w2 := by rw [← hw2]; exact below_setRow (hB1.alloc hB1.size _) hB1.size _
  rw [hw2, hb] at hS1
  rw [hw2, hb]
  clear hw2 hB1 hb hz
  have HAL := Lib.hid (alive_calls (B := B) w2 (HE.out _ hB2).1 (HE.out _ hB2).2)
  have HS1 := Lib.hid hS1
  have HB2 := Lib.hid hB2
  clear hS1 hB2
  go_upto_region 3 with (first
    | (go_at_call 16; refine HAL.out.mono ?_; rintro e w3 ⟨rfl, hB3⟩; have heq := eql_first w3; have HS3 := Lib.hid (HS1.out.block (hB3.block _ HS1.out.lt)))
    | (refine wpList_load_row_g (by rfl) 23 (.tmp 1) rfl b rfl 23 firstSty.cells.toArray (0, 0) _ HS3.out Tryd.underlying23 rfl (by kernel_rfl) ?_))
  have HBc := Lib.hid (HB2.out.trans (hB3.mono HB2.out.size))
  have HSc := Lib.hid HS3.out
  clear hB3 heq HS3 HB2 HS1 HAL
  have R1 := Lib.hid ref1
  have R2 := Lib.hid ref2
  have R3 := Lib.hid ref3
  have R4 := Lib.hid ref4
  have R5 := Lib.hid ref5
  have R6 := Lib.hid ref6
  have R7 := Lib.hid ref7
  have R8 := Lib.hid ref8
  have R9 := Lib.hid ref9
  have R10 := Lib.hid ref10
  go_upto_region 4 with (first
    | (go_at_call 17; refine (refused_calls (B := B) _ _ R1.out _ (HE.out _ HBc.out).1 (HE.out _ HBc.out).2).mono ?_; rintro e wn ⟨rfl, hBn⟩; replace HSc := Lib.hid (HSc.out.block (hBn.block _ HSc.out.lt)); replace HBc := Lib.hid (HBc.out.trans (hBn.mono HBc.out.size)); clear hBn R1)
    | (go_at_call 17; refine (refused_calls (B := B) _ _ R2.out _ (HE.out _ HBc.out).1 (HE.out _ HBc.out).2).mono ?_; rintro e wn ⟨rfl, hBn⟩; replace HSc := Lib.hid (HSc.out.block (hBn.block _ HSc.out.lt)); replace HBc := Lib.hid (HBc.out.trans (hBn.mono HBc.out.size)); clear hBn R2)
    | (go_at_call 17; refine (refused_calls (B := B) _ _ R3.out _ (HE.out _ HBc.out).1 (HE.out _ HBc.out).2).mono ?_; rintro e wn ⟨rfl, hBn⟩; replace HSc := Lib.hid (HSc.out.block (hBn.block _ HSc.out.lt)); replace HBc := Lib.hid (HBc.out.trans (hBn.mono HBc.out.size)); clear hBn R3)
    | (go_at_call 17; refine (refused_calls (B := B) _ _ R4.out _ (HE.out _ HBc.out).1 (HE.out _ HBc.out).2).mono ?_; rintro e wn ⟨rfl, hBn⟩; replace HSc := Lib.hid (HSc.out.block (hBn.block _ HSc.out.lt)); replace HBc := Lib.hid (HBc.out.trans (hBn.mono HBc.out.size)); clear hBn R4)
    | (go_at_call 17; refine (refused_calls (B := B) _ _ R5.out _ (HE.out _ HBc.out).1 (HE.out _ HBc.out).2).mono ?_; rintro e wn ⟨rfl, hBn⟩; replace HSc := Lib.hid (HSc.out.block (hBn.block _ HSc.out.lt)); replace HBc := Lib.hid (HBc.out.trans (hBn.mono HBc.out.size)); clear hBn R5)
    | (go_at_call 17; refine (refused_calls (B := B) _ _ R6.out _ (HE.out _ HBc.out).1 (HE.out _ HBc.out).2).mono ?_; rintro e wn ⟨rfl, hBn⟩; replace HSc := Lib.hid (HSc.out.block (hBn.block _ HSc.out.lt)); replace HBc := Lib.hid (HBc.out.trans (hBn.mono HBc.out.size)); clear hBn R6)
    | (go_at_call 17; refine (refused_calls (B := B) _ _ R7.out _ (HE.out _ HBc.out).1 (HE.out _ HBc.out).2).mono ?_; rintro e wn ⟨rfl, hBn⟩; replace HSc := Lib.hid (HSc.out.block (hBn.block _ HSc.out.lt)); replace HBc := Lib.hid (HBc.out.trans (hBn.mono HBc.out.size)); clear hBn R7)
    | (go_at_call 17; refine (refused_calls (B := B) _ _ R8.out _ (HE.out _ HBc.out).1 (HE.out _ HBc.out).2).mono ?_; rintro e wn ⟨rfl, hBn⟩; replace HSc := Lib.hid (HSc.out.block (hBn.block _ HSc.out.lt)); replace HBc := Lib.hid (HBc.out.trans (hBn.mono HBc.out.size)); clear hBn R8)
    | (go_at_call 17; refine (refused_calls (B := B) _ _ R9.out _ (HE.out _ HBc.out).1 (HE.out _ HBc.out).2).mono ?_; rintro e wn ⟨rfl, hBn⟩; replace HSc := Lib.hid (HSc.out.block (hBn.block _ HSc.out.lt)); replace HBc := Lib.hid (HBc.out.trans (hBn.mono HBc.out.size)); clear hBn R9)
    | (go_at_call 17; refine (refused_calls (B := B) _ _ R10.out _ (HE.out _ HBc.out).1 (HE.out _ HBc.out).2).mono ?_; rintro e wn ⟨rfl, hBn⟩; replace HSc := Lib.hid (HSc.out.block (hBn.block _ HSc.out.lt)); replace HBc := Lib.hid (HBc.out.trans (hBn.mono HBc.out.size)); clear hBn R10))
  have hP := parse_calls (B := B) [9, 101, 108, 115, 101, 9, 61, 9, 49, 48, 48, 48, 48, 48, 48, 13, 10, 99, 111, 108, 117, 109, 110, 115, 61, 52, 48, 57, 54] wn (HE.out _ HBc.out).1 (HE.out _ HBc.out).2
  rw [two_parse] at hP
  have HP := Lib.hid (show Calls Tryd.prog 12 #[.string ⟨#[9, 101, 108, 115, 101, 9, 61, 9, 49, 48, 48, 48, 48, 48, 48, 13, 10, 99, 111, 108, 117, 109, 110, 115, 61, 52, 48, 57, 54]⟩] wn fun e w' => e = .returned (.tuple #[.agg twoSty.cells.toArray, .int .i64 0, .int .i64 0]) ∧ Below wn.heap.size wn w' from hP)
  clear hP
  go_upto_region 5 with (first
    | (go_at_call 12; refine HP.out.mono ?_; rintro e w5 ⟨rfl, hB5⟩)
    | (refine wpList_store_row rfl 23 (.tmp 4) (.tmp 53) rfl _ twoSty.cells.toArray rfl rfl 23 _ (World.alloc_heap_new _ _) (by kernel_rfl) rfl (by kernel_rfl) ?_))
  have hz : (#[.int .i64 0, .int .i64 0, .int .i64 0, .int .i64 0, .bool false, .bool false, .bool false, .int .i64 0, .int .i64 0, .int .i64 0, .int .i64 0, .int .i64 0, .int .i64 0, .int .i64 0, .int .i64 0, .int .i64 0, .int .i64 0, .int .i64 0] : Array Value) = zeroSty.cells.toArray := rfl
  rw [hz]
  obtain ⟨c, hc⟩ : ∃ c, w5.heap.size = c := ⟨_, rfl⟩
  have hbl := HSc.out.lt
  have hB6 := HBc.out.trans (hB5.mono HBc.out.size)
  have hbc : b < c := by rw [← hc]; exact Nat.lt_of_lt_of_le hbl hB5.size
  have hT := set_sty (World.alloc_heap_new w5 (.cells zeroSty.cells.toArray 23) : SAt _ _ zeroSty) twoSty
  have hS6 : SAt ((w5.alloc (.cells zeroSty.cells.toArray 23)).setRow w5.heap.size twoSty.cells.toArray) b firstSty :=
    HSc.out.block ((setRow_other _ _ _ _ (by omega)).trans ((Below.heap_alloc _ _ _ (by omega)).trans (hB5.block _ hbl)))
  have hB7 : Below w.heap.size w ((w5.alloc (.cells zeroSty.cells.toArray 23)).setRow w5.heap.size twoSty.cells.toArray) := below_setRow (hB6.alloc hB6.size _) hB6.size _
  obtain ⟨w6, hw6⟩ : ∃ w6, (w5.alloc (.cells zeroSty.cells.toArray 23)).setRow w5.heap.size twoSty.cells.toArray = w6 := ⟨_, rfl⟩
  rw [hw6] at hT hS6 hB7 ⊢
  rw [hc] at hT ⊢
  have HTw := Lib.hid hT
  have HS6 := Lib.hid hS6
  have HB7 := Lib.hid hB7
  clear hz hbl hB6 hB5 hT hS6 hB7 hw6 hc HP HSc HBc
  have HPR := Lib.hid (print_ok firstSty first_wf first_bad w6 (fun x hx => HT.out x (HB7.out.trans (hx.mono HB7.out.size))))
  go_upto_region 6 with (first
    | (refine wpList_load_row rfl 23 (.tmp 1) rfl b rfl 23 firstSty.cells.toArray (0, 0) _ HS6.out Tryd.underlying23 rfl (by kernel_rfl) ?_)
    | (go_at_call 8; refine HPR.out.mono ?_; rintro e w7 ⟨rfl, hB8⟩))
  have HS7 := Lib.hid (HS6.out.block (hB8.block _ HS6.out.lt))
  have HT7 := Lib.hid (HTw.out.block (hB8.block _ HTw.out.lt))
  have HB8 := Lib.hid (HB7.out.trans (hB8.mono HB7.out.size))
  clear hB8 HS6 HTw HB7 HPR
  have HPZ := Lib.hid (print_bad zeroSty zero_bad w7)
  go_upto_region 7 with (go_at_call 8; refine HPZ.out.mono ?_; rintro e w8 ⟨rfl, hB9⟩)
  have HS8 := Lib.hid (HS7.out.block (hB9.block _ HS7.out.lt))
  have HT8 := Lib.hid (HT7.out.block (hB9.block _ HT7.out.lt))
  have HB9 := Lib.hid (HB8.out.trans (hB9.mono HB8.out.size))
  clear hB9 HS7 HT7 HB8 HPZ
  obtain ⟨N, hN⟩ : ∃ N : Nat, 65537 = N := ⟨_, rfl⟩
  have hmk := make_blanks w8
  go_upto_region 8 with fail
  obtain ⟨d, hd⟩ : ∃ d, w8.heap.size = d := ⟨_, rfl⟩
  have hcd : c < d := by rw [← hd]; exact HT8.out.lt
  obtain ⟨w9, hw9⟩ : ∃ w9, w8.alloc (.cells (Array.replicate N (.int .u8 0)) 5) = w9 := ⟨_, rfl⟩
  have hL9 : w9.heap[d]? = some (.cells (Lib.byteCells (List.replicate N 0)).toArray 5 (0, 0)) := by
    rw [← hw9, ← hd, show (Lib.byteCells (List.replicate N 0)).toArray = Array.replicate N (.int .u8 0) by simp [Lib.byteCells]]
    exact World.alloc_heap_new w8 _
  have hB10 : Below w.heap.size w w9 := by rw [← hw9]; exact HB9.out.alloc HB9.out.size _
  have hS9 := HS8.out.block (show w9.heap[b]? = w8.heap[b]? by rw [← hw9]; exact Below.heap_alloc _ _ _ (by omega))
  have hT9 := HT8.out.block (show w9.heap[c]? = w8.heap[c]? by rw [← hw9]; exact Below.heap_alloc _ _ _ (by omega))
  have hwd : w.heap.size ≤ d := by rw [← hd]; exact HB9.out.size
  rw [hd, hw9]
  have HN := Lib.hid hN
  clear hmk hw9 hd HS8 HT8 HB9 hN
  go_wp2_with (go_in)
  go_loopw [12] (fun i wr => ∃ (k : Nat) (l : List UInt8), i = .int .i64 k ∧ k ≤ N ∧ l.length = N ∧ wr.heap[d]? = some (.cells (Lib.byteCells l).toArray 5 (0, 0)) ∧ SAt wr b firstSty ∧ SAt wr c twoSty ∧ Below w.heap.size w wr)
    (fun i _ => N - (intOf i).toNat)
  case atStart => exact ⟨0, List.replicate N 0, rfl, Nat.zero_le _, by simp, hL9, hS9, hT9, hB10⟩
  case round =>
    obtain ⟨k, l, rfl, hk, hl, hL, hS, hT, hB⟩ := hrel
    have hNN := HN.out
    by_cases hlt : k < N
    · have hlt' : (k : Int) < N := by omega
      have hc1 := cell_of hL k
      have hf1 := frozen_of_row _ d k _ _ hL
      rw [show (Lib.byteCells l).toArray[k]? = some (.int .u8 ((l[k]'(by omega)).toNat : Nat)) by simp [Lib.byteCells, hl, hlt]] at hc1
      have hw1 : wrap64 ((k : Int) + 1) = ((k + 1 : Nat) : Int) := by rw [wrap_in2 _ (by omega)]; omega
      have HW := Lib.hid hw1
      obtain ⟨z, hcz⟩ : ∃ z : Int, wr.cell? ⟨d, k, none⟩ = some (.int .u8 z) := ⟨_, hc1⟩
      clear hc1
      have HL := Lib.hid (And.intro hl (And.intro hL (And.intro hS (And.intro hT hB))))
      have HK := Lib.hid hlt
      clear hl hL hS hT hB hNN hL9 hS9 hT9 hB10 hw1
      go_wp2_with (go_in)
      obtain ⟨hl, hL, hS, hT, hB⟩ := HL.out
      go_roundw
      case rel =>
        refine ⟨k + 1, l.set k 32, by rw [HW.out], HK.out, by simp [hl], ?_, hS.block (Below.heap_setCell _ _ _ _ (fun e => by have e2 : b = d := e; omega)), hT.block (Below.heap_setCell _ _ _ _ (fun e => by have e2 : c = d := e; omega)), hB.setCell (p := ⟨d, k, none⟩) hwd _⟩
        refine (heap_setCell_same _ _ _ _ _ _ hL).trans ?_
        simp [Lib.byteCells, List.map_set]
      case measure => rw [HW.out]; have := HK.out; simp only [intOf]; omega
    · have hke : k = N := by omega
      subst hke
      have hlt' : ¬ (k : Int) < k := by omega
      have hcv := run_convert_bytes_back (P := Tryd.prog) wr 42 9 5 ⟨d, 0, none⟩ k l Tryd.underlying42 Tryd.underlying5 Tryd.underlying9 (fun j hj => by
        rw [show (⟨d, 0, none⟩ : Addr).add j = ⟨d, j, none⟩ by simp [Addr.add]; exact fun h => h.symm, cell_of hL j]
        simp [Lib.byteCells, hj])
      rw [hl] at hcv
      have hP := parse_calls (B := B) l wr (HE.out _ hB).1 (HE.out _ hB).2
      rw [long_parse l (by omega)] at hP
      obtain ⟨sl, hsl⟩ : ∃ sl : ByteArray, (⟨l.toArray⟩ : ByteArray) = sl := ⟨_, rfl⟩
      rw [hsl] at hcv hP
      have HP := Lib.hid (show Calls Tryd.prog 12 #[.string sl] wr fun e w' => e = .returned (.tuple #[.agg zeroSty.cells.toArray, .int .i64 0, .int .i64 3]) ∧ Below wr.heap.size wr w' from hP)
      have HL := Lib.hid (And.intro hS (And.intro hT hB))
      clear hP hsl hL hS hT hB hL9 hS9 hT9 hB10 hNN hl hlt hk
      go_upto_region 13 with (first
        | (go_at_call 12; refine HP.out.mono ?_; rintro e w10 ⟨rfl, hB11⟩)
        | (refine wpList_store_row rfl 23 (.tmp 13) (.tmp 80) rfl _ zeroSty.cells.toArray rfl rfl 23 _ (World.alloc_heap_new _ _) (by kernel_rfl) rfl (by kernel_rfl) ?_)
        | go_in)
      have hz : (#[.int .i64 0, .int .i64 0, .int .i64 0, .int .i64 0, .bool false, .bool false, .bool false, .int .i64 0, .int .i64 0, .int .i64 0, .int .i64 0, .int .i64 0, .int .i64 0, .int .i64 0, .int .i64 0, .int .i64 0, .int .i64 0, .int .i64 0] : Array Value) = zeroSty.cells.toArray := rfl
      rw [hz]
      obtain ⟨hS, hT, hB⟩ := HL.out
      have hsz := hB11.size
      have lS := hS.lt
      have lT := hT.lt
      have bl : ∀ j, j < wr.heap.size → ((w10.alloc (.cells zeroSty.cells.toArray 23)).setRow w10.heap.size zeroSty.cells.toArray).heap[j]? = wr.heap[j]? := fun j hj => (setRow_other _ _ _ _ (by omega)).trans ((Below.heap_alloc _ _ _ (by omega)).trans (hB11.block _ hj))
      have hS11 := hS.block (bl b lS)
      have hT11 := hT.block (bl c lT)
      have hb := hB.trans (hB11.mono hB.size)
      have hB12 : Below w.heap.size w ((w10.alloc (.cells zeroSty.cells.toArray 23)).setRow w10.heap.size zeroSty.cells.toArray) := below_setRow (hb.alloc hb.size _) hb.size _
      generalize (w10.alloc (.cells zeroSty.cells.toArray 23)).setRow w10.heap.size zeroSty.cells.toArray = w11 at hS11 hT11 hB12 ⊢
      have e1 : w11.cell? ⟨c, 17, none⟩ = some (.int .i64 1000000) := hT11.sty 17 _ rfl
      have e2 : w11.cell? ⟨c, 0, none⟩ = some (.int .i64 4096) := hT11.sty 0 _ rfl
      have hlen : 13 ≤ (textTo firstSty 18).length := by decide +kernel
      obtain ⟨sp, hsp⟩ : ∃ sp : ByteArray, (⟨(textTo firstSty 18).toArray⟩ : ByteArray) = sp := ⟨_, rfl⟩
      have hs13 : 13 ≤ sp.size := by rw [← hsp]; exact hlen
      have hex : sp.extract 0 13 = ⟨#[99, 111, 108, 117, 109, 110, 115, 32, 61, 32, 56, 48, 10]⟩ := by
        apply ByteArray.ext
        apply Array.toList_inj.1
        rw [cutL _ _ _ hs13, List.drop_zero, ← hsp]
        exact first_text
      rw [hsp]
      have HS11 := Lib.hid hS11
      have HC1 := Lib.hid (show Calls Tryd.prog 10 #[.agg firstSty.cells.toArray] w11 fun e w' => e = .returned (.int .i64 0) ∧ Below w11.heap.size w11 w' from check_calls firstSty w11)
      have HC2 := Lib.hid (fun W => show Calls Tryd.prog 10 #[zeroSty.val] W fun e w' => e = .returned (.int .i64 90) ∧ Below W.heap.size W w' from check_calls zeroSty W)
      clear hsp hlen hz hS hT hB hsz lS lT bl hS11 hT11 hb hB11 HL HP hcv
      go_wp2_with (first
        | (refine wpList_load_row_g (by rfl) 23 (.tmp 1) rfl b rfl 23 firstSty.cells.toArray (0, 0) _ HS11.out Tryd.underlying23 rfl (by kernel_rfl) ?_)
        | (go_at_call 10; refine HC1.out.mono ?_; rintro e w12 ⟨rfl, hB13⟩; clear HC1)
        | (go_at_call 10; refine (HC2.out _).mono ?_; rintro e w13 ⟨rfl, hB14⟩)
        | go_in)
      go_ret
      exact ⟨rfl, (hB12.trans (hB13.mono hB12.size)).trans (hB14.mono (Nat.le_trans hB12.size hB13.size))⟩
end Go.Proofs.YtjfpfmknngkgaaaDoor
