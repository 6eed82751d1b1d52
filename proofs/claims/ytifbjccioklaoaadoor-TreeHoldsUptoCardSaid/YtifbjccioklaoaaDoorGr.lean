/- great: whether the files are more than the statements go through. Condition: their bytes, reckoned so, are below 2^40. -/
import Derived.Test.YtifbjccioklaoaaDoorTr
import Derived.Test.YtifbjccioklaoaaDoorQt
import Derived.Lib.Hide
import Derived.BigQuiet
import Derived.BigRegion
import Derived.Deep.Cut
import Derived.Deep.QuietTactic
import Derived.Shelf.RegionOpen
import Derived.StillTailTactics
import Derived.Deep.DeepCutAuto
import Derived.WalkKit
namespace Go.Proofs.YtifbjccioklaoaaDoor
set_option linter.unusedVariables false
set_option linter.unusedSimpArgs false
open Go.RowKit Rng
def sumF (l : List (ByteArray × ByteArray)) : Nat := (l.map fun f => 20 + f.1.size + f.2.size).sum
theorem sumF_take {l : List (ByteArray × ByteArray)} {k : Nat} {f : ByteArray × ByteArray} (h : l[k]? = some f) : sumF (l.take (k + 1)) = sumF (l.take k) + (20 + f.1.size + f.2.size) := by
  unfold sumF
  rw [List.take_add_one, h, List.map_append, List.sum_append]
  simp
theorem sumF_le (l : List (ByteArray × ByteArray)) (k : Nat) : sumF (l.take k) ≤ sumF l := by
  have : l = l.take k ++ l.drop k := (List.take_append_drop k l).symm
  conv => rhs; rw [this]
  unfold sumF
  rw [List.map_append, List.sum_append]
  omega
theorem sumF_length (l : List (ByteArray × ByteArray)) : 20 * l.length ≤ sumF l := by
  induction l with
  | nil => simp [sumF]
  | cons f l ih => simp only [sumF, List.map_cons, List.sum_cons, List.length_cons] at *; omega
theorem sumF_mem {l : List (ByteArray × ByteArray)} {f : ByteArray × ByteArray} (h : f ∈ l) : f.1.size + f.2.size ≤ sumF l := by
  induction l with
  | nil => cases h
  | cons g l ih =>
    simp only [sumF, List.map_cons, List.sum_cons] at *
    rcases List.mem_cons.1 h with rfl | h
    · omega
    · have := ih h; omega
set_option maxRecDepth 100000 in
set_option maxHeartbeats 600000 in
theorem great_calls {B : Nat} {v : Value} {l : List (ByteArray × ByteArray)} {w : World} (h : Rf B w v l) (hB : B ≤ w.heap.size) (hs : sumF l ≤ 1099511627776) :
    Calls Tryd.prog 7 #[v] w fun e w' => e = .returned (.bool (decide (3000 < sumF l))) ∧ Below w.heap.size w w' := by
  obtain ⟨ao, cap, rfl, h1, h2, h3⟩ := h
  have H3 := Lib.hid h3
  have HS := Lib.hid hs
  have HN := Lib.hid (sumF_length l)
  clear h3 hs
  obtain ⟨n, hn⟩ : ∃ n, l.length = n := ⟨_, rfl⟩
  rw [hn] at h1 HN ⊢
  have HL := Lib.hid hn
  clear hn
  go_enter Tryd.func7, Tryd.ntmps7
  go_upto_region 2 with fail
  go_wp2
  go_loopw [3, 4] (fun s i wr => ∃ k : Nat, k ≤ n ∧ i = .int .i64 k ∧ s = .int .i64 (sumF (l.take k) : Nat) ∧ Below w.heap.size w wr) (fun _ i _ => n - (intOf i).toNat)
  case atStart => exact ⟨0, Nat.zero_le _, rfl, rfl, Below.refl _ _⟩
  case round =>
    obtain ⟨k, hk, rfl, rfl, hBr⟩ := hrel
    by_cases hlt : k < n
    · obtain ⟨f, hf⟩ : ∃ f, l[k]? = some f := ⟨_, List.getElem?_eq_getElem (by rw [HL.out]; exact hlt)⟩
      obtain ⟨b, o, rfl, hb, c1, c2⟩ := H3.out k f hf
      have hb' := Nat.lt_of_lt_of_le hb hB
      have c1' := (World.cell?_of_block (hBr.block b hb')).trans c1
      have c2' := (World.cell?_of_block (hBr.block b hb')).trans c2
      have HC1 := Lib.hid (fun d os => cell_regrown c1' d os)
      have HC2 := Lib.hid (fun d os => cell_regrown c2' d os)
      have hlt' : (k : Int) < n := by omega
      have HSN := Lib.hid (sumF_take hf)
      have HSL := Lib.hid (sumF_le l (k + 1))
      have HK := Lib.hid hlt
      obtain ⟨s0, hs0⟩ : ∃ s0, sumF (l.take k) = s0 := ⟨_, rfl⟩
      rw [hs0] at HSN ⊢
      obtain ⟨f1, f2⟩ := f
      dsimp only at HC1 HC2 HSN
      obtain ⟨z1, hz1⟩ : ∃ z1, f1.size = z1 := ⟨_, rfl⟩
      obtain ⟨z2, hz2⟩ : ∃ z2, f2.size = z2 := ⟨_, rfl⟩
      rw [hz1, hz2] at HSN
      have HW := Lib.hid (show wrap64 ((k : Int) + 1) = ((k + 1 : Nat) : Int) by have := HN.out; have := HS.out; rw [wrap_in _ (by omega)]; omega)
      obtain ⟨s1, hs1⟩ : ∃ s1, s0 + 20 = s1 := ⟨_, rfl⟩
      obtain ⟨s2, hs2⟩ : ∃ s2, s1 + z1 = s2 := ⟨_, rfl⟩
      obtain ⟨s3, hs3⟩ : ∃ s3, s2 + z2 = s3 := ⟨_, rfl⟩
      have HW1 := Lib.hid (show wrap64 ((s0 : Int) + 20) = (s1 : Int) by have := HSN.out; have := HSL.out; have := HS.out; rw [wrap_in _ (by omega)]; omega)
      have HW2 := Lib.hid (show wrap64 ((s1 : Int) + z1) = (s2 : Int) by have := HSN.out; have := HSL.out; have := HS.out; rw [wrap_in _ (by omega)]; omega)
      have HW3 := Lib.hid (show wrap64 ((s2 : Int) + z2) = (s3 : Int) by have := HSN.out; have := HSL.out; have := HS.out; rw [wrap_in _ (by omega)]; omega)
      have HE := Lib.hid (show sumF (l.take (k + 1)) = s3 by rw [HSN.out]; omega)
      clear hf c1 c2 c1' c2' hb hb' hlt hs0 hs1 hs2 hs3
      go_upto_region 5 with fail
      have hc1 := HC1.out
      have hc2 := HC2.out
      have hw1 := HW1.out
      have hw2 := HW2.out
      have hw3 := HW3.out
      refine wp_region_quiet_below (by kernel_rfl) (by kernel_rfl) ?_
      repeat (go_big_quiet_step (fail))
      refine wpQuiet_nil ?_
      rintro _ ⟨pp, rfl⟩
      have hB3 := below_regrown wr pp.d pp.os
      go_wp2
      go_roundw
      case rel => exact ⟨k + 1, HK.out, by rw [HW.out], by rw [HE.out, hw3], hBr.trans (hB3.mono hBr.size)⟩
      case measure => rw [HW.out]; have := HK.out; simp only [intOf]; omega
    · have hke : k = n := by omega
      subst hke
      have hT : l.take k = l := List.take_of_length_le (by rw [HL.out]; exact Nat.le_refl _)
      rw [hT]
      have hlt' : ¬ (k : Int) < k := by omega
      clear hT hlt hk
      go_wp2
      go_ret
      refine ⟨?_, hBr⟩
      show Ending.returned (.bool _) = _
      congr 3
      apply propext
      omega
end Go.Proofs.YtifbjccioklaoaaDoor
