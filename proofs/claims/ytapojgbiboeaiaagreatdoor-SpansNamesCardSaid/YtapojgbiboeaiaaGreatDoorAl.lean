/- alive: the chapter's first example holds. Condition: the library's variables are as they are laid. -/
import Derived.Test.YtapojgbiboeaiaaGreatDoorPa
import Derived.Test.YtapojgbiboeaiaaGreatDoorTx
import Derived.Test.YtapojgbiboeaiaaGreatDoorPm
import Derived.Test.YtapojgbiboeaiaaGreatDoorQl
namespace Go.Proofs.YtapojgbiboeaiaaGreatDoor
set_option linter.unusedVariables false
set_option linter.unusedSimpArgs false
open Go.RowKit Go.Shelf Rng
/-- The example's text: 5,1-2,2-3. -/
def exS : ByteArray := ⟨#[53, 44, 49, 45, 50, 44, 50, 45, 51]⟩
theorem ex_parts : (partsOf exS).all okP = true ∧ (partsOf exS).map rgP = [(4, 5), (0, 2), (1, 3)] := by
  constructor
  · decide +kernel
  · decide +kernel
theorem ex_text : (Lib.join (([(0, 3), (4, 5)].map oneS).map (·.data.toList)) [44]) = [49, 45, 51, 44, 53] := by decide +kernel
theorem ex_put {m : List (Int × Int)} (hp : m.Perm [(4, 5), (0, 2), (1, 3)]) (hr : Rises m) : putAll m = [(0, 3), (4, 5)] := by
  obtain ⟨k1, k2⟩ := putAll_ok m [] trivial (fun r hr => by
    have := hp.mem_iff.1 hr
    simp only [List.mem_cons, List.not_mem_nil, or_false] at this
    rcases this with rfl | rfl | rfl <;> (refine ⟨?_, ?_, ?_⟩ <;> simp)) (rises_pair hr) (fun l q e => by simp at e)
  refine Ok.unique (last := -1) (by omega) k1 ⟨by simp, by simp, by simp, by simp, by simp, by simp, trivial⟩ (fun i _ => ?_)
  have := k2 i
  rw [show putAll m = m.foldl put [] from rfl, this, Mem_perm hp]
  simp only [Mem_cons]
  constructor
  · rintro (h | h | h | h | h)
    · exact (Mem_nil _ h).elim
    · exact .inr (.inl h)
    · exact .inl (by omega)
    · exact .inl (by omega)
    · exact (Mem_nil _ h).elim
  · rintro (h | h | h)
    · by_cases c : i < 2
      · exact .inr (.inr (.inl (by omega)))
      · exact .inr (.inr (.inr (.inl (by omega))))
    · exact .inr (.inl h)
    · exact (Mem_nil _ h).elim
theorem eql_rg (a b c d : Int) (W : World) : (binOp .eql 28 (.agg #[.int .i64 a, .int .i64 b]) (.agg #[.int .i64 c, .int .i64 d])).run Tryz.prog W = .ok (.bool (decide (a = c) && decide (b = d))) W := by
  have hf : Tryz.prog.fieldsOf 28 = #[⟨ "From", 3, 0, false, "", "", 0⟩, ⟨ "To", 3, 1, false, "", "", 8⟩] := by kernel_rfl
  have ht : Tryz.prog.underlying 28 = some (.struct (Tryz.prog.fieldsOf 28)) := by kernel_rfl
  have hi := Tryz.underlying3
  rw [run_eql_struct, run_equalIn_agg _ _ _ _ _ ht (by kernel_rfl), hf]
  by_cases h1 : a = c <;> by_cases h2 : b = d <;> simp [Op.eqFields, go_sem, hi, run_equalIn_int, h1, h2]
set_option maxRecDepth 100000 in
set_option maxHeartbeats 2000000 in
theorem alive_calls {B : Nat} (w : World) (hB : B ≤ w.heap.size) (ht : Env B w) :
    Calls Tryz.prog 12 #[] w fun e w' => e = .returned (.bool true) ∧ Below w.heap.size w w' := by
  have HP := Lib.hid (parse_calls exS (by decide) w hB ht)
  have HT := Lib.hid (fun (w' : World) (hb : Below w.heap.size w w') => ht.later (hb.mono hB))
  clear ht
  go_enter Tryz.func12, Tryz.ntmps12
  go_upto_region 2 with (go_at_call 4; refine HP.out.mono ?_; rintro e w1 ⟨⟨x, c, rfl, hends⟩, hB1⟩)
  have hx : c = 0 ∧ Own w1 w.heap.size x [(0, 3), (4, 5)] := by
    rcases hends with ⟨h, _⟩ | ⟨_, _, h, m, hp, hr, ho⟩ | ⟨_, h, _⟩
    · exact absurd h (by decide)
    · rw [ex_parts.2] at hp
      rw [ex_put hp hr] at ho
      exact ⟨h, ho⟩
    · rw [ex_parts.1] at h; cases h
  obtain ⟨rfl, ho⟩ := hx
  have HO := Lib.hid ho
  have HX := Lib.hid (text_ok (own_rd ho) (Nat.le_refl _) (Nat.le_trans hB hB1.size) (HT.out _ hB1) (by decide) (by decide))
  have HY := Lib.hid ex_text
  obtain ⟨J, hJ⟩ : ∃ J : ByteArray, (⟨(Lib.join (([(0, 3), (4, 5)].map oneS).map (·.data.toList)) [44]).toArray⟩ : ByteArray) = J := ⟨_, rfl⟩
  rw [hJ] at HX
  have hJ2 : J = ⟨#[49, 45, 51, 44, 53]⟩ := by rw [← hJ, ex_text]
  subst hJ2
  clear hJ HY
  have HRd := Lib.hid (fun (w' : World) (hb : Below w1.heap.size w1 w') => (own_rd ho).below hb (Nat.le_refl _))
  clear ho hends
  go_upto_region 3 with (go_at_call 7; refine HX.out.mono ?_; rintro e w2 ⟨rfl, hB2⟩)
  obtain ⟨ao, cap, rfl, a1, a2, a3⟩ := HRd.out _ hB2
  obtain ⟨b0, o0, rfl, _, c1, c2⟩ := a3 0 (0, 3) rfl
  obtain ⟨b1, o1, e1, _, c3, c4⟩ := a3 1 (4, 5) rfl
  simp only [Option.some.injEq, Addr.mk.injEq, and_true] at e1
  obtain ⟨rfl, rfl⟩ := e1
  simp only [Nat.zero_mul, Nat.one_mul, Nat.add_zero] at c1 c2 c3 c4
  have q1 := eql_rg 0 3 0 3
  have q2 := eql_rg 4 5 4 5
  clear a3
  have hcap : (1 : Int) < cap := by have := a1; simp at this; omega
  go_wp2
  go_ret
  exact ⟨rfl, hB1.trans (hB2.mono hB1.size)⟩
end Go.Proofs.YtapojgbiboeaiaaGreatDoor
