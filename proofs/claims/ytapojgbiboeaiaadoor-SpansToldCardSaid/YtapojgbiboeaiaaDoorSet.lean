/- The reference's Set: the ranges of the marked lines, in their order. Condition: at most 65536 cells, in a block that was there. -/
import Derived.Test.YtapojgbiboeaiaaDoorOw
namespace Go.Proofs.YtapojgbiboeaiaaDoor
set_option linter.unusedVariables false
set_option linter.unusedSimpArgs false
open Go.RowKit Rng
/-- Line i is put behind the ranges. -/
def ext (l : List (Int × Int)) (i : Nat) : List (Int × Int) :=
  match l.getLast? with
  | some r => if r.2 = i then l.dropLast ++ [(r.1, (i : Int) + 1)] else l ++ [((i : Int), (i : Int) + 1)]
  | none => [((i : Int), (i : Int) + 1)]
/-- The ranges of the lines under n. -/
def setUp (f : Nat → Bool) : Nat → List (Int × Int)
  | 0 => []
  | n + 1 => if f n then ext (setUp f n) n else setUp f n
theorem ext_nil (i : Nat) : ext [] i = [((i : Int), (i : Int) + 1)] := rfl
theorem ext_snoc (l : List (Int × Int)) (r : Int × Int) (i : Nat) : ext (l ++ [r]) i = if r.2 = i then l ++ [(r.1, (i : Int) + 1)] else l ++ [r] ++ [((i : Int), (i : Int) + 1)] := by simp [ext]
theorem ext_length (l : List (Int × Int)) (i : Nat) : (ext l i).length ≤ l.length + 1 := by
  rcases List.eq_nil_or_concat l with rfl | ⟨l, r, rfl⟩
  · simp [ext_nil]
  · rw [List.concat_eq_append, ext_snoc]
    split <;> simp
theorem setUp_length (f : Nat → Bool) (n : Nat) : (setUp f n).length ≤ n := by
  induction n with
  | zero => simp [setUp]
  | succ n ih =>
    unfold setUp
    have := ext_length (setUp f n) n
    split <;> omega
set_option maxRecDepth 100000 in
set_option maxHeartbeats 2000000 in
theorem set_calls {b N cap : Nat} {f : Nat → Bool} {w : World} (hb : w.heap[b]? = some (.cells (marks N f) 4 (0, 0))) (hN : N ≤ 65536) :
    Calls Tryd.prog 26 #[.slice (some ⟨b, 0, none⟩) N cap] w fun e w' => ∃ v, e = .returned v ∧ Own w' w.heap.size v (setUp f N) ∧ Below w.heap.size w w' := by
  have HB := Lib.hid hb
  have hbl : b < w.heap.size := (Array.getElem?_eq_some_iff.1 hb).1
  obtain ⟨i0, hi, hz0, hz1, hz2⟩ := info_rg
  clear hb
  go_enter Tryd.func26, Tryd.ntmps26
  go_wp2
  go_loopw [3, 4] (fun v i wr => ∃ k : Nat, k ≤ N ∧ i = .int .i64 k ∧ Own wr w.heap.size v (setUp f k) ∧ Below w.heap.size w wr) (fun _ i _ => N - (intOf i).toNat)
  case atStart => exact ⟨0, by omega, rfl, World.ownsRow_nil _ _ _ _, Below.refl _ _⟩
  case round =>
    obtain ⟨k, hk, rfl, hO, hBr⟩ := hrel
    by_cases hlt : k < N
    · have hbr := (hBr.block b hbl).trans HB.out
      have hcell := (cell_of hbr k).trans (marks_get _ _ k hlt)
      have hlt' : (k : Int) < N := by omega
      have hk6 : (k : Int) < 65536 := by omega
      have HK := Lib.hid hlt
      have HO := Lib.hid hO
      have HN := Lib.hid hN
      have hsz := hBr.size
      cases hf : f k with
      | false =>
        have HS := Lib.hid (show setUp f (k + 1) = setUp f k by simp [setUp, hf])
        rw [hf] at hcell
        clear hf hbr hlt hO hN
        go_wp2
        have hlt := HK.out
        have hN := HN.out
        refine ⟨⟨k + 1, hlt, by push_cast; rfl, by rw [HS.out]; exact HO.out, hBr⟩, ?_⟩
        simp only [intOf]; omega
      | true =>
        have HS := Lib.hid (show setUp f (k + 1) = ext (setUp f k) k by simp [setUp, hf])
        have hle := setUp_length f k
        rw [hf] at hcell
        clear hf hbr hlt hO
        rcases List.eq_nil_or_concat (setUp f k) with hnil | ⟨m, r, hm⟩
        · rw [hnil] at HO HS
          have HL := Lib.hid hle
          clear hle hnil
          obtain ⟨hv, h0⟩ | ⟨g, cap', cur, rfl, hb', hc', h1', h2', h3'⟩ := HO.out.2
          · subst hv
            go_wp2_with (at_builtin; refine wpList_append_own _ rfl _ _ 22 rfl w.heap.size 38 i0 _ 2 16 Tryd.underlying22 hi hz0 hz1 hz2 rfl (by decide) _ 0 _ rfl (HO.out.alloc _) ⟨wr.heap.size, 0, none⟩ 1 1 [.int .i64 k, .int .i64 ((k : Int) + 1)] rfl rfl (new2 wr _ _ _) (by simp [Value.oneCell']) (by have := HL.out; have := HN.out; unfold maxLen; omega) (by have := HL.out; have := HN.out; omega) (by simp; omega) ?_; intro v' w1 hown' hgrow hnil')
            have hlt := HK.out
            have hbl2 : Below w.heap.size w w1 := (hBr.alloc hsz _).grown hgrow (by simp; omega) (fun j ej => (HO.out.lt j ej).1)
            go_roundw
            case rel => exact ⟨k + 1, hlt, by push_cast; rfl, by rw [HS.out]; exact own_more (l := []) (r := ((k : Int), (k : Int) + 1)) hown', hbl2⟩
            case measure => simp only [intOf]; omega
          · clear h3' hc'
            go_wp2_with (at_builtin; refine wpList_append_own _ rfl _ _ 22 rfl w.heap.size 38 i0 _ 2 16 Tryd.underlying22 hi hz0 hz1 hz2 rfl (by decide) _ 0 _ rfl (HO.out.alloc _) ⟨wr.heap.size, 0, none⟩ 1 1 [.int .i64 k, .int .i64 ((k : Int) + 1)] rfl rfl (new2 wr _ _ _) (by simp [Value.oneCell']) (by have := HL.out; have := HN.out; unfold maxLen; omega) (by have := HL.out; have := HN.out; omega) (by simp; omega) ?_; intro v' w1 hown' hgrow hnil')
            have hlt := HK.out
            have hbl2 : Below w.heap.size w w1 := (hBr.alloc hsz _).grown hgrow (by simp; omega) (fun j ej => (HO.out.lt j ej).1)
            go_roundw
            case rel => exact ⟨k + 1, hlt, by push_cast; rfl, by rw [HS.out]; exact own_more (l := []) (r := ((k : Int), (k : Int) + 1)) hown', hbl2⟩
            case measure => simp only [intOf]; omega
        · rw [List.concat_eq_append] at hm
          rw [hm] at HO HS hle
          rw [ext_snoc] at HS
          have HL := Lib.hid hle
          clear hle hm
          obtain ⟨g, cap', hv, hg1, hg2, hn1, hn2⟩ := own_form HO.out (by simp)
          obtain ⟨n, hn⟩ : ∃ n, (m ++ [r]).length = n := ⟨_, rfl⟩
          rw [hn] at hv
          subst hv
          have hO2 := HO.out
          unfold Own at hO2
          have HO := Lib.hid hO2
          clear hO2
          rw [hn] at HO HL hn1
          have hnm : n = m.length + 1 := by rw [← hn]; simp
          have HNM := Lib.hid hn
          have hc1 : wr.cell? ⟨g, m.length * 2 + 1, none⟩ = some (.int .i64 r.2) := by
            rw [HO.out.cellAt (m.length * 2 + 1) (by omega)]
            exact (rcells_get (m ++ [r]) m.length r (by simp)).2
          have hfz := HO.out.frozenAt (m.length * 2 + 1)
          have E1 := Lib.hid (show n + 1 ≤ maxLen by have := HL.out; unfold maxLen; omega)
          have E2 := Lib.hid (show (n + 1) * 16 ≤ 140737488355328 by have := HL.out; omega)
          have E3 := Lib.hid (show w.heap.size ≤ wr.heap.size + 1 by omega)
          have HW2 := Lib.hid (show wrap64 ((k : Int) + 1) = (k : Int) + 1 from wrap_in _ (by omega))
          have hw1 : wrap64 ((n : Int) - 1) = (m.length : Int) := by
            rw [wrap_in _ (by have := HL.out; omega)]; omega
          have hml : (m.length : Int) < n := by omega
          have hpos : 0 < n := by omega
          have HNM2 := Lib.hid hnm
          clear hn hnm
          by_cases hrk : r.2 = k
          · have HS2 := Lib.hid (show setUp f (k + 1) = m ++ [(r.1, (k : Int) + 1)] by rw [HS.out, if_pos hrk])
            rw [hrk] at hc1
            clear hrk
            go_wp2
            have hlt := HK.out
            go_roundw
            case rel => exact ⟨k + 1, hlt, by push_cast; rfl, by rw [HS2.out]; exact own_last HNM.out.symm (by unfold Own; rw [HNM.out]; exact HO.out) _, hBr.setCell hg1 _⟩
            case measure => simp only [intOf]; omega
          · have HS2 := Lib.hid (show setUp f (k + 1) = m ++ [r] ++ [((k : Int), (k : Int) + 1)] by rw [HS.out, if_neg hrk])
            have d1 : (r.2 == (k : Int)) = false := by simpa using hrk
            have HN := Lib.hid hN
            clear hrk hk6 hN
            go_wp2_with (at_builtin; refine wpList_append_own _ rfl _ _ 22 rfl w.heap.size 38 i0 _ 2 16 Tryd.underlying22 hi hz0 hz1 hz2 rfl (by decide) _ _ _ rfl (HO.out.alloc _) ⟨wr.heap.size, 0, none⟩ 1 1 [.int .i64 k, .int .i64 (wrap64 ((k : Int) + 1))] rfl rfl (new2 wr _ _ _) (by simp [Value.oneCell']) E1.out E2.out (by simpa using E3.out) ?_; intro v' w1 hown' hgrow hnil')
            have hlt := HK.out
            have hbl2 : Below w.heap.size w w1 := (hBr.alloc hsz _).grown hgrow (by simp; omega) (fun j ej => (HO.out.lt j ej).1)
            go_roundw
            case rel => exact ⟨k + 1, hlt, by rw [HW2.out]; push_cast; rfl, by rw [HS2.out]; exact own_more (l := m ++ [r]) (r := ((k : Int), (k : Int) + 1)) (by rw [HNM.out]; have h := hown'; rw [HW2.out] at h; exact h), hbl2⟩
            case measure => rw [HW2.out]; simp only [intOf]; omega
    · have : k = N := by omega
      subst this
      have hlt' : ¬ (k : Int) < k := by omega
      have HO := Lib.hid hO
      clear hO
      go_wp2
      go_ret
      exact ⟨_, rfl, HO.out, hBr⟩
end Go.Proofs.YtapojgbiboeaiaaDoor
