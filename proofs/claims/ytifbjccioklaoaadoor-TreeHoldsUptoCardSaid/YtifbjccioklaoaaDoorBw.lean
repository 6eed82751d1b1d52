/- slices.Backward's iterator gives the files of a list from the last to the first, each with its place. Conditions: the captured variable's block holds the slice, whose cells the rounds leave. -/
import Derived.Test.YtifbjccioklaoaaDoorGr
import Derived.WalkSpells
import Derived.WalkLawsBesides
import Derived.KernelRfl
import Derived.Outline
import Derived.OwnWalkIn
import Derived.TacticsInMore
import Derived.LoopNIn
import Derived.LoopIn
namespace Go.Proofs.YtifbjccioklaoaaDoor
set_option linter.unusedVariables false
set_option linter.unusedSimpArgs false
open Go.RowKit Rng
/-- The files with their places, from the last to the first. -/
def backL (l : List (ByteArray × ByteArray)) : List ((ByteArray × ByteArray) × Nat) := l.zipIdx.reverse
theorem backL_length (l : List (ByteArray × ByteArray)) : (backL l).length = l.length := by simp [backL]
theorem backL_get {l : List (ByteArray × ByteArray)} {k : Nat} (hk : k < l.length) {f : ByteArray × ByteArray} (hf : l[l.length - 1 - k]? = some f) : (backL l)[k]? = some (f, l.length - 1 - k) := by
  unfold backL
  rw [List.getElem?_reverse (by simpa using hk), List.length_zipIdx, List.getElem?_zipIdx, hf]
  simp
theorem mem_backL {l : List (ByteArray × ByteArray)} {n : ByteArray} : (∃ x ∈ backL l, x.1.1 = n) ↔ ∃ f ∈ l, f.1 = n := by
  unfold backL
  constructor
  · rintro ⟨x, hx, rfl⟩
    have hx' := List.mem_reverse.1 hx
    refine ⟨x.1, ?_, rfl⟩
    have := List.mem_map_of_mem (f := Prod.fst) hx'
    rwa [List.zipIdx_map_fst] at this
  · rintro ⟨f, hf, rfl⟩
    rw [← List.zipIdx_map_fst 0 l] at hf
    obtain ⟨x, hx, rfl⟩ := List.mem_map.1 hf
    exact ⟨x, List.mem_reverse.2 hx, rfl⟩
abbrev backE (x : (ByteArray × ByteArray) × Nat) : Array Value := #[.int .i64 (x.2 : Int), .agg #[.string x.1.1, .string x.1.2]]
/-- The captured variable holds the slice. -/
def SlAt (C B : Nat) (l : List (ByteArray × ByteArray)) (W : World) : Prop := ∃ v, W.heap[C]? = some (.cells #[v] 22 (0, 0)) ∧ Rf B W v l
theorem SlAt.of_same {C B : Nat} {l : List (ByteArray × ByteArray)} {W W' : World} (h : SlAt C B l W) (hs : Same (C :: List.range B) W W') : SlAt C B l W' := by
  obtain ⟨v, h1, ao, cap, hv, k1, k2, k3⟩ := h
  have hb : ∀ k, k < B → W'.heap[k]? = W.heap[k]? := fun k hk => hs k (by simp [hk])
  refine ⟨v, (hs C (by simp)).trans h1, ao, cap, hv, k1, k2, fun i r hr => ?_⟩
  obtain ⟨b, o, hx, hB, c1, c2⟩ := k3 i r hr
  exact ⟨b, o, hx, hB, (World.cell?_of_block (w := W) (hb b hB)).trans c1, (World.cell?_of_block (w := W) (hb b hB)).trans c2⟩
theorem fields_file : Tryd.prog.fieldsOf 34 = #[⟨ "Name", 9, 0, false, "", "", 0⟩, ⟨ "Text", 9, 1, false, "", "", 16⟩] := by kernel_rfl
set_option maxRecDepth 100000 in
set_option maxHeartbeats 1000000 in
theorem back1_iter (C B : Nat) (hCB : B ≤ C) (l : List (ByteArray × ByteArray)) (hl : l.length ≤ 1000) :
    Iter Tryd.prog 8 43 #[.pointer (some ⟨C, 0, none⟩)] backE [] (C :: List.range B) (SlAt C B l) (backL l) := by
  intro q J Jx W hH hJ hJx hY h0
  refine callsIn_of_wp Tryd.func43 rfl trivial ?_ rfl
  simp only [Tryd.ntmps43, List.size_toArray, List.length_cons, List.length_nil, Nat.reduceAdd, Nat.reduceSub, Array.replicate_succ, Array.replicate_zero, List.push_toArray, List.append_toArray, List.nil_append, List.cons_append]
  have hH' := hH
  obtain ⟨v, hc, ao, cap, rfl, k1, k2, k3⟩ := hH'
  have hc0 := cell_of hc 0
  simp at hc0
  have HH := Lib.hid hH
  obtain ⟨n, hn⟩ : ∃ n, l.length = n := ⟨_, rfl⟩
  rw [hn] at hc0 hl
  have HN := Lib.hid hn
  have HLL := Lib.hid hl
  have hw0 : wrap64 ((n : Int) - 1) = (n : Int) - 1 := wrap_in _ (by omega)
  clear hH hc k3 k1 k2
  gi_wp2
  clear hc0
  gi_loopw [3] (fun i wr => ∃ k : Nat, k ≤ n ∧ i = .int .i64 ((n : Int) - 1 - k) ∧ SlAt C B l wr ∧ J ((backL l).take k) wr)
    (fun i _ => (intOf i + 1).toNat)
  case atStart => exact ⟨0, Nat.zero_le _, by first | rfl | (rw [hw0]; simp) | simp, HH.out, by simpa using h0⟩
  case round =>
    obtain ⟨k, hk, rfl, hHr, hJr⟩ := hrel
    by_cases hlt : k < n
    · obtain ⟨j, hj⟩ : ∃ j, n - 1 - k = j := ⟨_, rfl⟩
      have hij : (n : Int) - 1 - k = (j : Int) := by omega
      have hjn : j < n := by omega
      obtain ⟨f, hf⟩ : ∃ f, l[j]? = some f := ⟨_, List.getElem?_eq_getElem (by rw [HN.out]; exact hjn)⟩
      have hbk : (backL l)[k]? = some (f, j) := by
        have := backL_get (l := l) (k := k) (by rw [HN.out]; exact hlt) (f := f) (by rw [HN.out, hj]; exact hf)
        rwa [HN.out, hj] at this
      have hHr' := hHr
      obtain ⟨v, hc, ao, cap, rfl, k1, k2, k3⟩ := hHr'
      obtain ⟨b, o, rfl, hb, c1, c2⟩ := k3 j f hf
      have hcc := cell_of hc 0
      simp at hcc
      rw [HN.out] at hcc k1
      have hsplit : backL l = (backL l).take k ++ (f, j) :: (backL l).drop (k + 1) := by
        have hkl : k < (backL l).length := by rw [backL_length, HN.out]; exact hlt
        have he : (backL l)[k] = (f, j) := (List.getElem?_eq_some_iff.1 hbk).2
        rw [← he, ← List.drop_eq_getElem_cons hkl, List.take_append_drop]
      obtain ⟨fn, tmps, assign, body, hy, hR⟩ := hY _ _ _ _ hsplit hJr
      have htk : (backL l).take k ++ [(f, j)] = (backL l).take (k + 1) := by rw [List.take_add_one, hbk]; rfl
      rw [htk] at hR
      have HS := Lib.hid hsplit
      have HHR := Lib.hid hHr
      have HK := Lib.hid hlt
      have HIJ := Lib.hid hij
      have hjn' : (j : Int) < n := by omega
      have hw : wrap64 ((j : Int) - 1) = (n : Int) - 1 - (k + 1 : Nat) := by rw [wrap_in _ (by have := HLL.out; omega)]; omega
      have HW := Lib.hid hw
      rw [hij]
      clear hsplit htk hbk hf hc k3 hHr hJr hj hij hlt hw hk
      obtain ⟨f1, f2⟩ := f
      dsimp only at c1 c2
      gi_wp2
      refine hR.mono ?_
      rintro e' W3 (⟨rfl, hJ3, hk3⟩ | ⟨rfl, hJx3⟩)
      · have hH3 : SlAt C B l W3 := HHR.out.of_same hk3
        gi_wp2
        go_roundw
        case rel => exact ⟨k + 1, HK.out, by have := HIJ.out; congr 1; omega, hH3, hJ3⟩
        case measure => have := HK.out; have := HIJ.out; simp only [intOf]; omega
      · gi_wp2
        refine bodyPost_ret (results_none rfl _ _ _) rfl ?_
        exact ⟨⟨_, rfl⟩, .inr ⟨_, (backL l).drop (k + 1), by simp, hJx3⟩⟩
    · have hke : k = n := by omega
      subst hke
      have hT : (backL l).take k = backL l := List.take_of_length_le (by rw [backL_length, HN.out]; exact Nat.le_refl _)
      rw [hT] at hJr
      have hneg : (k : Int) - 1 - k = -1 := by omega
      rw [hneg]
      gi_wp2
      go_end0
      exact ⟨⟨_, rfl⟩, .inl hJr⟩
end Go.Proofs.YtifbjccioklaoaaDoor
