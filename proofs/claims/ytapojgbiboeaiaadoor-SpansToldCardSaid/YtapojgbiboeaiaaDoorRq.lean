/- Plain law of the reference's Parse: where a part ends, where its dash is, what its numbers say. -/
import Derived.Test.YtapojgbiboeaiaaDoorRu
import Derived.Test.YtapojgbiboeaiaaDoorHd
namespace Go.Proofs.YtapojgbiboeaiaaDoor
set_option linter.unusedVariables false
set_option linter.unusedSimpArgs false
open Go.RowKit Rng
theorem ext_list (s : ByteArray) (a b : Nat) : (s.extract a b).data.toList = (s.data.toList.take b).drop a := by
  rw [ByteArray.data_extract, Array.toList_extract, List.extract_eq_take_drop, List.drop_take]
theorem ext_list2 (s : ByteArray) (a b : Nat) : (s.extract a b).data.toList = (s.data.toList.drop a).take (b - a) := by
  rw [ext_list, List.drop_take]
theorem refN_pos {s : ByteArray} (h : numB s = true) : refN s = atV s ∧ 1 ≤ atV s ∧ atV s ≤ 65536 := by
  obtain ⟨u, h1, h2, _, h4⟩ := numB_spec h
  refine ⟨?_, by omega, by omega⟩
  unfold refN
  rw [h, if_pos rfl]
theorem refN_zero {s : ByteArray} (h : numB s = false) : refN s = 0 := by unfold refN; rw [h]; rfl
theorem refN_range (s : ByteArray) : 0 ≤ refN s ∧ refN s ≤ 65536 := by
  cases h : numB s with
  | true => have := refN_pos h; omega
  | false => rw [refN_zero h]; omega
/-- A part is a range just if the reference takes it. -/
theorem okP_ref (x : ByteArray) : okP x = !(decide (refN (fromS x) = 0) || decide (refN (toS x) < refN (fromS x))) := by
  unfold okP
  cases h1 : numB (fromS x) with
  | false => rw [refN_zero h1]; rfl
  | true =>
    obtain ⟨a1, a2, a3⟩ := refN_pos h1
    rw [a1]
    cases h2 : numB (toS x) with
    | false =>
      rw [refN_zero h2, decide_eq_false (show ¬ atV (fromS x) = 0 by omega), decide_eq_true (show (0 : Int) < atV (fromS x) by omega)]
      rfl
    | true =>
      obtain ⟨b1, b2, b3⟩ := refN_pos h2
      rw [b1, decide_eq_false (show ¬ atV (fromS x) = 0 by omega)]
      rfl
theorem rgP_ref {x : ByteArray} (h : okP x = true) : rgP x = (refN (fromS x) - 1, refN (toS x)) ∧ Fit (rgP x) := by
  unfold okP at h
  simp only [Bool.and_eq_true, Bool.not_eq_true', decide_eq_false_iff_not] at h
  obtain ⟨⟨h1, h2⟩, h3⟩ := h
  obtain ⟨a1, a2, a3⟩ := refN_pos h1
  obtain ⟨b1, b2, b3⟩ := refN_pos h2
  refine ⟨by unfold rgP; rw [a1, b1], ?_⟩
  unfold rgP Fit
  simp only
  omega
/-- The dash's place in a part, or the part's end. -/
def CutAt (x : List UInt8) (c : Nat) : Prop := c ≤ x.length ∧ (45 : UInt8) ∉ x.take c ∧ (c = x.length ∨ x[c]? = some 45)
theorem from_to {x : ByteArray} {c : Nat} (h : CutAt x.data.toList c) : fromS x = x.extract 0 c ∧ (c = x.data.toList.length → toS x = x.extract 0 c) ∧ (c < x.data.toList.length → toS x = x.extract (c + 1) x.size) := by
  obtain ⟨h1, h2, h3⟩ := h
  have hz := Lib.size_eq x
  by_cases hc : c = x.data.toList.length
  · have hf : (45 : UInt8) ∉ x.data.toList := by rw [hc, List.take_length] at h2; exact h2
    obtain ⟨c1, c2, c3⟩ := cutA_of (cut_free hf)
    have e : x.extract 0 c = cutA x := by
      rw [c1]
      exact ba_ext (by rw [ext_list, hc, List.take_length, List.drop_zero])
    refine ⟨e.symm, fun _ => ?_, fun h => by omega⟩
    unfold toS
    rw [c3, e]
    rfl
  · have h3' := h3.resolve_left hc
    have hd : x.data.toList = x.data.toList.take c ++ 45 :: x.data.toList.drop (c + 1) := by
      conv => lhs; rw [← List.take_append_drop c x.data.toList]
      congr 1
      obtain ⟨hi, he⟩ := List.getElem?_eq_some_iff.1 h3'
      rw [List.drop_eq_getElem_cons hi, he]
    have hcut := cut_at (r := x.data.toList.drop (c + 1)) h2
    rw [← hd] at hcut
    obtain ⟨c1, c2, c3⟩ := cutA_of hcut
    refine ⟨?_, fun h => absurd h hc, fun _ => ?_⟩
    · show cutA x = _
      rw [c1]
      exact ba_ext (by rw [ext_list, List.drop_zero])
    · unfold toS
      rw [c3, if_pos rfl, c2]
      exact ba_ext (by rw [ext_list, hz, List.take_length])
theorem cutAt_step {x : List UInt8} {c : Nat} {b : UInt8} (h : (45 : UInt8) ∉ x.take c) (hb : x[c]? = some b) (hne : b ≠ 45) : (45 : UInt8) ∉ x.take (c + 1) := by
  rw [List.take_add_one, hb]
  simp only [Option.toList_some, List.mem_append, List.mem_singleton, not_or]
  exact ⟨h, fun e => hne e.symm⟩
/-- The parts as texts. -/
def mkB (x : List UInt8) : ByteArray := ⟨x.toArray⟩
theorem mkB_list (x : ByteArray) : mkB x.data.toList = x := ba_ext rfl
theorem parts_mk (s : ByteArray) : partsOf s = (parts 44 s.data.toList).map mkB := by
  rw [← parts_of, List.map_map]
  conv => lhs; rw [← List.map_id (partsOf s)]
  exact List.map_congr_left fun x _ => (mkB_list x).symm
/-- What is left of the parts at a place. -/
def leftP (l : List UInt8) (f k : Nat) : List (List UInt8) := if k ≤ l.length then parts 44 (l.drop f) else []
theorem leftP_end {l : List UInt8} {f k : Nat} (hf : f ≤ k) (hk : k ≤ l.length) (hn : (44 : UInt8) ∉ (l.drop f).take (k - f)) (he : k = l.length ∨ l[k]? = some 44) :
    leftP l f k = ((l.drop f).take (k - f)) :: leftP l (k + 1) (k + 1) := by
  unfold leftP
  rw [if_pos hk]
  by_cases h : k = l.length
  · subst h
    have e : (l.drop f).take (l.length - f) = l.drop f := List.take_of_length_le (by rw [List.length_drop]; omega)
    rw [if_neg (by omega), e]
    rw [e] at hn
    exact parts_free hn
  · have hb := he.resolve_left h
    obtain ⟨hi, hx⟩ := List.getElem?_eq_some_iff.1 hb
    rw [if_pos (by omega)]
    have hd : l.drop f = (l.drop f).take (k - f) ++ 44 :: l.drop (k + 1) := by
      conv => lhs; rw [← List.take_append_drop (k - f) (l.drop f)]
      congr 1
      rw [List.drop_drop, show f + (k - f) = k by omega, List.drop_eq_getElem_cons hi, hx]
    conv => lhs; rw [hd]
    exact parts_at hn
theorem leftP_go {l : List UInt8} {f k : Nat} (hk : k < l.length) : leftP l f (k + 1) = leftP l f k := by
  unfold leftP
  rw [if_pos (by omega), if_pos (by omega)]
theorem free_go {l : List UInt8} {f k : Nat} {b : UInt8} (hf : f ≤ k) (hn : (44 : UInt8) ∉ (l.drop f).take (k - f)) (hb : l[k]? = some b) (hne : b ≠ 44) : (44 : UInt8) ∉ (l.drop f).take (k + 1 - f) := by
  rw [show k + 1 - f = (k - f) + 1 by omega, List.take_add_one, List.getElem?_drop, show f + (k - f) = k by omega, hb]
  simp only [Option.toList_some, List.mem_append, List.mem_singleton, not_or]
  exact ⟨hn, fun e => hne e.symm⟩
end Go.Proofs.YtapojgbiboeaiaaDoor
