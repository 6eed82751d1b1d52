/- Nearest: a path's nearest style's file, whether there is one, or an error where the text is no path. Conditions: readable files, of at most 3000 bytes as great reckons them; a path of at most 1000 bytes; the library's variable is there. -/
import Derived.Test.YtifbjccioklaoaaDoorNe
namespace Go.Proofs.YtifbjccioklaoaaDoor
set_option linter.unusedVariables false
set_option linter.unusedSimpArgs false
open Go.RowKit Rng Go.Maps
def isB (l : List (ByteArray × ByteArray)) (s : ByteArray) : Bool := ((fol s.data.toList s.size).find? (inN l)).isSome
theorem found_is (l : List (ByteArray × ByteArray)) (s : ByteArray) : ((foundB l s).toList == []) = !isB l s := by
  unfold foundB isB
  rw [ByteArray.toList_eq]
  cases h : (fol s.data.toList s.size).find? (inN l) with
  | none => rfl
  | some x =>
    have hx : x ∈ fol s.data.toList s.size := List.mem_of_find?_eq_some h
    have hne : x ≠ [] := by
      rcases (mem_fol _ _ _).1 hx with rfl | ⟨j, _, _, rfl⟩
      · simp [dotL]
      · simp [dotL]
    cases x with
    | nil => exact absurd rfl hne
    | cons a x => rfl
/-- What Nearest gives. -/
def nearT (l : List (ByteArray × ByteArray)) (s : ByteArray) : Value :=
  if pathB s then .tuple #[.string (foundB l s), .bool (isB l s), .int .i64 0] else .tuple #[.string ⟨#[]⟩, .bool false, .int .i64 220]
set_option maxRecDepth 100000 in
set_option maxHeartbeats 1000000 in
theorem nearest2_calls {B C : Nat} {v : Value} {l : List (ByteArray × ByteArray)} {w : World} (h : Rf B w v l) (hB : B ≤ w.heap.size) (hs : sumF l ≤ 3000) (ht : EnvT C w) (hC : C ≤ w.heap.size) (s : ByteArray) (hz : s.size ≤ 1000) :
    Calls Tryd.prog 10 #[v, .string s] w fun e w' => e = .returned (nearT l s) ∧ Below w.heap.size w w' := by
  have HP := Lib.hid (path_calls s (by omega) w hC ht)
  have HF := Lib.hid (fun (w1 : World) (hb : Below w.heap.size w w1) => files_calls ((h.below hb hB).mono (Nat.le_trans hB hb.size)) (Nat.le_refl _) hs (ht.later (hb.mono hC)) (Nat.le_trans hC hb.size))
  have HZ := Lib.hid hz
  obtain ⟨a1, c1, rfl, q1⟩ := h
  clear q1 hs ht hB hC hz
  cases hp : pathB s with
  | false =>
    have HE := Lib.hid (show nearT l s = .tuple #[.string ⟨#[]⟩, .bool false, .int .i64 220] by unfold nearT; rw [hp]; rfl)
    rw [hp] at HP
    clear hp
    go_enter Tryd.func10, Tryd.ntmps10
    go_wp2_with (go_at_call 9; refine HP.out.mono ?_; rintro e w1 ⟨rfl, hB1⟩)
    go_ret3
    exact ⟨by rw [HE.out]; rfl, hB1⟩
  | true =>
    have HE := Lib.hid (show nearT l s = .tuple #[.string (foundB l s), .bool (isB l s), .int .i64 0] by unfold nearT; rw [hp]; rfl)
    rw [hp] at HP
    have HI := Lib.hid (found_is l s)
    clear hp
    go_enter Tryd.func10, Tryd.ntmps10
    obtain ⟨F, hF⟩ : ∃ F, foundB l s = F := ⟨_, rfl⟩
    rw [hF] at HI HE
    have HFF := Lib.hid hF
    clear hF
    go_upto_region 4 with (first
      | (go_at_call 9; refine HP.out.mono ?_; rintro e w1 ⟨rfl, hB1⟩)
      | (go_at_call 15; refine (HF.out _ hB1).mono ?_; rintro e w2 ⟨b, rfl, hM, hb2, hB2⟩)
      | (go_at_call 22; refine (nearest_calls hM s HZ.out).mono ?_; rintro e w3 ⟨rfl, hB3⟩; rw [HFF.out]))
    have HB := Lib.hid ((hB1.trans (hB2.mono hB1.size)).trans (hB3.mono (Nat.le_trans hB1.size hB2.size)))
    clear hB1 hB2 hB3 hM hb2
    cases hi : isB l s with
    | false =>
      rw [hi] at HI HE
      have hi2 := HI.out
      simp only [Bool.not_false, Bool.not_true] at hi2
      clear hi
      go_wp2
      go_ret3
      exact ⟨by rw [HE.out]; rfl, HB.out⟩
    | true =>
      rw [hi] at HI HE
      have hi2 := HI.out
      simp only [Bool.not_false, Bool.not_true] at hi2
      clear hi
      go_wp2
      go_ret3
      exact ⟨by rw [HE.out]; rfl, HB.out⟩
end Go.Proofs.YtifbjccioklaoaaDoor
