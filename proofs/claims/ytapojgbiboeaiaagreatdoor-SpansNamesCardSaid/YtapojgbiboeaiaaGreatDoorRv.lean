/- valid and the reference's Valid answer alike: the plain test of a list of ranges. -/
import Derived.Test.YtapojgbiboeaiaaGreatDoorRr
import Derived.Test.YtapojgbiboeaiaaGreatDoorQt
import Derived.BigQuiet
import Derived.BigRegion
import Derived.Deep.Cut
import Derived.Deep.DeepCutAuto
import Derived.Deep.QuietTactic
import Derived.Shelf.Abstract
import Derived.Shelf.RegionOpen
import Derived.StillTailTactics
namespace Go.Proofs.YtapojgbiboeaiaaGreatDoor
set_option linter.unusedVariables false
set_option linter.unusedSimpArgs false
open Go.RowKit Rng
/-- The ranges rise, apart from one another, behind 'last'. -/
def okFrom (last : Int) : List (Int × Int) → Bool
  | [] => true
  | r :: l => !(decide (r.1 ≤ last) || decide (r.2 ≤ r.1) || decide (65536 < r.2)) && okFrom r.2 l
def okR (l : List (Int × Int)) : Bool := okFrom (-1) l
theorem okFrom_cons (last : Int) (r : Int × Int) (l : List (Int × Int)) : okFrom last (r :: l) = (!(decide (r.1 ≤ last) || decide (r.2 ≤ r.1) || decide (65536 < r.2)) && okFrom r.2 l) := rfl
def lastTo (last : Int) (l : List (Int × Int)) (k : Nat) : Int := match k with | 0 => last | k + 1 => (l[k]?.getD (0, 0)).2
set_option maxRecDepth 100000 in
set_option maxHeartbeats 1000000 in
theorem valid_calls {B : Nat} {v : Value} {l : List (Int × Int)} {w : World} (h : Rd B w v l) (hB : B ≤ w.heap.size) :
    Calls Tryz.prog 17 #[v] w fun e w' => e = .returned (.bool (okR l)) ∧ Below w.heap.size w w' := by
  obtain ⟨ao, cap, rfl, h1, h2, h3⟩ := h
  have H3 := Lib.hid h3
  clear h3
  go_enter Tryz.func17, Tryz.ntmps17
  go_wp2
  go_loopw [3, 8] (fun x i wr => ∃ k : Nat, k ≤ l.length ∧ i = .int .i64 k ∧ x = .int .i64 (lastTo (-1) l k) ∧ okR l = okFrom (lastTo (-1) l k) (l.drop k) ∧ Below w.heap.size w wr) (fun _ i _ => l.length - (intOf i).toNat)
  case atStart => exact ⟨0, by omega, rfl, rfl, rfl, Below.refl _ _⟩
  case round =>
    obtain ⟨k, hk, rfl, rfl, hok, hBr⟩ := hrel
    by_cases hlt : k < l.length
    · obtain ⟨r, hr⟩ : ∃ r, l[k]? = some r := ⟨_, List.getElem?_eq_getElem hlt⟩
      obtain ⟨b, o, rfl, hb, c1, c2⟩ := H3.out k r hr
      have c1' := (World.cell?_of_block (hBr.block b (Nat.lt_of_lt_of_le hb hB))).trans c1
      have c2' := (World.cell?_of_block (hBr.block b (Nat.lt_of_lt_of_le hb hB))).trans c2
      have hlt' : (k : Int) < l.length := by omega
      have hd : l.drop k = r :: l.drop (k + 1) := by
        obtain ⟨h', e⟩ := List.getElem?_eq_some_iff.1 hr
        rw [List.drop_eq_getElem_cons h', e]
      have hok2 : okR l = (!(decide (r.1 ≤ lastTo (-1) l k) || decide (r.2 ≤ r.1) || decide (65536 < r.2)) && okFrom r.2 (l.drop (k + 1))) := by rw [hok, hd, okFrom_cons]
      have HO := Lib.hid hok2
      have HL := Lib.hid (show lastTo (-1) l (k + 1) = r.2 by simp [lastTo, hr])
      have HK := Lib.hid hlt
      have hw := wrap_succ hlt h1 h2
      have HW := Lib.hid hw
      clear hok hok2 hd hr hlt hw
      go_wp2
      case roundEnd =>
        rename_i hx
        have hlt := HK.out
        refine ⟨⟨k + 1, hlt, by rw [HW.out], by rw [HL.out], ?_, hBr.alloc hBr.size _⟩, ?_⟩
        · rw [HO.out, HL.out]
          have e1 : decide (r.1 ≤ lastTo (-1) l k) = false := decide_eq_false (by omega)
          have e2 : decide (r.2 ≤ r.1) = false := decide_eq_false (by omega)
          have e3 : decide (65536 < r.2) = false := decide_eq_false (by omega)
          rw [e1, e2, e3]
          rfl
        · rw [HW.out]; simp only [intOf]; omega
      all_goals
        have key : (!(decide (r.1 ≤ lastTo (-1) l k) || decide (r.2 ≤ r.1) || decide (65536 < r.2))) = false := by
          simp only [Bool.not_eq_false', Bool.or_eq_true, decide_eq_true_eq]
          omega
        go_ret
        refine ⟨?_, hBr.alloc hBr.size _⟩
        rw [HO.out, key]
        rfl
    · have hlt' : ¬ (k : Int) < l.length := by omega
      have e : l.drop k = [] := List.drop_eq_nil_of_le (by omega)
      have hok2 : okR l = true := by rw [hok, e]; rfl
      have HO := Lib.hid hok2
      clear hok hok2 e
      go_wp2
      go_ret
      exact ⟨by rw [HO.out]; rfl, hBr⟩
end Go.Proofs.YtapojgbiboeaiaaGreatDoor
