/- number: what a text's number is, and whether it is one from 1 to 65536, spelt as Itoa spells it. Conditions: the library's variables are as they are laid. -/
import Derived.Test.YtapojgbiboeaiaaGreatDoorShelf
import Derived.Test.YtapojgbiboeaiaaGreatDoorOw
import Derived.Lib.LaidTab
import Derived.Shelf.SlSorted.Search
import Derived.Lib.AppendIntMem
import Derived.Lib.SmallJoins
import Derived.WalkSpells
namespace Go.Proofs.YtapojgbiboeaiaaGreatDoor
set_option linter.unusedVariables false
set_option linter.unusedSimpArgs false
open Go.RowKit Go.Shelf Rng
/-- An error's variable of the library. -/
def ErrAt (g : Nat) (w : World) : Prop := ∃ ev : Value, w.cell? ⟨g, 0, none⟩ = some ev ∧ (ev = .nilIface ∨ ∃ te pe, ev = .iface te pe)
/-- What of the library's variables is read: it lies under block B. -/
def Env (B : Nat) (w : World) : Prop :=
  (0 < B ∧ 1 < B ∧ 2 < B) ∧ (∃ m : Int, w.cell? ⟨0, 0, none⟩ = some (.int .i64 m)) ∧ ErrAt 1 w ∧ ErrAt 2 w ∧ Lib.TabBelow Tryz.prog B w "internal/strconv.uint64pow10" .u64 Lib.pow10Tab
theorem Env.later {B : Nat} {w w' : World} (h : Env B w) (hb : Below B w w') : Env B w' := by
  obtain ⟨⟨b0, b1, b2⟩, ⟨m, h1⟩, ⟨e1, c1, d1⟩, ⟨e2, c2, d2⟩, h4⟩ := h
  exact ⟨⟨b0, b1, b2⟩, ⟨m, (hb.cell (p := ⟨0, 0, none⟩) b0).trans h1⟩, ⟨e1, (hb.cell (p := ⟨1, 0, none⟩) b1).trans c1, d1⟩, ⟨e2, (hb.cell (p := ⟨2, 0, none⟩) b2).trans c2, d2⟩, fun x hx => h4 x (hb.trans hx)⟩
theorem itoa_calls {B : Nat} (n : Int) (hn : -9223372036854775808 ≤ n ∧ n ≤ 9223372036854775807) (w : World) (hB : B ≤ w.heap.size) (ht : Env B w) :
    Calls Tryz.prog 20 #[.int .i64 n] w fun e w' => e = .returned (.string ⟨(Lib.itoa n).toArray⟩) ∧ Below w.heap.size w w' :=
  (Tryz.strconv_Itoa n hn.1 hn.2 w ht.2.2.2.2.here).mono fun _ _ ⟨h1, k, os, h2⟩ => ⟨h1, by rw [h2]; exact below_grown_sl _ _ _ _ (Nat.le_refl _)⟩
/-- Atoi, whatever the text: the number, and whether there is no error. -/
def atV (s : ByteArray) : Int := match Lib.atoiAll s.data.toList with | .ok v => v | .syntax => 0 | .range => Lib.atoiSat s.data.toList
def atOk (s : ByteArray) : Bool := match Lib.atoiAll s.data.toList with | .ok _ => true | _ => false
theorem atoi_calls {B : Nat} (s : ByteArray) (hs : s.size ≤ 100000) (w : World) (hB : B ≤ w.heap.size) (ht : Env B w) :
    Calls Tryz.prog 28 #[.string s] w fun e w' => ∃ x, e = .returned (.tuple #[.int .i64 (atV s), x]) ∧ (if atOk s then x = .nilIface else ∃ te pe, x = .iface te pe) ∧ Below w.heap.size w w' := by
  obtain ⟨_, _, ⟨e1, c1, d1⟩, ⟨e2, c2, d2⟩, _⟩ := ht
  unfold atV atOk
  cases h : Lib.atoiAll s.data.toList with
  | ok v =>
    refine (Tryz.strconv_Atoi_ok s (by omega) v h w).mono fun e w' ⟨he, hw⟩ => ⟨_, he, by simp, ?_⟩
    rcases hw with rfl | ⟨t, rfl⟩
    · exact Below.refl _ _
    · exact Go.Joins.below_bytesWorld _ _ _ _ (Nat.le_refl _)
  | «syntax» => exact (Tryz.strconv_Atoi_syntax s (by omega) h e1 w c1 d1).mono fun e w' ⟨N, he, _, _, hb⟩ => ⟨_, he, by simp, hb⟩
  | range => exact (Tryz.strconv_Atoi_range s (by omega) h e2 w c2 d2).mono fun e w' ⟨N, he, _, _, hb⟩ => ⟨_, he, by simp, hb⟩
/-- Is a text a number from 1 to 65536, spelt as Itoa spells it? -/
def numB (s : ByteArray) : Bool := atOk s && decide (1 ≤ atV s) && decide (atV s ≤ 65536) && decide (Lib.itoa (atV s) = s.data.toList)
set_option maxRecDepth 100000 in
set_option maxHeartbeats 1000000 in
theorem number_calls {B : Nat} (s : ByteArray) (hs : s.size ≤ 100000) (w : World) (hB : B ≤ w.heap.size) (ht : Env B w) :
    Calls Tryz.prog 15 #[.string s] w fun e w' => e = .returned (.tuple #[.int .i64 (atV s), .bool (numB s)]) ∧ Below w.heap.size w w' := by
  have HA := Lib.hid (atoi_calls s hs w hB ht)
  have HI := Lib.hid (fun (w' : World) (hb : Below w.heap.size w w') (hn : -9223372036854775808 ≤ atV s ∧ atV s ≤ 9223372036854775807) => itoa_calls (B := B) (atV s) hn w' (Nat.le_trans hB hb.size) (ht.later (hb.mono hB)))
  have HN := Lib.hid (show numB s = (atOk s && decide (1 ≤ atV s) && decide (atV s ≤ 65536) && decide (Lib.itoa (atV s) = s.data.toList)) from rfl)
  clear ht hs
  obtain ⟨v, hv⟩ : ∃ v, atV s = v := ⟨_, rfl⟩
  rw [hv] at HA HI HN
  rw [hv]
  clear hv
  go_enter Tryz.func15, Tryz.ntmps15
  cases ho : atOk s with
  | false =>
    rw [ho] at HA HN
    have HR := Lib.hid (show numB s = false from HN.out)
    clear ho
    go_upto_region 2 with (go_at_call 28; refine HA.out.mono ?_; rintro e w1 ⟨x, rfl, hx, hB1⟩)
    simp only [Bool.false_eq_true, if_false] at hx
    obtain ⟨te, pe, hx2⟩ := hx
    subst hx2
    go_wp2
    go_ret2
    exact ⟨by rw [HR.out]; rfl, hB1⟩
  | true =>
    rw [ho] at HA HN
    clear ho
    go_upto_region 2 with (go_at_call 28; refine HA.out.mono ?_; rintro e w1 ⟨x, rfl, hx, hB1⟩)
    simp only [if_true] at hx
    subst hx
    by_cases h1 : 1 ≤ v
    · by_cases h2 : v ≤ 65536
      · have HI2 := Lib.hid (HI.out w1 hB1 (by omega))
        have HR := Lib.hid (show numB s = decide (Lib.itoa v = s.data.toList) by rw [HN.out, decide_eq_true h1, decide_eq_true h2]; simp)
        go_wp2_with (go_at_call 20; refine HI2.out.mono ?_; rintro e w2 ⟨rfl, hB2⟩)
        go_ret2
        have e1 : (Lib.itoa v == s.toList) = decide (Lib.itoa v = s.data.toList) := by rw [ByteArray.toList_eq]; exact Bool.beq_eq_decide_eq _ _
        exact ⟨by rw [HR.out, ← e1]; rfl, hB1.trans (hB2.mono hB1.size)⟩
      · have HR := Lib.hid (show numB s = false by rw [HN.out, decide_eq_false h2]; simp)
        go_wp2
        go_ret2
        exact ⟨by rw [HR.out]; rfl, hB1⟩
    · have HR := Lib.hid (show numB s = false by rw [HN.out, decide_eq_false h1]; simp)
      go_wp2
      go_ret2
      exact ⟨by rw [HR.out]; rfl, hB1⟩
end Go.Proofs.YtapojgbiboeaiaaGreatDoor
