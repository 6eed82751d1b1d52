/- Of: the set of some lines, or an error where one is no line. Condition: at most 65536 numbers. -/
import Derived.Test.YtapojgbiboeaiaaGreatDoorJo
namespace Go.Proofs.YtapojgbiboeaiaaGreatDoor
set_option linter.unusedVariables false
set_option linter.unusedSimpArgs false
open Go.RowKit Rng
/-- The value v is a readable slice of the numbers l, in blocks under B. -/
def Rn (B : Nat) (w : World) (v : Value) (l : List Int) : Prop :=
  ∃ (ao : Option Addr) (cap : Nat), v = .slice ao l.length cap ∧ l.length ≤ cap ∧ cap ≤ maxLen ∧
    ∀ (i : Nat) (z : Int), l[i]? = some z → ∃ b o, ao = some ⟨b, o, none⟩ ∧ b < B ∧ w.cell? ⟨b, o + i, none⟩ = some (.int .i64 z)

def isLine (z : Int) : Bool := decide (0 ≤ z) && decide (z < 65536)
def lineR (z : Int) : Int × Int := (z, z + 1)
/-- What Of ends in. -/
def OfEnds (l : List Int) (base : Nat) (x : Value) (c : Int) (w' : World) : Prop :=
  (l.all isLine = true ∧ c = 0 ∧ ∃ m, m.Perm (l.map lineR) ∧ Rises m ∧ Own w' base x (putAll m)) ∨ (l.all isLine = false ∧ c = 2 ∧ x = .slice none 0 0)
set_option maxRecDepth 100000 in
set_option maxHeartbeats 1000000 in
theorem of_calls {B : Nat} {v : Value} {l : List Int} {w : World} (h : Rn B w v l) (hB : B ≤ w.heap.size) (hlen : l.length ≤ 65536) :
    Calls Tryz.prog 9 #[v] w fun e w' => (∃ x c, e = .returned (.tuple #[x, .int .i64 c]) ∧ OfEnds l w.heap.size x c w') ∧ Below w.heap.size w w' := by
  obtain ⟨ao, cap, rfl, h1, h2, h3⟩ := h
  have H3 := Lib.hid h3
  have HLEN := Lib.hid hlen
  obtain ⟨i0, hi, hz0, hz1, hz2⟩ := info_rg
  clear h3 hlen
  go_enter Tryz.func9, Tryz.ntmps9
  go_wp2
  go_loopw [4, 9] (fun v i wr => ∃ k : Nat, k ≤ l.length ∧ i = .int .i64 k ∧ (l.take k).all isLine = true ∧ Own wr w.heap.size v ((l.take k).map lineR) ∧ Below w.heap.size w wr) (fun _ i _ => l.length - (intOf i).toNat)
  case atStart => exact ⟨0, Nat.zero_le _, rfl, rfl, World.ownsRow_nil _ _ _ _, Below.refl _ _⟩
  case round =>
    obtain ⟨k, hk, rfl, hall, hO, hBr⟩ := hrel
    by_cases hlt : k < l.length
    · obtain ⟨z, hz⟩ : ∃ z, l[k]? = some z := ⟨_, List.getElem?_eq_getElem hlt⟩
      obtain ⟨b, o, rfl, hb, c1⟩ := H3.out k z hz
      have c1' := (World.cell?_of_block (hBr.block b (Nat.lt_of_lt_of_le hb hB))).trans c1
      have hlt' : (k : Int) < l.length := by omega
      have HK := Lib.hid hlt
      have HW := Lib.hid (wrap_succ hlt h1 h2)
      have HT : l.take (k + 1) = l.take k ++ [z] := by rw [List.take_add_one, hz]; rfl
      have hlk : ((l.take k).map lineR).length = k := by simp; omega
      have HNO := Lib.hid (show isLine z = false → l.all isLine = false from fun h => List.all_eq_false.2 ⟨z, List.mem_of_getElem? hz, by simp [h]⟩)
      have HYES := Lib.hid (show isLine z = true → (l.take (k + 1)).all isLine = true from fun h => by rw [HT, List.all_append, hall]; simp [h])
      have HMAP := Lib.hid (show (l.take (k + 1)).map lineR = (l.take k).map lineR ++ [lineR z] by rw [HT, List.map_append]; rfl)
      have HO := Lib.hid hO
      have HLK := Lib.hid hlk
      have hszr := hBr.size
      have E1 := Lib.hid (show ((l.take k).map lineR).length + 1 ≤ maxLen by have := HLEN.out; rw [hlk]; unfold maxLen; omega)
      have E2 := Lib.hid (show (((l.take k).map lineR).length + 1) * 16 ≤ 140737488355328 by have := HLEN.out; rw [hlk]; omega)
      clear hz hlt HT hlk hO hall c1
      by_cases g1 : z < 0
      · have HX := Lib.hid (HNO.out (by unfold isLine; rw [decide_eq_false (by omega)]; rfl))
        go_wp2
        go_ret2
        exact ⟨⟨_, _, rfl, .inr ⟨HX.out, rfl, rfl⟩⟩, hBr⟩
      · by_cases g2 : 65536 ≤ z
        · have HX := Lib.hid (HNO.out (by unfold isLine; rw [decide_eq_false (show ¬ z < 65536 by omega), Bool.and_false]))
          go_wp2
          go_ret2
          exact ⟨⟨_, _, rfl, .inr ⟨HX.out, rfl, rfl⟩⟩, hBr⟩
        · have HX := Lib.hid (HYES.out (by unfold isLine; rw [decide_eq_true (show 0 ≤ z by omega), decide_eq_true (show z < 65536 by omega)]; rfl))
          have HWZ := Lib.hid (show wrap64 (z + 1) = z + 1 from wrap_in _ (by omega))
          go_upto_region 7 with fail
          have E3 := Lib.hid (show w.heap.size ≤ wr.heap.size + 1 from Nat.le_trans hszr (Nat.le_succ _))
          clear g1 g2
          go_wp2_with (at_builtin; refine wpList_append_own _ rfl _ _ 22 rfl w.heap.size 28 i0 _ 2 16 Tryz.underlying22 hi hz0 hz1 hz2 rfl (by decide) _ _ _ rfl (HO.out.alloc _) ⟨wr.heap.size, 0, none⟩ 1 1 [.int .i64 z, _] rfl rfl (new2 wr _ _ _) (by simp [Value.oneCell']) E1.out E2.out (by simpa using E3.out) ?_; intro v' w1 hown' hgrow hnil')
          have hlt := HK.out
          go_roundw
          case rel =>
            have ho : Own w1 w.heap.size v' ((l.take k).map lineR ++ [lineR z]) := own_more (r := lineR z) (by have h := hown'; simp only [HWZ.out] at h; exact h)
            rw [← HMAP.out] at ho
            exact ⟨k + 1, hlt, by rw [HW.out], HX.out, ho, (hBr.alloc hszr _).grown hgrow (by simpa using E3.out) (fun j ej => (HO.out.lt j ej).1)⟩
          case measure => rw [HW.out]; simp only [intOf]; omega
    · have hlt' : ¬ (k : Int) < l.length := by omega
      rw [List.take_of_length_le (by omega)] at hall hO
      have HJ := Lib.hid (joined_calls (own_rd hO) (Nat.le_refl _) (by rw [List.length_map]; exact HLEN.out))
      have HX := Lib.hid hall
      clear hO hall
      go_wp2_with (go_at_call 16; refine HJ.out.mono ?_; rintro e w5 ⟨x, mm, rfl, hp, hri, hO5, hB5⟩)
      go_ret2
      exact ⟨⟨x, 0, rfl, .inl ⟨HX.out, rfl, mm, hp, hri, own_mono hO5 hBr.size⟩⟩, hBr.trans (hB5.mono hBr.size)⟩
end Go.Proofs.YtapojgbiboeaiaaGreatDoor
