/- SpansTold's walk: whatever the text and ranges, the law returns true. Conditions: the ranges are a readable slice; the library's variables are as they are laid. -/
import Derived.Test.YtapojgbiboeaiaaDoorRp
import Derived.Test.YtapojgbiboeaiaaDoorRt
import Derived.Test.YtapojgbiboeaiaaDoorLc
namespace Go.Proofs.YtapojgbiboeaiaaDoor
set_option linter.unusedVariables false
set_option linter.unusedSimpArgs false
open Go.RowKit Rng
/-- What a text says. -/
def plB (s : ByteArray) : List (Int × Int) := if s.size = 0 then [] else if (partsOf s).all okP then setUp (mem (rgs s)) 65536 else []
def pcB (s : ByteArray) : Int := if s.size = 0 then 0 else if (partsOf s).all okP then 0 else 190
theorem fit_rgs {s : ByteArray} (h : (partsOf s).all okP = true) : ∀ r ∈ rgs s, Fit r := by
  intro r hr
  unfold rgs at hr
  obtain ⟨x, hx, rfl⟩ := List.mem_map.1 hr
  exact (rgP_ref (List.all_eq_true.1 h x hx)).2
theorem parse_any {B : Nat} (s : ByteArray) (hs : s.size ≤ 1000) (w : World) (hB : B ≤ w.heap.size) (ht : Env B w) : Calls Tryd.prog 8 #[.string s] w (Gives w (plB s) (pcB s)) :=
  (parse_calls s hs w hB ht).mono fun e w' ⟨⟨x, c, h1, h2⟩, h3⟩ => by
    refine ⟨x, ?_, ?_, h3⟩
    · rw [h1]
      rcases h2 with ⟨a, rfl, _⟩ | ⟨a, b, rfl, _⟩ | ⟨a, b, rfl, _⟩ <;> simp [pcB, a, *]
    · rcases h2 with ⟨a, _, rfl⟩ | ⟨a, b, _, m, hp, hr, ho⟩ | ⟨a, b, _, rfl⟩
      · unfold plB
        rw [if_pos a]
        exact World.ownsRow_nil _ _ _ _
      · have e : plB s = putAll m := by
          unfold plB
          rw [if_neg a, b, if_pos rfl]
          exact (joined_law hp hr (fit_rgs b) (f := mem (rgs s)) fun i _ => (mem_iff (rgs s) i).symm).symm
        rw [e]
        exact ho
      · unfold plB
        rw [if_neg a, b, if_neg (by simp)]
        exact World.ownsRow_nil _ _ _ _
theorem rparse_any (s : ByteArray) (hs : s.size ≤ 1000) (w : World) : Calls Tryd.prog 9 #[.string s] w (Gives w (plB s) (pcB s)) :=
  (rparse_calls s hs w).mono fun e w' ⟨⟨x, c, h1, h2⟩, h3⟩ => by
    refine ⟨x, ?_, ?_, h3⟩
    · rw [h1]
      rcases h2 with ⟨a, rfl, _⟩ | ⟨a, b, rfl, _⟩ | ⟨a, b, rfl, _⟩ <;> simp [pcB, a, *]
    · rcases h2 with ⟨a, _, rfl⟩ | ⟨a, b, _, ho⟩ | ⟨a, b, _, rfl⟩
      · unfold plB
        rw [if_pos a]
        exact World.ownsRow_nil _ _ _ _
      · unfold plB
        rw [if_neg a, b, if_pos rfl]
        exact ho
      · unfold plB
        rw [if_neg a, b, if_neg (by simp)]
        exact World.ownsRow_nil _ _ _ _
def tlR (l : List (Int × Int)) : ByteArray := if okR l then textOf l else ⟨#[]⟩
def tcR (l : List (Int × Int)) : Int := if okR l then 0 else 2
theorem text_any {B C : Nat} {v : Value} {l : List (Int × Int)} {w : World} (h : Rd B w v l) (hB : B ≤ w.heap.size) (hC : C ≤ w.heap.size) (ht : Env C w) (hlen : l.length ≤ 100) :
    Calls Tryd.prog 10 #[v] w fun e w' => e = .returned (.tuple #[.string (tlR l), .int .i64 (tcR l)]) ∧ Below w.heap.size w w' := by
  cases hl : okR l with
  | false => simp only [tlR, tcR, hl]; exact text_no h hB hl
  | true => simp only [tlR, tcR, hl]; exact text_ok h hB hC ht hl hlen
theorem rtext_any {B : Nat} {v : Value} {l : List (Int × Int)} {w : World} (h : Rd B w v l) (hB : B ≤ w.heap.size) (hlen : l.length ≤ 100) :
    Calls Tryd.prog 11 #[v] w fun e w' => e = .returned (.tuple #[.string (tlR l), .int .i64 (tcR l)]) ∧ Below w.heap.size w w' := by
  cases hl : okR l with
  | false => simp only [tlR, tcR, hl]; exact rtext_no h hB hl
  | true => simp only [tlR, tcR, hl]; exact rtext_ok h hB hl hlen
set_option maxRecDepth 100000 in
set_option maxHeartbeats 2000000 in
theorem told_true {B : Nat} (s : ByteArray) {va : Value} {l : List (Int × Int)} {W : World} (ha : RIn W va l) (hB : B ≤ W.heap.size) (ht : Env B W) :
    Calls Tryd.prog 3 #[.string s, va] W fun e W' => e = .returned (.bool true) ∧ Below W.heap.size W W' := by
  have HT := Lib.hid (fun (w' : World) (b : Below W.heap.size W w') => ht.later (b.mono hB))
  have HBB := Lib.hid (fun (w' : World) (b : Below W.heap.size W w') => Nat.le_trans hB b.size)
  have HA := Lib.hid ha
  obtain ⟨a1, c1, rfl, q1⟩ := ha
  obtain ⟨p, hp⟩ : ∃ p, l.length = p := ⟨_, rfl⟩
  obtain ⟨n, hn⟩ : ∃ n, s.size = n := ⟨_, rfl⟩
  rw [hp] at HA ⊢
  have HP := Lib.hid hp
  have HN := Lib.hid hn
  clear q1 hp ht hB
  go_enter Tryd.func3, Tryd.ntmps3
  by_cases g1 : 1000 < n
  · have g1' : 1000 < (n : Int) := by omega
    go_wp2
    go_ret
    exact ⟨rfl, Below.refl _ _⟩
  have g1' : ¬ 1000 < (n : Int) := by omega
  by_cases g2 : 100 < p
  · have g2' : 100 < (p : Int) := by omega
    go_wp2
    go_ret
    exact ⟨rfl, Below.refl _ _⟩
  have g2' : ¬ 100 < (p : Int) := by omega
  go_upto_region 3 with fail
  have HSZ := Lib.hid (show s.size ≤ 1000 by omega)
  have HLL := Lib.hid (show l.length ≤ 100 by rw [HP.out]; omega)
  clear g1 g2 g1' g2' hn
  have K1 := Lib.hid (parse_any s HSZ.out W (HBB.out _ (Below.refl _ _)) (HT.out _ (Below.refl _ _)))
  go_upto_region 4 with (go_at_call 8; refine K1.out.mono ?_; rintro e w1 ⟨x1, rfl, o1, b1⟩)
  have HA := Lib.hid (HA.out.later b1)
  have R1 := Lib.hid (show RIn w1 x1 (plB s) from own_rd o1)
  have HW := Lib.hid b1
  clear K1 o1 b1
  have K2 := Lib.hid (rparse_any s HSZ.out w1)
  go_upto_region 5 with (go_at_call 9; refine K2.out.mono ?_; rintro e w2 ⟨x2, rfl, o2, b2⟩)
  have HA := Lib.hid (HA.out.later b2)
  have R1 := Lib.hid (R1.out.later b2)
  have R2 := Lib.hid (show RIn w2 x2 (plB s) from own_rd o2)
  have HW := Lib.hid (HW.out.trans (b2.mono HW.out.size))
  clear K2 o2 b2
  have K3 := Lib.hid (text_any HA.out (Nat.le_refl _) (HBB.out _ HW.out) (HT.out _ HW.out) HLL.out)
  obtain ⟨T, hT⟩ : ∃ T, tlR l = T := ⟨_, rfl⟩
  obtain ⟨c, hc⟩ : ∃ c, tcR l = c := ⟨_, rfl⟩
  obtain ⟨d, hd⟩ : ∃ d, pcB s = d := ⟨_, rfl⟩
  rw [hT, hc] at K3
  rw [hd]
  have HTT := Lib.hid (And.intro hT hc)
  clear hT hc hd
  go_upto_region 6 with (go_at_call 10; refine K3.out.mono ?_; rintro e w3 ⟨rfl, b3⟩)
  have HA := Lib.hid (HA.out.later b3)
  have R1 := Lib.hid (R1.out.later b3)
  have R2 := Lib.hid (R2.out.later b3)
  have HW := Lib.hid (HW.out.trans (b3.mono HW.out.size))
  clear K3 b3
  have K4 := Lib.hid (rtext_any HA.out (Nat.le_refl _) HLL.out)
  rw [HTT.out.1, HTT.out.2] at K4
  go_upto_region 7 with (go_at_call 11; refine K4.out.mono ?_; rintro e w4 ⟨rfl, b4⟩)
  have S1 := Lib.hid (same_in (R1.out.later b4) (R2.out.later b4))
  have HW := Lib.hid (HW.out.trans (b4.mono HW.out.size))
  clear K4 b4 HA R1 R2
  go_wp2_with (go_at_call 12; refine S1.out.mono ?_; rintro e w5 ⟨rfl, b5⟩)
  go_ret
  exact ⟨rfl, HW.out.trans (b5.mono HW.out.size)⟩
end Go.Proofs.YtapojgbiboeaiaaDoor
