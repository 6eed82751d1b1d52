/- The reference's digits: a number's numeral. Condition: the number is from 1 to 65536. -/
import Derived.Test.YtapojgbiboeaiaaDoorDg
import Derived.IntWalk
import Derived.Laws.IdiomStrings
namespace Go.Proofs.YtapojgbiboeaiaaDoor
set_option linter.unusedVariables false
set_option linter.unusedSimpArgs false
open Go.RowKit Rng
/-- The digits that are not said yet. -/
def preD (n : Nat) : List UInt8 := if n = 0 then [] else Lib.decDigits n
theorem preD_step (n : Nat) (h : n ≠ 0) : preD (n / 10) ++ [UInt8.ofNat (48 + n % 10)] = Lib.decDigits n := by
  unfold preD
  conv => rhs; rw [Lib.decDigits]
  split
  · next h1 =>
    rw [dif_pos (by omega), List.nil_append, Nat.mod_eq_of_lt (by omega)]
  · next h1 => rw [dif_neg (by omega)]
def oneB (b : UInt8) : ByteArray := ⟨#[b]⟩
theorem oneB_app (b : UInt8) (s : ByteArray) : (oneB b ++ s).data.toList = b :: s.data.toList := by
  simp [oneB, ByteArray.data_append]
set_option maxRecDepth 100000 in
set_option maxHeartbeats 1000000 in
theorem digits_calls (u : Nat) (h1 : 1 ≤ u) (h2 : u ≤ 65536) (w : World) :
    Calls Tryd.prog 31 #[.int .i64 (u : Int)] w fun e w' => e = .returned (.string (decB u)) ∧ Below w.heap.size w w' := by
  have H1 := Lib.hid h1
  have H2 := Lib.hid h2
  clear h1 h2
  go_enter Tryd.func31, Tryd.ntmps31
  go_wp2
  go_loopw [0, 3, 4] (fun v t i wr => ∃ (k n : Nat) (s : ByteArray), k ≤ 5 ∧ i = .int .i64 k ∧ v = .int .i64 n ∧ t = .string s ∧ n < 10 ^ (5 - k) ∧ preD n ++ s.data.toList = Lib.decDigits u ∧ s.size ≤ k ∧ Below w.heap.size w wr) (fun _ _ i _ => 6 - (intOf i).toNat)
  case atStart => exact ⟨0, u, ⟨#[]⟩, by omega, rfl, rfl, rfl, by have := H2.out; omega, by unfold preD; rw [if_neg (by have := H1.out; omega)]; simp, Nat.le_refl _, Below.refl _ _⟩
  case round =>
    obtain ⟨k, n, s, hk, rfl, rfl, rfl, hn, hs, hz, hBr⟩ := hrel
    by_cases h0 : n = 0
    · subst h0
      have e : s.data.toList = Lib.decDigits u := by rw [← hs]; rfl
      have es : s = decB u := ba_ext e
      have hne : (s.toList == []) = false := by
        rw [ByteArray.toList_eq, e]
        cases hd : Lib.decDigits u with
        | nil => exact absurd hd (dec_ne u)
        | cons b l => rfl
      have HES := Lib.hid es
      have hk6 : (k : Int) < 6 := by omega
      clear e es hs hz hn
      go_wp2
      go_ret
      exact ⟨by rw [HES.out]; rfl, hBr⟩
    · have hk5 : k < 5 := by
        rcases Nat.lt_or_ge k 5 with h | h
        · exact h
        · rw [show 5 - k = 0 by omega] at hn; simp at hn; omega
      have hst := preD_step n h0
      obtain ⟨b, hb⟩ : ∃ b, UInt8.ofNat (48 + n % 10) = b := ⟨_, rfl⟩
      rw [hb] at hst
      have hbn : (b.toNat : Int) = 48 + (n : Int) % 10 := by rw [← hb, digit_nat (by omega)]; push_cast; omega
      obtain ⟨c, hc⟩ : ∃ c : Int, (n : Int) % 10 = c := ⟨_, rfl⟩
      obtain ⟨q, hq⟩ : ∃ q : Nat, n / 10 = q := ⟨_, rfl⟩
      have hp : preD n = Lib.decDigits n := by unfold preD; rw [if_neg h0]
      have HN := Lib.hid (show preD q ++ (oneB b ++ s).data.toList = Lib.decDigits u by rw [← hs, hp, ← hst, hq, oneB_app]; simp)
      have HLT := Lib.hid (show q < 10 ^ (5 - (k + 1)) by
        rw [show 5 - k = (5 - (k + 1)) + 1 by omega, Nat.pow_succ] at hn
        omega)
      have HSZ := Lib.hid (show (oneB b ++ s).size ≤ k + 1 by rw [ByteArray.size_append]; have : (oneB b).size = 1 := rfl; omega)
      have hnb : n < 100000 := Nat.lt_of_lt_of_le hn (Nat.pow_le_pow_right (n := 10) (by omega) (show 5 - k ≤ 5 by omega))
      have hcc : 0 ≤ c ∧ c < 10 := by omega
      have hn0 : 0 < (n : Int) := by omega
      have hk6 : (k : Int) < 6 := by omega
      have hsz : ¬ 9223372036854775807 < (oneB b).size + s.size := by have : (oneB b).size = 1 := rfl; omega
      have hm1 : (n : Int).tmod 10 = c := by rw [Int.tmod_eq_emod_of_nonneg (by omega)]; exact hc
      have hd1 : (n : Int).tdiv 10 = (q : Int) := by rw [Int.tdiv_eq_ediv_of_nonneg (by omega)]; omega
      have hw1 : wrap64 c = c := wrap_in _ (by omega)
      have hw2 : wrap64 (48 + c) = 48 + c := wrap_in _ (by clear hw1; omega)
      have hw3 : IntKind.u8.wrap (48 + c) = 48 + c := IntWalk.u8_in _ (by clear hw1 hw2; omega)
      have hw4 : wrap64 (q : Int) = (q : Int) := wrap_in _ (by clear hw1 hw2 hw3; omega)
      have hcv : (convert 78 9 (.slice (some ⟨wr.heap.size, 0, none⟩) 1 1)).run Tryd.prog (wr.alloc (.cells #[.int .u8 (48 + c)] 5)) = .ok (.string (oneB b)) (wr.alloc (.cells #[.int .u8 (48 + c)] 5)) := by
        have h := run_convert_bytes_back (P := Tryd.prog) (wr.alloc (.cells #[.int .u8 (48 + c)] 5)) 78 9 5 ⟨wr.heap.size, 0, none⟩ 1 [b] Tryd.underlying78 Tryd.underlying5 Tryd.underlying9 (fun j hj => by
          have hj0 : j = 0 := by simpa using hj
          subst hj0
          rw [new1 wr _ _ 0 (.int .u8 (48 + c)) rfl]
          simp only [List.getElem_cons_zero, Option.some.injEq, Value.int.injEq, true_and]
          clear hw1 hw2 hw3 hw4
          omega)
        exact h
      have HK := Lib.hid hk5
      have hBA := Below.alloc hBr hBr.size (.cells #[.int .u8 (48 + c)] 5)
      clear hst hb hbn hc hq hp hn hs hz hk h0 hk5 hnb hcc
      go_wp2
      go_roundw
      case rel => exact ⟨k + 1, q, oneB b ++ s, HK.out, by push_cast; rfl, by rw [hw4], rfl, HLT.out, HN.out, HSZ.out, hBA⟩
      case measure => have := HK.out; simp only [intOf]; omega
end Go.Proofs.YtapojgbiboeaiaaDoor
