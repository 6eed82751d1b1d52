/- The reference's Num: a number's decimal digits. Condition: the number is not negative and an int's. -/
import Derived.Test.YtjfpfmknngkgaaaDoorQt
import Derived.Test.YtjfpfmknngkgaaaDoorProg
import Derived.Lib.ItoaNum
import Derived.Lib.ItoaLen
import Derived.BigQuiet
import Derived.Deep.DeepCutAuto
import Derived.WalkSpells
import Derived.KernelRfl
namespace Go.Proofs.YtjfpfmknngkgaaaDoor
set_option linter.unusedVariables false
set_option linter.unusedSimpArgs false
open Go.RowKit Rng
def tenB : ByteArray := ⟨#[48, 49, 50, 51, 52, 53, 54, 55, 56, 57]⟩
theorem tenB_at : ∀ n : Nat, n < 10 → tenB.extract n (n + 1) = ⟨(Lib.decDigits n).toArray⟩ := fun n hn => by
  rw [Lib.decDigits_one hn]
  match n, hn with
  | 0, _ | 1, _ | 2, _ | 3, _ | 4, _ | 5, _ | 6, _ | 7, _ | 8, _ | 9, _ => decide
theorem decDigits_le {n : Nat} (h : n ≤ 9223372036854775807) : (Lib.decDigits n).length ≤ 21 := by
  have := Lib.itoa_length_le (n : Int) (by omega) (by omega)
  unfold Lib.itoa at this
  rw [if_neg (by omega)] at this
  simpa using this
theorem decDigits_big {n : Nat} (h : ¬ n < 10) : Lib.decDigits n = Lib.decDigits (n / 10) ++ [UInt8.ofNat (48 + n % 10)] := by rw [Lib.decDigits, dif_neg h]
set_option maxRecDepth 100000 in
set_option maxHeartbeats 1000000 in
theorem rnum_calls (m : Nat) : ∀ (n : Nat) (w : World), n ≤ m → n ≤ 9223372036854775807 →
    Calls Tryd.prog 25 #[.int .i64 n] w fun e w' => e = .returned (.string ⟨(Lib.decDigits n).toArray⟩) ∧ Below w.heap.size w w' := by
  induction m using Nat.strongRecOn with
  | _ m ih =>
    intro n w hn hmax
    by_cases h10 : n < 10
    · have h10' : (n : Int) < 10 := by omega
      have he := tenB_at n h10
      have HE := Lib.hid he
      clear he
      go_enter Tryd.func25, Tryd.ntmps25
      go_wp2
      go_ret

      exact ⟨congrArg (fun s => Ending.returned (.string s)) HE.out, Below.refl _ _⟩
    · have h10' : ¬ (n : Int) < 10 := by omega
      have hc := fun W => ih (n / 10) (by omega) (n / 10) W (Nat.le_refl _) (by omega)
      have hd : n % 10 < 10 := by omega
      have HC := Lib.hid hc
      clear hc
      have hl := decDigits_le (n := n / 10) (by omega)
      have hs1 : (⟨(Lib.decDigits (n / 10)).toArray⟩ : ByteArray).size ≤ 21 := by simpa [ByteArray.size] using hl
      have hs2 : ((⟨#[48, 49, 50, 51, 52, 53, 54, 55, 56, 57]⟩ : ByteArray).extract (n % 10) (n % 10 + 1)).size ≤ 10 := by simp [ByteArray.size_extract]; omega
      go_enter Tryd.func25, Tryd.ntmps25
      go_upto_region 4 with fail
      refine wp_region_quiet_below (by kernel_rfl) (by kernel_rfl) ?_
      repeat (go_big_quiet_step ((go_at_call 25; exact Calls.regrown_of (HC.out _))))
      refine wpQuiet_nil ?_
      rintro _ ⟨p, rfl⟩
      have hfin : (⟨(Lib.decDigits (n / 10)).toArray⟩ : ByteArray) ++ (⟨#[48, 49, 50, 51, 52, 53, 54, 55, 56, 57]⟩ : ByteArray).extract (n % 10) (n % 10 + 1) = ⟨(Lib.decDigits n).toArray⟩ := by
        have h1 := tenB_at (n % 10) hd
        unfold tenB at h1
        rw [h1, decDigits_big h10, Lib.decDigits_one hd]
        apply ByteArray.ext
        simp [ByteArray.data_append]
      have HF := Lib.hid hfin
      clear hfin
      go_wp2
      go_ret
      exact ⟨congrArg (fun s => Ending.returned (.string s)) HF.out, below_regrown _ _ _⟩
end Go.Proofs.YtjfpfmknngkgaaaDoor
