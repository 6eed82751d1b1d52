/- The reference's number: the number that a text's digits say, or 0; it answers as Parse's. No condition. -/
import Derived.Test.YtapojgbiboeaiaaDoorDg
import Derived.IntWalk
namespace Go.Proofs.YtapojgbiboeaiaaDoor
set_option linter.unusedVariables false
set_option linter.unusedSimpArgs false
open Go.RowKit Rng
/-- The number that digits say. -/
def digN (l : List UInt8) : Nat := l.foldl (fun n b => n * 10 + (b.toNat - 48)) 0
def isDig (b : UInt8) : Bool := decide (48 ≤ b.toNat) && decide (b.toNat ≤ 57)
theorem digN_snoc (l : List UInt8) (b : UInt8) : digN (l ++ [b]) = digN l * 10 + (b.toNat - 48) := by simp [digN]
theorem isDig_iff (b : UInt8) : isDig b = true ↔ 48 ≤ b.toNat ∧ b.toNat ≤ 57 := by simp [isDig]
theorem snocRec {p : List UInt8 → Prop} (nil : p []) (snoc : ∀ l b, p l → p (l ++ [b])) : ∀ l, p l := by
  intro l
  have h : ∀ r : List UInt8, p r.reverse := by
    intro r
    induction r with
    | nil => exact nil
    | cons b r ih => rw [List.reverse_cons]; exact snoc _ _ ih
  have := h l.reverse
  rwa [List.reverse_reverse] at this
theorem digN_lt (l : List UInt8) (h : l.all isDig = true) : digN l < 10 ^ l.length := by
  induction l using snocRec with
  | nil => simp [digN]
  | snoc l b ih =>
    rw [List.all_append, Bool.and_eq_true] at h
    have hb := (isDig_iff b).1 (by simpa using h.2)
    have := ih h.1
    rw [digN_snoc, List.length_append, List.length_singleton, Nat.pow_succ]
    omega
theorem digN_dec (u : Nat) : digN (Lib.decDigits u) = u := by
  induction u using Nat.strongRecOn with
  | _ u ih =>
    rw [Lib.decDigits]
    split
    · next h => simp [digN]; omega
    · next h =>
      rw [digN_snoc, ih (u / 10) (by omega), digit_nat (by omega)]
      omega
theorem byte_ext {a b : UInt8} (h : a.toNat = b.toNat) : a = b := UInt8.toNat_inj.1 h
theorem dec_of (l : List UInt8) (h : l.all isDig = true) (hne : l ≠ []) (h0 : l.head? ≠ some 48) : Lib.decDigits (digN l) = l ∧ 1 ≤ digN l := by
  induction l using snocRec with
  | nil => exact absurd rfl hne
  | snoc l b ih =>
    rw [List.all_append, Bool.and_eq_true] at h
    have hb := (isDig_iff b).1 (by simpa using h.2)
    rw [digN_snoc]
    by_cases hl : l = []
    · subst hl
      have hb0 : b.toNat ≠ 48 := fun e => h0 (by
        have : b = 48 := byte_ext e
        rw [this]; rfl)
      have e0 : digN [] = 0 := rfl
      rw [e0, Nat.zero_mul, Nat.zero_add, Lib.decDigits, dif_pos (by omega)]
      refine ⟨?_, by omega⟩
      rw [List.nil_append]
      congr 1
      exact byte_ext (by rw [digit_nat (by omega)]; omega)
    · have hh : l.head? ≠ some 48 := by
        intro e
        apply h0
        cases l with
        | nil => exact absurd rfl hl
        | cons a l => simpa using e
      obtain ⟨i1, i2⟩ := ih h.1 hl hh
      rw [Lib.decDigits, dif_neg (by omega)]
      have e1 : (digN l * 10 + (b.toNat - 48)) / 10 = digN l := by omega
      have e2 : (digN l * 10 + (b.toNat - 48)) % 10 = b.toNat - 48 := by omega
      rw [e1, e2, i1]
      refine ⟨?_, by omega⟩
      congr 2
      exact byte_ext (by rw [digit_nat (by omega)]; omega)
theorem dec_head (u : Nat) (h : 1 ≤ u) : (Lib.decDigits u).head? ≠ some 48 := by
  induction u using Nat.strongRecOn with
  | _ u ih =>
    rw [Lib.decDigits]
    split
    · next h1 =>
      intro e
      simp only [List.head?_cons, Option.some.injEq] at e
      have := congrArg UInt8.toNat e
      rw [digit_nat h1] at this
      have h48 : (48 : UInt8).toNat = 48 := rfl
      omega
    · next h1 =>
      have := ih (u / 10) (by omega) (by omega)
      intro e
      apply this
      have hne := dec_ne (u / 10)
      cases hd : Lib.decDigits (u / 10) with
      | nil => exact absurd hd hne
      | cons a l => rw [hd] at e; simpa using e
/-- What the reference's number answers. -/
def refN (s : ByteArray) : Int := if numB s then atV s else 0
theorem numB_spec {s : ByteArray} (h : numB s = true) : ∃ u : Nat, 1 ≤ u ∧ u ≤ 65536 ∧ s.data.toList = Lib.decDigits u ∧ atV s = u := by
  unfold numB at h
  simp only [Bool.and_eq_true, decide_eq_true_eq] at h
  obtain ⟨⟨⟨_, h1⟩, h2⟩, h3⟩ := h
  obtain ⟨u, hu⟩ : ∃ u : Nat, atV s = u := ⟨(atV s).toNat, by omega⟩
  rw [hu] at h1 h2 h3
  exact ⟨u, by omega, by omega, by rw [← h3, Lib.itoa_nonneg], hu⟩
theorem refN_no {s : ByteArray} (h : s.data.toList = [] ∨ 5 < s.data.toList.length ∨ s.data.toList.head? = some 48 ∨ s.data.toList.all isDig = false ∨ 65536 < digN s.data.toList) : refN s = 0 := by
  unfold refN
  cases hn : numB s with
  | false => rfl
  | true =>
    exfalso
    obtain ⟨u, h1, h2, h3, _⟩ := numB_spec hn
    rw [h3] at h
    rcases h with h | h | h | h | h
    · exact dec_ne u h
    · have := dec_len 4 u (by omega); omega
    · exact dec_head u h1 h
    · rw [List.all_eq_false] at h
      obtain ⟨b, hb, hd⟩ := h
      have := dec_digit u hb
      exact hd ((isDig_iff b).2 this)
    · rw [digN_dec] at h; omega
theorem refN_ok {s : ByteArray} (hne : s.data.toList ≠ []) (h0 : s.data.toList.head? ≠ some 48) (hd : s.data.toList.all isDig = true) (hv : digN s.data.toList ≤ 65536) : refN s = digN s.data.toList := by
  obtain ⟨h1, h2⟩ := dec_of _ hd hne h0
  have e : s = decB (digN s.data.toList) := ba_ext (by rw [decB]; exact h1.symm)
  have hn := num_dec _ h2 hv
  rw [← e] at hn
  unfold refN
  rw [hn.1, if_pos rfl, hn.2]
theorem all_take {l : List UInt8} {k : Nat} {b : UInt8} (hb : l[k]? = some b) (h : (l.take k).all isDig = true) : (l.take (k + 1)).all isDig = isDig b := by
  rw [List.take_add_one, hb, List.all_append, h]
  simp
set_option maxRecDepth 100000 in
set_option maxHeartbeats 1000000 in
theorem rnumber_calls (s : ByteArray) (w : World) (hmax : s.size ≤ 100000) :
    Calls Tryd.prog 24 #[.string s] w fun e w' => e = .returned (.int .i64 (refN s)) ∧ Below w.heap.size w w' := by
  obtain ⟨n, hn⟩ : ∃ n, s.size = n := ⟨_, rfl⟩
  have hl : s.data.toList.length = n := by rw [← hn]; exact (Lib.size_eq s).symm
  have HL := Lib.hid hl
  have hget : ∀ k b, s.data.toList[k]? = some b → ∃ h : k < s.size, s[k]'h = b := fun k b hb => by
    obtain ⟨h1, h2⟩ := List.getElem?_eq_some_iff.1 hb
    exact ⟨by rw [hn, ← hl]; exact h1, by rw [← h2]; rfl⟩
  have HG := Lib.hid hget
  clear hget hl
  go_enter Tryd.func24, Tryd.ntmps24
  by_cases h0 : n = 0
  · have HX := Lib.hid (refN_no (s := s) (.inl (List.eq_nil_of_length_eq_zero (by rw [HL.out, h0]))))
    subst h0
    clear HG
    go_wp2
    go_ret
    exact ⟨by rw [HX.out]; rfl, Below.refl _ _⟩
  by_cases h5 : 5 < n
  · have HX := Lib.hid (refN_no (s := s) (.inr (.inl (by rw [HL.out]; exact h5))))
    have h5' : 5 < (n : Int) := by omega
    have h0' : ¬ (n : Int) = 0 := by omega
    clear HG
    go_wp2
    go_ret
    exact ⟨by rw [HX.out]; rfl, Below.refl _ _⟩
  obtain ⟨b0, hb0⟩ : ∃ b, s.data.toList[0]? = some b := ⟨_, List.getElem?_eq_getElem (by rw [HL.out]; omega)⟩
  obtain ⟨p0, hg0⟩ := HG.out 0 b0 hb0
  have hh0 : s.data.toList.head? = some b0 := by rw [List.head?_eq_getElem?]; exact hb0
  obtain ⟨c0, hc0⟩ : ∃ c : Int, (b0.toNat : Int) = c := ⟨_, rfl⟩
  have hgc : (((s[0]'p0).toNat : Nat) : Int) = c0 := by rw [hg0]; exact hc0
  have h5' : ¬ 5 < (n : Int) := by omega
  have h0' : ¬ (n : Int) = 0 := by omega
  have h0p : 0 < (n : Int) := by omega
  by_cases h48 : c0 = 48
  · have HX := Lib.hid (refN_no (s := s) (.inr (.inr (.inl (by rw [hh0]; congr 1; exact byte_ext (by have h48 : (48 : UInt8).toNat = 48 := rfl; omega))))))
    subst h48
    clear hb0 hh0 hc0 hg0 HG
    go_wp2
    go_ret
    exact ⟨by rw [HX.out]; rfl, Below.refl _ _⟩
  have hq0 : ((n : Int) == 0) = false := by simpa using h0'
  have hq48 : (c0 == 48) = false := by simpa using h48
  have HH0 := Lib.hid (show s.data.toList.head? ≠ some 48 by rw [hh0]; intro e; simp only [Option.some.injEq] at e; subst e; exact h48 hc0.symm)
  have H5 := Lib.hid h5
  have H0 := Lib.hid h0
  clear hb0 hh0 hc0 hg0
  go_upto_region 4 with fail
  clear hgc h5' h0' h0p h48 h0 h5 hq0 hq48
  go_wp2
  go_loopw [3, 4] (fun v i wr => ∃ k : Nat, k ≤ n ∧ i = .int .i64 k ∧ v = .int .i64 (digN (s.data.toList.take k) : Nat) ∧ (s.data.toList.take k).all isDig = true ∧ wr = w) (fun _ i _ => n - (intOf i).toNat)
  case atStart => exact ⟨0, Nat.zero_le _, rfl, rfl, rfl, rfl⟩
  case round =>
    obtain ⟨k, hk, rfl, rfl, hd, rfl⟩ := hrel
    by_cases hlt : k < n
    · obtain ⟨b, hb⟩ : ∃ b, s.data.toList[k]? = some b := ⟨_, List.getElem?_eq_getElem (by rw [HL.out]; exact hlt)⟩
      obtain ⟨p, hg⟩ := HG.out k b hb
      obtain ⟨c, hc⟩ : ∃ c : Int, (b.toNat : Int) = c := ⟨_, rfl⟩
      have hgc : (((s[k]'p).toNat : Nat) : Int) = c := by rw [hg]; exact hc
      have hbl : b.toNat < 256 := b.toNat_lt
      have HT := Lib.hid (show digN (s.data.toList.take (k + 1)) = digN (s.data.toList.take k) * 10 + (b.toNat - 48) by rw [List.take_add_one, hb]; exact digN_snoc _ _)
      have HA := Lib.hid (all_take hb hd)
      have HV := Lib.hid (digN_lt _ hd)
      have hlt' : (k : Int) < n := by omega
      have HK := Lib.hid hlt
      have HB := Lib.hid hb
      have HC := Lib.hid hc
      by_cases g1 : c < 48
      · have HX := Lib.hid (refN_no (s := s) (.inr (.inr (.inr (.inl (List.all_eq_false.2 ⟨b, List.mem_of_getElem? hb, by rw [isDig_iff]; omega⟩))))))
        clear hb hg hc hbl hd
        go_wp2
        go_ret
        exact ⟨by rw [HX.out]; rfl, Below.refl _ _⟩
      · by_cases g2 : 57 < c
        · have HX := Lib.hid (refN_no (s := s) (.inr (.inr (.inr (.inl (List.all_eq_false.2 ⟨b, List.mem_of_getElem? hb, by rw [isDig_iff]; omega⟩))))))
          clear hb hg hc hbl hd
          go_wp2
          go_ret
          exact ⟨by rw [HX.out]; rfl, Below.refl _ _⟩
        · have HD := Lib.hid ((isDig_iff b).2 (by omega))
          obtain ⟨v, hv⟩ : ∃ v, digN (s.data.toList.take k) = v := ⟨_, rfl⟩
          rw [hv] at HT HV ⊢
          have hvb : v < 100000 := by
            have h1 := HV.out
            rw [List.length_take, HL.out] at h1
            exact Nat.lt_of_lt_of_le h1 (Nat.pow_le_pow_right (n := 10) (by omega) (show min k n ≤ 5 by have := H5.out; omega))
          obtain ⟨d, hdd⟩ : ∃ d : Int, c - 48 = d := ⟨_, rfl⟩
          have hw1 : IntKind.u8.wrap (c - 48) = d := by rw [IntWalk.u8_in _ (by omega)]; exact hdd
          have hw2 : wrap64 ((v : Int) * 10) = (v : Int) * 10 := wrap_in _ (by omega)
          have hw3 : wrap64 ((v : Int) * 10 + d) = (v : Int) * 10 + d := wrap_in _ (by omega)
          have hw4 : wrap64 d = d := wrap_in _ (by omega)
          have hq1 : decide (c < 48) = false := decide_eq_false g1
          have hq2 : decide (57 < c) = false := decide_eq_false g2
          have HDD := Lib.hid hdd
          have HWK := Lib.hid (show wrap64 ((k : Int) + 1) = ((k + 1 : Nat) : Int) by rw [wrap_in _ (by have := H5.out; omega)]; push_cast; rfl)
          clear hb hg hc hbl hd hv hvb g1 g2 hdd
          go_wp2
          go_roundw
          case rel =>
            refine ⟨k + 1, HK.out, by push_cast; rfl, ?_, by rw [HA.out]; exact HD.out, trivial⟩
            rw [HT.out]
            have h1 := HDD.out
            have h2 := HC.out
            have h3 := (isDig_iff b).1 HD.out
            congr 1
            omega
          case measure => have := HK.out; simp only [intOf]; omega
    · have hlt' : ¬ (k : Int) < n := by omega
      have hT : s.data.toList.take k = s.data.toList := List.take_of_length_le (by rw [HL.out]; omega)
      rw [hT] at hd ⊢
      have hne : s.data.toList ≠ [] := fun e => by have := HL.out; rw [e] at this; have := H0.out; simp at *; omega
      have HD := Lib.hid hd
      have HN := Lib.hid hne
      obtain ⟨v, hv⟩ : ∃ v, digN s.data.toList = v := ⟨_, rfl⟩
      have HV := Lib.hid hv
      rw [hv]
      clear hT hd hne hv
      by_cases g : 65536 < v
      · have HX := Lib.hid (refN_no (s := s) (.inr (.inr (.inr (.inr (by rw [HV.out]; exact g))))))
        have g' : 65536 < (v : Int) := by omega
        go_wp2
        go_ret
        exact ⟨by rw [HX.out]; rfl, Below.refl _ _⟩
      · have HX := Lib.hid (refN_ok HN.out HH0.out HD.out (by rw [HV.out]; omega))
        have g' : ¬ 65536 < (v : Int) := by omega
        go_wp2
        go_ret
        exact ⟨by rw [HX.out, HV.out]; rfl, Below.refl _ _⟩
end Go.Proofs.YtapojgbiboeaiaaDoor
