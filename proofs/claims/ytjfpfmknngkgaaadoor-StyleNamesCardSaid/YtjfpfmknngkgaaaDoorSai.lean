/- said: what a line says. Conditions: a line of at most 70000 bytes; the library's variable of the longest needle is there. -/
import Derived.Test.YtjfpfmknngkgaaaDoorSpl
import Derived.Shelf.Strings.SlTrimAscii
import Derived.Lib.AtoiTie
import Derived.Lib.SmallJoins
namespace Go.Proofs.YtjfpfmknngkgaaaDoor
set_option linter.unusedVariables false
set_option linter.unusedSimpArgs false
open Go.RowKit Rng
/-- The library's variable that is read. -/
def EnvS (B : Nat) (w : World) : Prop := 3 < B ∧ ∃ m : Int, w.cell? ⟨3, 0, none⟩ = some (.int .i64 m)
theorem EnvS.later {B : Nat} {w w' : World} (h : EnvS B w) (hb : Below B w w') : EnvS B w' := by
  obtain ⟨b0, m, h1⟩ := h
  exact ⟨b0, m, (hb.cell (p := ⟨3, 0, none⟩) b0).trans h1⟩
def blankL : List UInt8 := [32, 9, 13]
def digitL : List UInt8 := [48, 49, 50, 51, 52, 53, 54, 55, 56, 57]
/-- Without the white space around. -/
def trimB (l : List UInt8) : List UInt8 := Lib.trimS l blankL
def cutN (l : List UInt8) : List UInt8 := (Lib.cut l [61]).1
def cutR (l : List UInt8) : List UInt8 := (Lib.cut l [61]).2.1
def cutI (l : List UInt8) : Bool := (Lib.cut l [61]).2.2
/-- The number's text. -/
def numT (l : List UInt8) : List UInt8 := trimB (cutR l)
/-- Does the line say a name and a number? -/
def saidI (l : List UInt8) : Bool := cutI l && !(numT l == []) && !decide (7 < (numT l).length) && (Lib.trimS (numT l) digitL == [])
theorem trim_calls (l cs : List UInt8) (hl : l.length ≤ 70000) (hc : cs.all (fun b => decide (b.toNat < 128)) = true) (hcl : cs.length ≤ 10) (w : World) :
    Calls Tryd.prog 28 #[.string ⟨l.toArray⟩, .string ⟨cs.toArray⟩] w fun e w' => e = .returned (.string ⟨(Lib.trimS l cs).toArray⟩) ∧ Below w.heap.size w w' :=
  Any.strings_Trim_laid Tryd.lays160 (by kernel_rfl) ⟨l.toArray⟩ ⟨cs.toArray⟩ w (by show l.toArray.size ≤ _; rw [List.size_toArray]; omega) (by show cs.toArray.size < _; rw [List.size_toArray]; omega) (ascii_of_all hc)
theorem triml_calls (l cs : List UInt8) (hl : l.length ≤ 70000) (hc : cs.all (fun b => decide (b.toNat < 128)) = true) (hcl : cs.length ≤ 10) (w : World) :
    Calls Tryd.prog 27 #[.string ⟨l.toArray⟩, .string ⟨cs.toArray⟩] w fun e w' => e = .returned (.string ⟨(Lib.trimLeftS l cs).toArray⟩) ∧ Below w.heap.size w w' :=
  Any.strings_TrimLeft_laid Tryd.lays161 (by kernel_rfl) ⟨l.toArray⟩ ⟨cs.toArray⟩ w (by show cs.toArray.size < _; rw [List.size_toArray]; omega) (ascii_of_all hc)
theorem cut1_calls {B : Nat} (l : List UInt8) (hl : l.length ≤ 70000) (w : World) (ht : EnvS B w) :
    Calls Tryd.prog 46 #[.string ⟨l.toArray⟩, .string ⟨#[61]⟩] w fun e w' => e = .returned (.tuple #[.string ⟨(cutN l).toArray⟩, .string ⟨(cutR l).toArray⟩, .bool (cutI l)]) ∧ Below w.heap.size w w' := by
  obtain ⟨_, m, hm⟩ := ht
  refine (Tryd.strings_Cut ⟨l.toArray⟩ ⟨#[61]⟩ m w (by show l.toArray.size < _; rw [List.size_toArray]; omega) hm).mono fun e w' ⟨he, n, hw⟩ => ⟨he, ?_⟩
  rw [hw]
  exact ⟨rfl, rfl, rfl, Nat.le_refl _, fun _ _ => rfl⟩
/-- A text of digits: its number. -/
def valD (l : List UInt8) : Nat := l.foldl (fun n b => n * 10 + (b.toNat - 48)) 0
def isDig (b : UInt8) : Bool := digitL.contains b
theorem isDig_iff (b : UInt8) : isDig b = true ↔ 48 ≤ b.toNat ∧ b.toNat ≤ 57 := by
  have h : ∀ n : Fin 256, isDig (UInt8.ofNat n.1) = true ↔ 48 ≤ n.1 ∧ n.1 ≤ 57 := by decide +kernel
  have e := h ⟨b.toNat, b.toNat_lt⟩
  simpa using e
theorem dropWhile_nil {p : UInt8 → Bool} : ∀ (l : List UInt8), l.dropWhile p = [] ↔ l.all p = true
  | [] => by simp
  | b :: l => by
    rw [List.dropWhile_cons, List.all_cons]
    cases h : p b with
    | true => simp only [if_true, Bool.true_and]; exact dropWhile_nil l
    | false => simp
theorem dropWhile_head {p : UInt8 → Bool} {b : UInt8} {r : List UInt8} : ∀ {l : List UInt8}, l.dropWhile p = b :: r → p b = false
  | [], h => by simp at h
  | c :: l, h => by
    rw [List.dropWhile_cons] at h
    cases hc : p c with
    | true => rw [hc] at h; exact dropWhile_head (l := l) (by simpa using h)
    | false => rw [hc] at h; simp at h; rw [← h.1]; exact hc
theorem trim_all (l : List UInt8) : Lib.trimS l digitL = [] ↔ l.all isDig = true := by
  unfold Lib.trimS Lib.trimLeftS Lib.trimRightS
  have e : (fun b => digitL.contains b) = isDig := rfl
  rw [e, dropWhile_nil]
  constructor
  · intro h
    cases hd : l.reverse.dropWhile isDig with
    | nil =>
      have := (dropWhile_nil l.reverse).1 hd
      rwa [List.all_reverse] at this
    | cons b r =>
      rw [hd, List.all_reverse] at h
      have hb := dropWhile_head hd
      have hm : isDig b = true := List.all_eq_true.1 h b (by simp)
      rw [hb] at hm
      cases hm
  · intro h
    rw [(dropWhile_nil l.reverse).2 (by rw [List.all_reverse]; exact h)]
    rfl
theorem decFrom_dig : ∀ (l : List UInt8) (acc : Nat), l.all isDig = true → Lib.decFrom acc l = some (l.foldl (fun n b => n * 10 + (b.toNat - 48)) acc)
  | [], acc, _ => rfl
  | b :: l, acc, h => by
    rw [List.all_cons, Bool.and_eq_true] at h
    have hd := (isDig_iff b).1 h.1
    unfold Lib.decFrom Lib.digitVal
    rw [if_pos hd]
    exact decFrom_dig l _ h.2
theorem atoi_dig (l : List UInt8) (h0 : l ≠ []) (h7 : l.length ≤ 7) (h : l.all isDig = true) : Lib.atoiAll l = .ok (valD l : Int) := by
  rw [Lib.atoiAll_short l (by omega)]
  cases l with
  | nil => exact absurd rfl h0
  | cons b r =>
    have hb := (isDig_iff b).1 (List.all_eq_true.1 h b (by simp))
    have e1 : (b == 45) = false := beq_eq_false_iff_ne.2 fun e => by rw [e] at hb; exact absurd hb.1 (by decide)
    have e2 : (b == 43) = false := beq_eq_false_iff_ne.2 fun e => by rw [e] at hb; exact absurd hb.1 (by decide)
    unfold Lib.atoi
    simp only [e1, e2, Bool.false_eq_true, if_false]
    unfold Lib.decNat
    rw [if_neg (by simp), decFrom_dig _ _ h]
    rfl
theorem saidI_num {l : List UInt8} (h : saidI l = true) : numT l ≠ [] ∧ (numT l).length ≤ 7 ∧ (numT l).all isDig = true := by
  simp only [saidI, Bool.and_eq_true, Bool.not_eq_true', beq_eq_false_iff_ne, decide_eq_false_iff_not, beq_iff_eq] at h
  exact ⟨h.1.1.2, by omega, (trim_all _).1 h.2⟩
theorem trimS_len (l cs : List UInt8) : (Lib.trimS l cs).length ≤ l.length := by
  have dw : ∀ (p : UInt8 → Bool) (m : List UInt8), (m.dropWhile p).length ≤ m.length := fun p m => (List.dropWhile_sublist p).length_le
  unfold Lib.trimS Lib.trimLeftS Lib.trimRightS
  refine Nat.le_trans (dw _ _) ?_
  rw [List.length_reverse]
  refine Nat.le_trans (dw _ _) ?_
  rw [List.length_reverse]
  exact Nat.le_refl _
theorem cut_len (l : List UInt8) : (cutN l).length ≤ l.length ∧ (cutR l).length ≤ l.length := by
  unfold cutN cutR Lib.cut
  split
  · simp only [List.length_take, List.length_drop]; omega
  · exact ⟨Nat.le_refl _, Nat.zero_le _⟩
/-- What said gives. -/
def saidT (l : List UInt8) : Value := if saidI l then .tuple #[.string ⟨(trimB (cutN l)).toArray⟩, .int .i64 (valD (numT l) : Nat), .bool true] else .tuple #[.string ⟨#[]⟩, .int .i64 0, .bool false]
set_option maxRecDepth 100000 in
set_option maxHeartbeats 1000000 in
theorem said_calls {B : Nat} (l : List UInt8) (hl : l.length ≤ 70000) (w : World) (hB : B ≤ w.heap.size) (ht : EnvS B w) :
    Calls Tryd.prog 29 #[.string ⟨l.toArray⟩] w fun e w' => e = .returned (saidT l) ∧ Below w.heap.size w w' := by
  have HC := Lib.hid (cut1_calls l hl w ht)
  have hcl := cut_len l
  have HT1 := Lib.hid (fun (w' : World) => trim_calls (cutR l) blankL (by omega) (by decide) (by decide) w')
  have HT3 := Lib.hid (fun (w' : World) => trim_calls (cutN l) blankL (by omega) (by decide) (by decide) w')
  have hnl : (numT l).length ≤ 70000 := by have := trimS_len (cutR l) blankL; have e : (numT l).length = (Lib.trimS (cutR l) blankL).length := rfl; omega
  have HT2 := Lib.hid (fun (w' : World) => trim_calls (numT l) digitL hnl (by decide) (by decide) w')
  have HAT := Lib.hid (fun (h : saidI l = true) (w' : World) => Tryd.strconv_Atoi_ok ⟨(numT l).toArray⟩ (by show (numT l).toArray.size ≤ _; rw [List.size_toArray]; omega) (valD (numT l) : Int) (atoi_dig _ (saidI_num h).1 (saidI_num h).2.1 (saidI_num h).2.2) w')
  clear ht hB hl hcl hnl
  have HSI := Lib.hid (show saidI l = (cutI l && !(numT l == []) && !decide (7 < (numT l).length) && (Lib.trimS (numT l) digitL == [])) from rfl)
  have HST := Lib.hid (show saidT l = if saidI l then .tuple #[.string ⟨(trimB (cutN l)).toArray⟩, .int .i64 (valD (numT l) : Nat), .bool true] else .tuple #[.string ⟨#[]⟩, .int .i64 0, .bool false] from rfl)
  obtain ⟨sn, hsn⟩ : ∃ sn : ByteArray, (⟨(cutN l).toArray⟩ : ByteArray) = sn := ⟨_, rfl⟩
  obtain ⟨sr, hsr⟩ : ∃ sr : ByteArray, (⟨(cutR l).toArray⟩ : ByteArray) = sr := ⟨_, rfl⟩
  obtain ⟨sx, hsx⟩ : ∃ sx : ByteArray, (⟨(numT l).toArray⟩ : ByteArray) = sx := ⟨_, rfl⟩
  obtain ⟨sy, hsy⟩ : ∃ sy : ByteArray, (⟨(Lib.trimS (numT l) digitL).toArray⟩ : ByteArray) = sy := ⟨_, rfl⟩
  obtain ⟨sz, hsz⟩ : ∃ sz : ByteArray, (⟨(trimB (cutN l)).toArray⟩ : ByteArray) = sz := ⟨_, rfl⟩
  have hxz : sx.size = (numT l).length := by rw [← hsx]; exact List.size_toArray
  have hxl : sx.toList = numT l := by rw [ByteArray.toList_eq, ← hsx]
  have hyl : sy.toList = Lib.trimS (numT l) digitL := by rw [ByteArray.toList_eq, ← hsy]
  rw [show (ByteArray.mk (Lib.trimS (cutN l) blankL).toArray) = sz from hsz] at HT3
  rw [show (ByteArray.mk (Lib.trimS (cutR l) blankL).toArray) = sx from hsx] at HT1
  rw [hsn] at HC HT3
  rw [hsr] at HC HT1
  rw [hsx] at HT2 HAT
  rw [hsy] at HT2
  rw [hsz] at HST
  clear hsn hsr hsx hsy hsz
  obtain ⟨ci, hci⟩ : ∃ ci, cutI l = ci := ⟨_, rfl⟩
  rw [hci] at HC HSI
  obtain ⟨vd, hvd⟩ : ∃ vd, valD (numT l) = vd := ⟨_, rfl⟩
  rw [hvd] at HAT HST
  clear hci hvd
  go_enter Tryd.func29, Tryd.ntmps29
  go_upto_region 3 with (first
    | (go_at_call 46; refine HC.out.mono ?_; rintro e w1 ⟨rfl, hB1⟩)
    | (go_at_call 28; refine (HT1.out _).mono ?_; rintro e w2 ⟨rfl, hB2⟩))
  have HB := Lib.hid (hB1.trans (hB2.mono hB1.size))
  clear hB1 hB2
  have NO := Lib.hid (fun (h : saidI l = false) => show saidT l = .tuple #[.string ⟨#[]⟩, .int .i64 0, .bool false] by rw [HST.out, h]; rfl)
  have YES := Lib.hid (fun (h : saidI l = true) => show saidT l = .tuple #[.string sz, .int .i64 (vd : Nat), .bool true] by rw [HST.out, h]; rfl)
  have HXL := Lib.hid hxl
  have HYL := Lib.hid hyl
  have HXZ := Lib.hid hxz
  clear hxl hyl hxz
  cases ci with
  | false =>
    have HN := Lib.hid (NO.out (by rw [HSI.out]; rfl))
    go_wp2
    go_ret3
    exact ⟨by rw [HN.out]; rfl, HB.out⟩
  | true =>
    cases he : (sx.toList == []) with
    | true =>
      have HN := Lib.hid (NO.out (by rw [HSI.out, ← HXL.out, he]; rfl))
      go_wp2
      go_ret3
      exact ⟨by rw [HN.out]; rfl, HB.out⟩
    | false =>
      by_cases h7 : 7 < sx.size
      · have h7' : 7 < (sx.size : Int) := by omega
        have HN := Lib.hid (NO.out (by rw [HSI.out, ← HXL.out, he, HXL.out, decide_eq_true (by rw [← HXZ.out]; exact h7)]; rfl))
        go_wp2
        go_ret3
        exact ⟨by rw [HN.out]; rfl, HB.out⟩
      · have h7' : ¬ 7 < (sx.size : Int) := by omega
        cases hy : (sy.toList == []) with
        | false =>
          have HN := Lib.hid (NO.out (by rw [HSI.out, ← HYL.out, hy]; simp))
          go_wp2_with (go_at_call 28; refine (HT2.out _).mono ?_; rintro e w3 ⟨rfl, hB3⟩)
          go_ret3
          exact ⟨by rw [HN.out]; rfl, HB.out.trans (hB3.mono HB.out.size)⟩
        | true =>
          have hyes : saidI l = true := by rw [HSI.out, ← HYL.out, hy, ← HXL.out, he, HXL.out, decide_eq_false (by rw [← HXZ.out]; exact h7)]; rfl
          have HY := Lib.hid (YES.out hyes)
          have HAT2 := Lib.hid (HAT.out hyes)
          clear hyes
          go_upto_region 5 with (go_at_call 28; refine (HT2.out _).mono ?_; rintro e w3 ⟨rfl, hB3⟩)
          have HB3 := Lib.hid (HB.out.trans (hB3.mono HB.out.size))
          clear hB3 he hy h7 h7'
          go_upto_region 6 with (go_at_call 47; refine (HAT2.out _).mono ?_; rintro e w4 ⟨rfl, hw4⟩)
          have hB4 : Below w3.heap.size w3 w4 := by
            rcases hw4 with rfl | ⟨t, rfl⟩
            · exact Below.refl _ _
            · exact Go.Joins.below_bytesWorld _ _ _ _ (Nat.le_refl _)
          have HB4 := Lib.hid (HB3.out.trans (hB4.mono HB3.out.size))
          clear hB4 hw4
          go_wp2_with (go_at_call 28; refine (HT3.out _).mono ?_; rintro e w5 ⟨rfl, hB5⟩)
          go_ret3
          exact ⟨by rw [HY.out]; rfl, HB4.out.trans (hB5.mono HB4.out.size)⟩
end Go.Proofs.YtjfpfmknngkgaaaDoor
