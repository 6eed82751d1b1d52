/- Plain law of texts of sets: the parts of a joined text, the halves of a part, numerals; the text of a set is read as it. -/
import Derived.Test.YtapojgbiboeaiaaDoorPa
import Derived.Test.YtapojgbiboeaiaaDoorTx
import Derived.Test.YtapojgbiboeaiaaDoorPm
import Derived.Lib.AtoiAll
import Derived.Lib.ItoaMem
import Derived.Lib.SplitLaws
namespace Go.Proofs.YtapojgbiboeaiaaDoor
set_option linter.unusedVariables false
set_option linter.unusedSimpArgs false
open Go.RowKit Rng
theorem index_cons (b c : UInt8) (l : List UInt8) : Lib.index (b :: l) [c] = if c = b then 0 else if Lib.index l [c] = -1 then -1 else Lib.index l [c] + 1 := by
  conv => lhs; unfold Lib.index
  simp only [List.isPrefixOf, Bool.and_true, beq_iff_eq]
theorem index_free {c : UInt8} : ∀ {x : List UInt8}, c ∉ x → Lib.index x [c] = -1
  | [], _ => rfl
  | b :: l, h => by
    rw [List.mem_cons, not_or] at h
    rw [index_cons, if_neg h.1, index_free h.2, if_pos rfl]
theorem index_at {c : UInt8} {r : List UInt8} : ∀ {x : List UInt8}, c ∉ x → Lib.index (x ++ c :: r) [c] = x.length
  | [], _ => by rw [List.nil_append, index_cons, if_pos rfl]; rfl
  | b :: l, h => by
    rw [List.mem_cons, not_or] at h
    rw [List.cons_append, index_cons, if_neg h.1, index_at h.2, if_neg (by omega)]
    simp
/-- The parts of a text between the bytes c. -/
def parts (c : UInt8) (s : List UInt8) : List (List UInt8) := Lib.splitK [c] 0 (Lib.count s [c]) s
theorem parts_free {c : UInt8} {x : List UInt8} (h : c ∉ x) : parts c x = [x] := by
  unfold parts
  rw [Lib.count_miss (index_free h)]
  rfl
theorem parts_at {c : UInt8} {x r : List UInt8} (h : c ∉ x) : parts c (x ++ c :: r) = x :: parts c r := by
  have hd : (x ++ c :: r).drop (x.length + [c].length) = r := by
    rw [show x ++ c :: r = (x ++ [c]) ++ r by simp, List.drop_left' (by simp)]
  unfold parts
  rw [Lib.count_hit (by simp) (index_at h), hd, Nat.add_comm 1]
  conv => lhs; unfold Lib.splitK
  rw [index_at h, if_neg (by rw [beq_iff_eq]; omega), Int.toNat_natCast, hd]
  simp
theorem join_cons2 (c : UInt8) (x y : List UInt8) (r : List (List UInt8)) : Lib.join (x :: y :: r) [c] = x ++ c :: Lib.join (y :: r) [c] := by
  rw [Lib.join_cons, Lib.join_cons]
  simp [Lib.joinTail]
theorem parts_join {c : UInt8} : ∀ {xs : List (List UInt8)}, xs ≠ [] → (∀ x ∈ xs, c ∉ x) → parts c (Lib.join xs [c]) = xs
  | [], h, _ => absurd rfl h
  | [x], _, h => by rw [Lib.join_one]; exact parts_free (h x (by simp))
  | x :: y :: r, _, h => by
    rw [join_cons2, parts_at (h x (by simp)), parts_join (by simp) (fun z hz => h z (List.mem_cons_of_mem _ hz))]
theorem cut_free {c : UInt8} {x : List UInt8} (h : c ∉ x) : Lib.cut x [c] = (x, [], false) := by
  unfold Lib.cut
  rw [index_free h, if_neg (by decide)]
theorem cut_at {c : UInt8} {x r : List UInt8} (h : c ∉ x) : Lib.cut (x ++ c :: r) [c] = (x, r, true) := by
  have hd : (x ++ c :: r).drop (x.length + [c].length) = r := by
    rw [show x ++ c :: r = (x ++ [c]) ++ r by simp, List.drop_left' (by simp)]
  unfold Lib.cut
  rw [index_at h, if_pos (by omega), Int.toNat_natCast, hd, List.take_left' rfl]
theorem parse_cons (c : UInt8) (l : List UInt8) (acc : Nat) : Lib.parseUint10 acc (c :: l) = if 48 ≤ c.toNat ∧ c.toNat ≤ 57 then if 1844674407370955162 ≤ acc then .range else if 18446744073709551616 ≤ acc * 10 + (c.toNat - 48) then .range else Lib.parseUint10 (acc * 10 + (c.toNat - 48)) l else .syntax := rfl
theorem parse_append (r : List UInt8) : ∀ (l : List UInt8) (acc : Nat), Lib.parseUint10 acc (l ++ r) = match Lib.parseUint10 acc l with | .ok u => Lib.parseUint10 u r | .syntax => .syntax | .range => .range
  | [], acc => rfl
  | c :: l, acc => by
    rw [List.cons_append, parse_cons, parse_cons]
    split
    · split
      · rfl
      · split
        · rfl
        · exact parse_append r l _
    · rfl
theorem digit_nat {d : Nat} (h : d < 10) : (UInt8.ofNat (48 + d)).toNat = 48 + d := by
  rw [UInt8.toNat_ofNat']
  omega
theorem parse_one (acc d : Nat) (ha : acc < 1000000) (hd : d < 10) : Lib.parseUint10 acc [UInt8.ofNat (48 + d)] = .ok (acc * 10 + d) := by
  unfold Lib.parseUint10
  rw [digit_nat hd, if_pos (by omega), if_neg (by omega), if_neg (by omega)]
  unfold Lib.parseUint10
  rw [Nat.add_sub_cancel_left]
theorem parse_dec (u : Nat) (hu : u < 1000000) : Lib.parseUint10 0 (Lib.decDigits u) = .ok u := by
  induction u using Nat.strongRecOn with
  | _ u ih =>
    rw [Lib.decDigits]
    split
    · next h =>
      rw [parse_one 0 u (by omega) h]
      simp
    · next h =>
      rw [parse_append, ih (u / 10) (by omega) (by omega)]
      show Lib.parseUint10 (u / 10) _ = _
      rw [parse_one _ _ (by omega) (by omega)]
      congr 1
      omega
theorem dec_digit {b : UInt8} (u : Nat) (h : b ∈ Lib.decDigits u) : 48 ≤ b.toNat ∧ b.toNat ≤ 57 := by
  induction u using Nat.strongRecOn with
  | _ u ih =>
    rw [Lib.decDigits] at h
    split at h
    · next h1 =>
      rw [List.mem_singleton] at h
      rw [h, digit_nat h1]; omega
    · next h1 =>
      rw [List.mem_append, List.mem_singleton] at h
      rcases h with h | h
      · exact ih (u / 10) (by omega) h
      · rw [h, digit_nat (by omega)]; omega
theorem dec_ne (u : Nat) : Lib.decDigits u ≠ [] := by
  rw [Lib.decDigits]
  split <;> simp
theorem dec_len : ∀ (k u : Nat), u < 10 ^ (k + 1) → (Lib.decDigits u).length ≤ k + 1
  | 0, u, h => by rw [Lib.decDigits, dif_pos (by simpa using h)]; simp
  | k + 1, u, h => by
    rw [Lib.decDigits]
    split
    · simp
    · have := dec_len k (u / 10) (by rw [Nat.pow_succ] at h; omega)
      simp only [List.length_append, List.length_singleton]
      omega
theorem atoi_dec (u : Nat) (hu : u < 1000000) : Lib.atoiAll (Lib.decDigits u) = .ok u := by
  have hp := parse_dec u hu
  have hne := dec_ne u
  have hd := fun b => dec_digit (b := b) u
  generalize Lib.decDigits u = l at *
  cases l with
  | nil => exact absurd rfl hne
  | cons c r =>
    have hc := hd c (by simp)
    unfold Lib.atoiAll
    have h1 : ¬ c.toNat = 43 := by omega
    have h2 : ¬ c.toNat = 45 := by omega
    simp only [h1, h2, or_self, if_false, Lib.parseMag, hne]
    rw [hp]
    simp
    omega
def decB (u : Nat) : ByteArray := ⟨(Lib.decDigits u).toArray⟩
theorem num_dec (u : Nat) (h1 : 1 ≤ u) (h2 : u ≤ 65536) : numB (decB u) = true ∧ atV (decB u) = u := by
  have ha : Lib.atoiAll (decB u).data.toList = .ok u := atoi_dec u (by omega)
  have hv : atV (decB u) = u := by unfold atV; rw [ha]
  refine ⟨?_, hv⟩
  unfold numB atOk
  rw [ha, hv, Lib.itoa_nonneg]
  simp [decB]
  omega
theorem ba_ext {a b : ByteArray} (h : a.data.toList = b.data.toList) : a = b := by
  apply ByteArray.ext
  rw [← Array.toList_inj]
  exact h
theorem parts_of (s : ByteArray) : (partsOf s).map (·.data.toList) = parts 44 s.data.toList := Lib.splitB_data comma 0 _ s
theorem cutA_of {p : ByteArray} {a b : List UInt8} {t : Bool} (h : Lib.cut p.data.toList [45] = (a, b, t)) : cutA p = ⟨a.toArray⟩ ∧ cutB p = ⟨b.toArray⟩ ∧ cutT p = t := by
  have h' : Lib.cut p.data.toList dash.data.toList = (a, b, t) := h
  refine ⟨?_, ?_, ?_⟩
  · unfold cutA; rw [h']
  · unfold cutB; rw [h']
  · unfold cutT; rw [h']
/-- The text of a set. -/
def textOf (l : List (Int × Int)) : ByteArray := ⟨(Lib.join ((l.map oneS).map (·.data.toList)) [44]).toArray⟩
theorem oneS_list (a b : Nat) : (oneS ((a : Int), (b : Int))).data.toList = if a + 1 < b then Lib.decDigits (a + 1) ++ 45 :: Lib.decDigits b else Lib.decDigits (a + 1) := by
  have e1 : Lib.itoa ((a : Int) + 1) = Lib.decDigits (a + 1) := Lib.itoa_nonneg (a + 1)
  have e2 : Lib.itoa (b : Int) = Lib.decDigits b := Lib.itoa_nonneg b
  unfold oneS
  simp only [e1, e2]
  by_cases h : a + 1 < b
  · rw [if_pos (by omega), if_pos h]
    simp [ByteArray.data_append]
  · rw [if_neg (by omega), if_neg h]
theorem free_dec (u : Nat) (c : UInt8) (h : c.toNat < 48) : c ∉ Lib.decDigits u := fun hm => by have := dec_digit u hm; omega
theorem oneS_ok (a b : Nat) (h1 : a < b) (h2 : b ≤ 65536) : okP (oneS ((a : Int), (b : Int))) = true ∧ rgP (oneS ((a : Int), (b : Int))) = ((a : Int), (b : Int)) ∧ (44 : UInt8) ∉ (oneS ((a : Int), (b : Int))).data.toList ∧ (oneS ((a : Int), (b : Int))).data.toList.length ≤ 11 := by
  have hl := oneS_list a b
  obtain ⟨n1, n2⟩ := num_dec (a + 1) (by omega) (by omega)
  obtain ⟨m1, m2⟩ := num_dec b (by omega) (by omega)
  have l1 := dec_len 4 (a + 1) (by omega)
  have l2 := dec_len 4 b (by omega)
  by_cases h : a + 1 < b
  · rw [if_pos h] at hl
    have hc := cut_at (r := Lib.decDigits b) (free_dec (a + 1) 45 (by decide))
    rw [← hl] at hc
    obtain ⟨c1, c2, c3⟩ := cutA_of hc
    have f1 : fromS (oneS ((a : Int), (b : Int))) = decB (a + 1) := c1
    have f2 : toS (oneS ((a : Int), (b : Int))) = decB b := by unfold toS; rw [c3, if_pos rfl, c2]; rfl
    refine ⟨?_, ?_, ?_, ?_⟩
    · unfold okP
      rw [f1, f2, n1, m1, n2, m2]
      simp
      omega
    · unfold rgP
      rw [f1, f2, n2, m2]
      simp
    · rw [hl, List.mem_append, List.mem_cons]
      rintro (e | e | e)
      · exact free_dec _ _ (by decide) e
      · exact absurd e (by decide)
      · exact free_dec _ _ (by decide) e
    · rw [hl, List.length_append, List.length_cons]; omega
  · rw [if_neg h] at hl
    have hc := cut_free (free_dec (a + 1) 45 (by decide))
    rw [← hl] at hc
    obtain ⟨c1, c2, c3⟩ := cutA_of hc
    have e0 : (⟨(oneS ((a : Int), (b : Int))).data.toList.toArray⟩ : ByteArray) = decB (a + 1) := by rw [hl]; rfl
    have f1 : fromS (oneS ((a : Int), (b : Int))) = decB (a + 1) := c1.trans e0
    have f2 : toS (oneS ((a : Int), (b : Int))) = decB (a + 1) := by unfold toS; rw [c3, if_neg (by simp), c1, e0]
    refine ⟨?_, ?_, ?_, ?_⟩
    · unfold okP
      rw [f1, f2, n1, n2]
      simp
    · unfold rgP
      rw [f1, f2, n2]
      refine Prod.ext ?_ ?_
      · simp
      · simp; omega
    · rw [hl]
      exact free_dec _ _ (by decide)
    · rw [hl]; omega
theorem oneS_fit (r : Int × Int) (h : Fit r) : okP (oneS r) = true ∧ rgP (oneS r) = r ∧ (44 : UInt8) ∉ (oneS r).data.toList ∧ (oneS r).data.toList.length ≤ 11 := by
  obtain ⟨x, y⟩ := r
  obtain ⟨h1, h2, h3⟩ := h
  simp only at h1 h2 h3
  obtain ⟨a, rfl⟩ : ∃ a : Nat, x = a := ⟨x.toNat, by omega⟩
  obtain ⟨b, rfl⟩ : ∃ b : Nat, y = b := ⟨y.toNat, by omega⟩
  exact oneS_ok a b (by omega) (by omega)
theorem fit_of {l : List (Int × Int)} (h : okR l = true) : ∀ r ∈ l, Fit r := fun r hr => (okR_ok h).all (by omega) r hr
theorem text_parts {l : List (Int × Int)} (h : okR l = true) (hne : l ≠ []) : partsOf (textOf l) = l.map oneS := by
  have hp := parts_of (textOf l)
  have hj : (textOf l).data.toList = Lib.join ((l.map oneS).map (·.data.toList)) [44] := rfl
  rw [hj, parts_join (by simpa using hne) (fun x hx => by
    rw [List.map_map, List.mem_map] at hx
    obtain ⟨r, hr, rfl⟩ := hx
    exact (oneS_fit r (fit_of h r hr)).2.2.1)] at hp
  exact (List.map_inj_right fun _ _ e => ba_ext e).1 hp
theorem text_size {l : List (Int × Int)} (h : okR l = true) (hl : l.length ≤ 50) : (textOf l).size ≤ 1000 := by
  have hs : (textOf l).size = (Lib.join ((l.map oneS).map (·.data.toList)) [44]).length := List.size_toArray
  rw [hs]
  refine Nat.le_trans (join_len [44] 11 _ fun x hx => ?_) ?_
  · rw [List.map_map, List.mem_map] at hx
    obtain ⟨r, hr, rfl⟩ := hx
    exact (oneS_fit r (fit_of h r hr)).2.2.2
  · simp only [List.length_map, List.length_singleton]
    omega
theorem text_nil {l : List (Int × Int)} (h : okR l = true) : (textOf l).size = 0 ↔ l = [] := by
  have hs : (textOf l).size = (Lib.join ((l.map oneS).map (·.data.toList)) [44]).length := List.size_toArray
  rw [hs]
  constructor
  · intro e
    cases l with
    | nil => rfl
    | cons r l =>
      exfalso
      simp only [List.map_cons, Lib.join_cons, List.length_append] at e
      have hf := fit_of h r (by simp)
      obtain ⟨x, y⟩ := r
      obtain ⟨h1, h2, h3⟩ := hf
      simp only at h1 h2 h3
      obtain ⟨a, rfl⟩ : ∃ a : Nat, x = a := ⟨x.toNat, by omega⟩
      obtain ⟨b, rfl⟩ : ∃ b : Nat, y = b := ⟨y.toNat, by omega⟩
      have := oneS_list a b
      have hd := List.length_pos_iff.2 (dec_ne (a + 1))
      have hlen := congrArg List.length this
      split at hlen
      · rw [List.length_append] at hlen; omega
      · omega
  · rintro rfl; rfl
/-- The text of a set is read as it. -/
theorem ends_text {l : List (Int × Int)} (h : okR l = true) {base : Nat} {x : Value} {c : Int} {w' : World} (he : ParseEnds (textOf l) base x c w') : c = 0 ∧ Own w' base x l := by
  rcases he with ⟨h1, h2, h3⟩ | ⟨h1, h2, h3, m, hp, hr, ho⟩ | ⟨h1, h2, _⟩
  · have := (text_nil h).1 h1
    subst this
    exact ⟨h2, by rw [h3]; exact World.ownsRow_nil _ _ _ _⟩
  · have hne : l ≠ [] := fun e => h1 ((text_nil h).2 e)
    refine ⟨h3, ?_⟩
    rw [text_parts h hne, List.map_map] at hp
    have hid : l.map (rgP ∘ oneS) = l := by
      conv => rhs; rw [← List.map_id l]
      exact List.map_congr_left fun r hr => (oneS_fit r (fit_of h r hr)).2.1
    rw [hid] at hp
    have e : putAll m = l := (joined_law hp hr (fit_of h) (f := fun i => mem l i) fun i _ => (mem_iff l i).symm).trans (eq_setUp (okR_ok h) fun i _ => (mem_iff l i).symm).symm
    rwa [e] at ho
  · have hne : l ≠ [] := fun e => h1 ((text_nil h).2 e)
    exfalso
    rw [text_parts h hne, List.all_map] at h2
    have : l.all (okP ∘ oneS) = true := List.all_eq_true.2 fun r hr => (oneS_fit r (fit_of h r hr)).1
    rw [this] at h2
    cases h2
end Go.Proofs.YtapojgbiboeaiaaDoor
