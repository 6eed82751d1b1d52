/- Text: a set's text, or an error where it is no set. Conditions: at most 100 ranges; the library's variables are as they are laid. -/
import Derived.Test.YtapojgbiboeaiaaGreatDoorNu
import Derived.Test.YtapojgbiboeaiaaGreatDoorRv
import Derived.Lib.ItoaLen
import Derived.Deep.DeepCutAuto
namespace Go.Proofs.YtapojgbiboeaiaaGreatDoor
set_option linter.unusedVariables false
set_option linter.unusedSimpArgs false
open Go.RowKit Go.Shelf Rng
theorem info_str : ∃ i, Tryz.prog.info? 9 = some i ∧ i.zero = some (.string ByteArray.empty) ∧ i.size = 1 ∧ i.bytes = 16 := by
  have e1 : (Tryz.prog.info? 9).bind (·.zero) = some (.string ByteArray.empty) := by kernel_rfl
  have e2 : (Tryz.prog.info? 9).map (·.size) = some 1 := by kernel_rfl
  have e3 : (Tryz.prog.info? 9).map (·.bytes) = some 16 := by kernel_rfl
  cases h : Tryz.prog.info? 9 with
  | none => rw [h] at e2; cases e2
  | some i =>
    rw [h] at e1 e2 e3
    simp only [Option.bind_some, Option.map_some, Option.some.injEq] at e1 e2 e3
    exact ⟨i, rfl, e1, e2, e3⟩
/-- The call's own slice of texts. -/
abbrev OwnS (w : World) (base : Nat) (v : Value) (l : List ByteArray) : Prop := w.ownsRow base 9 1 v l.length (l.map Value.string)
theorem new1 (w : World) (x : Value) (t : TypeId) : ∀ j u, [x][j]? = some u → (w.alloc (.cells #[x] t)).cell? ((⟨w.heap.size, 0, none⟩ : Addr).add j) = some u := by
  intro j u hu
  have hb : (w.alloc (.cells #[x] t)).heap[w.heap.size]? = some (.cells #[x] t (0, 0)) := World.alloc_heap_new w _
  rw [Addr.add_lit, Nat.zero_add, cell_of hb]
  simpa using hu
theorem ownS_below {w w' : World} {base n : Nat} {v : Value} {l : List ByteArray} (h : OwnS w base v l) (hb : Below n w w') (hn : w.heap.size ≤ n) : OwnS w' base v l := by
  obtain ⟨h1, h2 | ⟨g, cap, cur, h3, h4, h5, h6⟩⟩ := h
  · exact ⟨h1, .inl h2⟩
  · exact ⟨h1, .inr ⟨g, cap, cur, h3, h4, (hb.block g (Nat.lt_of_lt_of_le (Array.getElem?_eq_some_iff.1 h5).1 hn)).trans h5, h6⟩⟩
/-- A range's text. -/
def oneS (r : Int × Int) : ByteArray := if r.1 + 1 < r.2 then ⟨(Lib.itoa (r.1 + 1)).toArray⟩ ++ (⟨#[45]⟩ ++ ⟨(Lib.itoa r.2).toArray⟩) else ⟨(Lib.itoa (r.1 + 1)).toArray⟩
theorem joinTail_len (sep : List UInt8) (K : Nat) : ∀ (r : List (List UInt8)), (∀ y ∈ r, y.length ≤ K) → (Lib.joinTail sep r).length ≤ r.length * (sep.length + K)
  | [], _ => by simp [Lib.joinTail]
  | y :: r, h => by
    have h1 := joinTail_len sep K r (fun z hz => h z (by simp [hz]))
    have h2 := h y (by simp)
    have e : Lib.joinTail sep (y :: r) = (sep ++ y) ++ Lib.joinTail sep r := by simp [Lib.joinTail]
    rw [e, List.length_append, List.length_append, List.length_cons, Nat.add_mul, Nat.one_mul]
    omega
theorem join_len (sep : List UInt8) (K : Nat) : ∀ (xs : List (List UInt8)), (∀ y ∈ xs, y.length ≤ K) → (Lib.join xs sep).length ≤ xs.length * (sep.length + K)
  | [], _ => by simp [Lib.join_nil]
  | y :: r, h => by
    have h1 := joinTail_len sep K r (fun z hz => h z (by simp [hz]))
    have h2 := h y (by simp)
    rw [Lib.join_cons, List.length_append, List.length_cons, Nat.add_mul, Nat.one_mul]
    omega
theorem join_calls {w : World} {base : Nat} {v : Value} {xs : List ByteArray} (h : OwnS w base v xs) (hn : xs.length ≤ 1000) (hK : ∀ x ∈ xs, x.size ≤ 1000) :
    Calls Tryz.prog 21 #[v, .string ⟨#[44]⟩] w fun e w' => e = .returned (.string ⟨(Lib.join (xs.map (·.data.toList)) [44]).toArray⟩) ∧ Below w.heap.size w w' := by
  have h' := h
  obtain ⟨h1, ⟨rfl, h0⟩ | ⟨g, cap, cur, rfl, h4, h5, h6, h7, h8⟩⟩ := h
  · have hx : xs = [] := List.eq_nil_of_length_eq_zero h0
    subst hx
    exact (Tryz.strings_Join_none none 0 ⟨#[44]⟩ w).mono fun e w' ⟨he, hw⟩ => ⟨he, by rw [hw]; exact Below.refl _ _⟩
  · refine (Tryz.strings_Join g 0 cap xs ⟨#[44]⟩ w (fun j x hj => ?_) (Array.getElem?_eq_some_iff.1 h5).1 (by omega) h6 ?_)
    · have hj' : j < xs.length := (List.getElem?_eq_some_iff.1 hj).1
      rw [Nat.zero_add, h'.cellAt j (by omega)]
      simp [hj]
    · have := join_len [44] 1000 (xs.map (·.data.toList)) (fun y hy => by
        obtain ⟨x, hx, rfl⟩ := List.mem_map.1 hy
        rw [← Lib.size_eq x]
        exact hK x hx)
      rw [List.length_map] at this
      have h9 : xs.length * ([44].length + 1000) ≤ 1000 * 1001 := Nat.mul_le_mul hn (Nat.le_refl _)
      show (Lib.join (xs.map (·.data.toList)) [44]).length ≤ _
      omega
theorem oneS_size (r : Int × Int) (h : -9223372036854775808 ≤ r.1 + 1 ∧ r.1 + 1 ≤ 9223372036854775807 ∧ -9223372036854775808 ≤ r.2 ∧ r.2 ≤ 9223372036854775807) : (oneS r).size ≤ 1000 := by
  have a : (⟨(Lib.itoa (r.1 + 1)).toArray⟩ : ByteArray).size ≤ 21 := by
    show ((Lib.itoa (r.1 + 1)).toArray).size ≤ 21
    rw [List.size_toArray]
    exact Lib.itoa_length_le _ h.1 h.2.1
  have b : (⟨(Lib.itoa r.2).toArray⟩ : ByteArray).size ≤ 21 := by
    show ((Lib.itoa r.2).toArray).size ≤ 21
    rw [List.size_toArray]
    exact Lib.itoa_length_le _ h.2.2.1 h.2.2.2
  unfold oneS
  split
  · rw [ByteArray.size_append, ByteArray.size_append]
    have c : (⟨#[45]⟩ : ByteArray).size = 1 := rfl
    omega
  · omega
set_option maxRecDepth 100000 in
set_option maxHeartbeats 2000000 in
theorem text_no {B : Nat} {v : Value} {l : List (Int × Int)} {w : World} (h : Rd B w v l) (hB : B ≤ w.heap.size) (hl : okR l = false) :
    Calls Tryz.prog 7 #[v] w fun e w' => e = .returned (.tuple #[.string ⟨#[]⟩, .int .i64 2]) ∧ Below w.heap.size w w' := by
  have HV := Lib.hid (valid_calls h hB)
  rw [hl] at HV
  clear h hl
  go_enter Tryz.func7, Tryz.ntmps7
  go_wp2_with (go_at_call 17; refine HV.out.mono ?_; rintro e w1 ⟨rfl, hB1⟩)
  go_ret2
  exact ⟨rfl, hB1⟩
set_option maxRecDepth 100000 in
set_option maxHeartbeats 2000000 in
theorem text_ok {B C : Nat} {v : Value} {l : List (Int × Int)} {w : World} (h : Rd B w v l) (hB : B ≤ w.heap.size) (hC : C ≤ w.heap.size) (ht : Env C w) (hl : okR l = true) (hlen : l.length ≤ 100) :
    Calls Tryz.prog 7 #[v] w fun e w' => e = .returned (.tuple #[.string ⟨(Lib.join ((l.map oneS).map (·.data.toList)) [44]).toArray⟩, .int .i64 0]) ∧ Below w.heap.size w w' := by
  have HV := Lib.hid (valid_calls h hB)
  have HRd := Lib.hid (fun (w' : World) (hb : Below w.heap.size w w') => h.below hb hB)
  have HT := Lib.hid (fun (w' : World) (hb : Below w.heap.size w w') => ht.later (hb.mono hC))
  have HOK := Lib.hid hl
  rw [hl] at HV
  obtain ⟨ao, cap, rfl, q1, q2, q3⟩ := h
  have H3 := Lib.hid q3
  obtain ⟨i0, hi, hz0, hz1, hz2⟩ := info_str
  clear q3 hl ht
  go_enter Tryz.func7, Tryz.ntmps7
  go_wp2_with (go_at_call 17; refine HV.out.mono ?_; rintro e w1 ⟨rfl, hB1⟩)
  go_loopw [4, 13] (fun v i wr => ∃ k : Nat, k ≤ l.length ∧ i = .int .i64 k ∧ OwnS wr w.heap.size v ((l.take k).map oneS) ∧ Below w.heap.size w wr) (fun _ i _ => l.length - (intOf i).toNat)
  case atStart => exact ⟨0, Nat.zero_le _, rfl, World.ownsRow_nil _ _ _ _, hB1⟩
  case round =>
    clear hB1
    obtain ⟨k, hk, rfl, hO, hBr⟩ := hrel
    by_cases hlt : k < l.length
    · obtain ⟨r, hr⟩ : ∃ r, l[k]? = some r := ⟨_, List.getElem?_eq_getElem hlt⟩
      obtain ⟨b, o, rfl, hb, c1, c2⟩ := H3.out k r hr
      have c1' := (World.cell?_of_block (hBr.block b (Nat.lt_of_lt_of_le hb hB))).trans c1
      have c2' := (World.cell?_of_block (hBr.block b (Nat.lt_of_lt_of_le hb hB))).trans c2
      have hlt' : (k : Int) < l.length := by omega
      have hrng := okFrom_get (show okFrom (-1) l = true from HOK.out) hr
      have HK := Lib.hid hlt
      have HW := Lib.hid (wrap_succ hlt q1 q2)
      have HTk := Lib.hid (show (l.take (k + 1)).map oneS = (l.take k).map oneS ++ [oneS r] by rw [List.take_add_one, hr, List.map_append]; rfl)
      have hlk : ((l.take k).map oneS).length = k := by rw [List.length_map, List.length_take]; omega
      have E1 := Lib.hid (show ((l.take k).map oneS).length + 1 ≤ maxLen by rw [hlk]; unfold maxLen; omega)
      have E2 := Lib.hid (show (((l.take k).map oneS).length + 1) * 16 ≤ 140737488355328 by rw [hlk]; omega)
      have HO := Lib.hid hO
      have HBr := Lib.hid hBr
      have hszr := hBr.size
      have HI1 := Lib.hid (fun (w' : World) (hw : Below w.heap.size w w') => itoa_calls (B := C) (r.1 + 1) (by omega) w' (Nat.le_trans hC hw.size) (HT.out _ hw))
      have HI2 := Lib.hid (fun (w' : World) (hw : Below w.heap.size w w') => itoa_calls (B := C) r.2 (by omega) w' (Nat.le_trans hC hw.size) (HT.out _ hw))
      clear hr hlt c1 c2 hO hBr hlk
      go_upto_region 7 with fail
      obtain ⟨P, hP⟩ : ∃ P, wr.heap.size = P := ⟨_, rfl⟩
      obtain ⟨W0, hW0⟩ : ∃ W0, wr.alloc (.cells #[.int .i64 r.1, .int .i64 r.2] 28) = W0 := ⟨_, rfl⟩
      have p0 : W0.heap[P]? = some (.cells #[.int .i64 r.1, .int .i64 r.2] 28 (0, 0)) := by rw [← hW0, ← hP]; exact World.alloc_heap_new wr _
      have hPs := (Array.getElem?_eq_some_iff.1 p0).1
      have hB0 : Below wr.heap.size wr W0 := by rw [← hW0]; exact (Below.refl _ wr).alloc (Nat.le_refl _) _
      change Code.wp _ _ _ _ (wr.alloc (.cells #[.int .i64 r.1, .int .i64 r.2] 28))
      rw [hW0, hP]
      have hBw0 := HBr.out.trans (hB0.mono hszr)
      have hc1 := cell_of p0 0
      have hc2 := cell_of p0 1
      have HP0 := Lib.hid p0
      have HO1 := Lib.hid (ownS_below HO.out hB0 (Nat.le_refl _))
      have HI1' := Lib.hid (HI1.out _ hBw0)
      have hw1 : wrap64 (r.1 + 1) = r.1 + 1 := wrap_in _ (by omega)
      clear p0 hW0 hP hB0 c1' c2'
      by_cases hg : r.1 + 1 < r.2
      · have HS := Lib.hid (show oneS r = ⟨(Lib.itoa (r.1 + 1)).toArray⟩ ++ (⟨#[45]⟩ ++ ⟨(Lib.itoa r.2).toArray⟩) by unfold oneS; rw [if_pos hg])
        obtain ⟨t1, ht1⟩ : ∃ t, (⟨(Lib.itoa (r.1 + 1)).toArray⟩ : ByteArray) = t := ⟨_, rfl⟩
        obtain ⟨t2, ht2⟩ : ∃ t, (⟨(Lib.itoa r.2).toArray⟩ : ByteArray) = t := ⟨_, rfl⟩
        have hz1 : t1.size ≤ 21 := by rw [← ht1]; show ((Lib.itoa (r.1 + 1)).toArray).size ≤ 21; rw [List.size_toArray]; exact Lib.itoa_length_le _ (by omega) (by omega)
        have hz2 : t2.size ≤ 21 := by rw [← ht2]; show ((Lib.itoa r.2).toArray).size ≤ 21; rw [List.size_toArray]; exact Lib.itoa_length_le _ (by omega) (by omega)
        rw [ht1] at HI1' HS
        rw [ht2] at HI2 HS
        have hs1 : ¬ 9223372036854775807 < 1 + t2.size := by omega
        have hs2 : ¬ 9223372036854775807 < t1.size + (1 + t2.size) := by omega
        clear ht1 ht2 hz1 hz2
        go_upto_region 10 with (first | (go_at_call 20; refine HI1'.out.mono ?_; clear HI1'; rintro e w2 ⟨rfl, hB2⟩; have hP2 := (hB2.block P hPs).trans HP0.out; have hk1 := cell_of hP2 0; have hk2 := cell_of hP2 1) | (go_at_call 20; refine (HI2.out w2 (hBw0.trans (hB2.mono hBw0.size))).mono ?_; rintro e w3 ⟨rfl, hB3⟩))
        have hB3' := hB2.trans (hB3.mono hB2.size)
        have HO2 := Lib.hid (ownS_below HO1.out hB3' (Nat.le_refl _))
        have hbw := hBw0.trans (hB3'.mono hBw0.size)
        have E3 := Lib.hid (show w.heap.size ≤ w3.heap.size + 1 from Nat.le_trans hbw.size (Nat.le_succ _))
        clear hrng hs1 hs2
        go_wp2_with (at_builtin; refine wpList_append_own _ rfl _ _ 37 rfl w.heap.size 9 i0 _ 1 16 Tryz.underlying37 hi hz0 hz1 hz2 rfl (by decide) _ _ _ rfl (HO2.out.alloc _) ⟨w3.heap.size, 0, none⟩ 1 1 [_] rfl rfl (new1 w3 _ _) (by simp [Value.oneCell']) E1.out E2.out (by simpa using E3.out) ?_; intro v' w5 hown' hgrow hnil')
        go_roundw
        case rel =>
          refine ⟨k + 1, HK.out, by push_cast; rfl, ?_, (hbw.alloc hbw.size _).grown hgrow (by simpa using E3.out) (fun j ej => (HO2.out.lt j ej).1)⟩
          rw [HTk.out, HS.out]
          unfold OwnS
          rw [List.length_append, List.map_append]
          exact hown'
        case measure => have := HK.out; simp only [intOf]; omega
      · have hd := decide_eq_false hg
        have HS := Lib.hid (show oneS r = ⟨(Lib.itoa (r.1 + 1)).toArray⟩ by unfold oneS; rw [if_neg hg])
        clear hrng hg
        obtain ⟨t1, ht1⟩ : ∃ t, (⟨(Lib.itoa (r.1 + 1)).toArray⟩ : ByteArray) = t := ⟨_, rfl⟩
        rw [ht1] at HI1' HS
        clear ht1
        go_upto_region 10 with (go_at_call 20; refine HI1'.out.mono ?_; clear HI1'; rintro e w2 ⟨rfl, hB2⟩; have hP2 := (hB2.block P hPs).trans HP0.out; have hk1 := cell_of hP2 0; have hk2 := cell_of hP2 1)
        have HO2 := Lib.hid (ownS_below HO1.out hB2 (Nat.le_refl _))
        have hbw := hBw0.trans (hB2.mono hBw0.size)
        have E3 := Lib.hid (show w.heap.size ≤ w2.heap.size + 1 from Nat.le_trans hbw.size (Nat.le_succ _))
        go_wp2_with (at_builtin; refine wpList_append_own _ rfl _ _ 37 rfl w.heap.size 9 i0 _ 1 16 Tryz.underlying37 hi hz0 hz1 hz2 rfl (by decide) _ _ _ rfl (HO2.out.alloc _) ⟨w2.heap.size, 0, none⟩ 1 1 [_] rfl rfl (new1 w2 _ _) (by simp [Value.oneCell']) E1.out E2.out (by simpa using E3.out) ?_; intro v' w5 hown' hgrow hnil')
        go_roundw
        case rel =>
          refine ⟨k + 1, HK.out, by push_cast; rfl, ?_, (hbw.alloc hbw.size _).grown hgrow (by simpa using E3.out) (fun j ej => (HO2.out.lt j ej).1)⟩
          rw [HTk.out, HS.out]
          unfold OwnS
          rw [List.length_append, List.map_append]
          exact hown'
        case measure => have := HK.out; simp only [intOf]; omega
    · have hlt' : ¬ (k : Int) < l.length := by omega
      rw [List.take_of_length_le (by omega)] at hO
      have HJ := Lib.hid (join_calls hO (by rw [List.length_map]; omega) (fun x hx => by
        obtain ⟨r, hr, rfl⟩ := List.mem_map.1 hx
        obtain ⟨j, hj⟩ := List.getElem?_of_mem hr
        have := okFrom_get (show okFrom (-1) l = true from HOK.out) hj
        exact oneS_size r (by omega)))
      obtain ⟨J, hJ⟩ : ∃ J : ByteArray, (⟨(Lib.join ((l.map oneS).map (·.data.toList)) [44]).toArray⟩ : ByteArray) = J := ⟨_, rfl⟩
      rw [hJ] at HJ
      have HJJ := Lib.hid hJ
      clear hO hJ
      go_wp2_with (go_at_call 21; refine HJ.out.mono ?_; rintro e w5 ⟨rfl, hB5⟩)
      go_ret2
      exact ⟨by rw [HJJ.out]; rfl, hBr.trans (hB5.mono hBr.size)⟩
end Go.Proofs.YtapojgbiboeaiaaGreatDoor
