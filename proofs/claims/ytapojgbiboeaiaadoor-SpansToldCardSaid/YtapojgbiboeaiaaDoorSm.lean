/- Same says whether two lists of ranges are one. -/
import Derived.Test.YtapojgbiboeaiaaDoorRv
import Derived.Test.YtapojgbiboeaiaaDoorQl
namespace Go.Proofs.YtapojgbiboeaiaaDoor
set_option linter.unusedVariables false
set_option linter.unusedSimpArgs false
open Go.RowKit Rng
theorem take_succ_eq {α : Type} {l m : List α} {k : Nat} {r q : α} (h : l.take k = m.take k) (hr : l[k]? = some r) (hq : m[k]? = some q) : l.take (k + 1) = m.take (k + 1) ↔ r = q := by
  rw [List.take_add_one, List.take_add_one, hr, hq, h]
  simp
set_option maxRecDepth 100000 in
set_option maxHeartbeats 1000000 in
theorem same_calls {B C : Nat} {v u : Value} {l m : List (Int × Int)} {w : World} (h : Rd B w v l) (hB : B ≤ w.heap.size) (h' : Rd C w u m) (hC : C ≤ w.heap.size) :
    Calls Tryd.prog 12 #[v, u] w fun e w' => e = .returned (.bool (decide (l = m))) ∧ Below w.heap.size w w' := by
  obtain ⟨ao, cap, rfl, h1, h2, h3⟩ := h
  obtain ⟨bo, dap, rfl, k1, k2, k3⟩ := h'
  have H3 := Lib.hid h3
  have K3 := Lib.hid k3
  clear h3 k3
  by_cases hlen : l.length = m.length
  · have hlen' : (l.length : Int) = m.length := by omega
    have HLN := Lib.hid hlen
    go_enter Tryd.func12, Tryd.ntmps12
    clear hlen
    go_wp2
    clear hlen'
    go_loopw [5] (fun i wr => ∃ k : Nat, k ≤ l.length ∧ i = .int .i64 k ∧ l.take k = m.take k ∧ Below w.heap.size w wr) (fun i _ => l.length - (intOf i).toNat)
    case atStart => exact ⟨0, by omega, rfl, by simp, Below.refl _ _⟩
    case round =>
      obtain ⟨k, hk, rfl, htk, hBr⟩ := hrel
      by_cases hlt : k < l.length
      · obtain ⟨r, hr⟩ : ∃ r, l[k]? = some r := ⟨_, List.getElem?_eq_getElem hlt⟩
        obtain ⟨q, hq⟩ : ∃ q, m[k]? = some q := ⟨_, List.getElem?_eq_getElem (by have := HLN.out; omega)⟩
        obtain ⟨b, o, rfl, hb, c1, c2⟩ := H3.out k r hr
        obtain ⟨b', o', rfl, hb', d1, d2⟩ := K3.out k q hq
        have c1' := fun d os => cell_regrown ((World.cell?_of_block (hBr.block b (Nat.lt_of_lt_of_le hb hB))).trans c1) d os
        have c2' := fun d os => cell_regrown ((World.cell?_of_block (hBr.block b (Nat.lt_of_lt_of_le hb hB))).trans c2) d os
        have d1' := fun d os => cell_regrown ((World.cell?_of_block (hBr.block b' (Nat.lt_of_lt_of_le hb' hC))).trans d1) d os
        have d2' := fun d os => cell_regrown ((World.cell?_of_block (hBr.block b' (Nat.lt_of_lt_of_le hb' hC))).trans d2) d os
        have hlt' : (k : Int) < l.length := by omega
        have hlm : (k : Int) < m.length := by have := HLN.out; omega
        have hw := wrap_succ hlt h1 h2
        have HW := Lib.hid hw
        have HK := Lib.hid hlt
        have HT := Lib.hid (take_succ_eq htk hr hq)
        clear htk hr hq hlt hw c1 c2 d1 d2
        by_cases e : r = q
        · have hn := fun W => (neq_rg r.1 r.2 q.1 q.2 W).trans (show _ = Result.ok (Value.bool false) W by rw [e]; simp)
          have HT2 := Lib.hid (HT.out.2 e)
          clear e
          go_upto_region 6 with fail
          refine wp_region_quiet_below (by kernel_rfl) (by kernel_rfl) ?_
          repeat (first | (refine quiet_load_mid (by rfl) 38 _ rfl b (o + k * 2) rfl [.int .i64 r.1, .int .i64 r.2] _ (by rintro _ ⟨p, rfl⟩; exact range2 (c1' p.d p.os) (c2' p.d p.os)) Tryd.underlying38 rfl (by kernel_rfl) ?_; go_simp) | (refine quiet_load_mid (by rfl) 38 _ rfl b' (o' + k * 2) rfl [.int .i64 q.1, .int .i64 q.2] _ (by rintro _ ⟨p, rfl⟩; exact range2 (d1' p.d p.os) (d2' p.d p.os)) Tryd.underlying38 rfl (by kernel_rfl) ?_; go_simp) | go_big_quiet_step (fail))
          refine wpQuiet_nil ?_
          intro p
          have hB3 := below_regrown wr p.d p.os
          go_wp2
          have hlt := HK.out
          go_roundw
          case rel => exact ⟨k + 1, hlt, by rw [HW.out], HT2.out, hBr.trans (hB3.mono hBr.size)⟩
          case measure => rw [HW.out]; simp only [intOf]; omega
        · have hn := fun W => (neq_rg r.1 r.2 q.1 q.2 W).trans (show _ = Result.ok (Value.bool true) W by
            have : ¬ (r.1 = q.1 ∧ r.2 = q.2) := fun h => e (Prod.ext h.1 h.2)
            rw [show (decide (r.1 = q.1) && decide (r.2 = q.2)) = false by simpa using this]
            rfl)
          have HT2 := Lib.hid (show l ≠ m from fun h => e (HT.out.1 (by rw [h])))
          clear e
          go_upto_region 6 with fail
          refine wp_region_quiet_below (by kernel_rfl) (by kernel_rfl) ?_
          repeat (first | (refine quiet_load_mid (by rfl) 38 _ rfl b (o + k * 2) rfl [.int .i64 r.1, .int .i64 r.2] _ (by rintro _ ⟨p, rfl⟩; exact range2 (c1' p.d p.os) (c2' p.d p.os)) Tryd.underlying38 rfl (by kernel_rfl) ?_; go_simp) | (refine quiet_load_mid (by rfl) 38 _ rfl b' (o' + k * 2) rfl [.int .i64 q.1, .int .i64 q.2] _ (by rintro _ ⟨p, rfl⟩; exact range2 (d1' p.d p.os) (d2' p.d p.os)) Tryd.underlying38 rfl (by kernel_rfl) ?_; go_simp) | go_big_quiet_step (fail))
          refine wpQuiet_nil ?_
          intro p
          have hB3 := below_regrown wr p.d p.os
          go_wp2
          go_ret
          exact ⟨by rw [decide_eq_false HT2.out]; rfl, hBr.trans (hB3.mono hBr.size)⟩
      · have hlt' : ¬ (k : Int) < l.length := by omega
        have HE := Lib.hid (show l = m by
          have e := HLN.out
          rw [List.take_of_length_le (by omega), List.take_of_length_le (by omega)] at htk
          exact htk)
        clear htk
        go_wp2
        go_ret
        exact ⟨by rw [decide_eq_true HE.out]; rfl, hBr⟩
  · have hlen' : ¬ (l.length : Int) = m.length := by omega
    have HLN := Lib.hid (show l ≠ m from fun e => hlen (by rw [e]))
    go_enter Tryd.func12, Tryd.ntmps12
    go_wp2
    go_ret
    exact ⟨by rw [decide_eq_false HLN.out]; rfl, Below.refl _ _⟩
end Go.Proofs.YtapojgbiboeaiaaDoor
