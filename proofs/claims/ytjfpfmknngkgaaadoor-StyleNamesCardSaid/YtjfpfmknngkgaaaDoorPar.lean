/- Parse: the walk. Condition: the library's variable is there. -/
import Derived.Test.YtjfpfmknngkgaaaDoorPb2
namespace Go.Proofs.YtjfpfmknngkgaaaDoor
set_option linter.unusedVariables false
set_option linter.unusedSimpArgs false
open Go.RowKit Rng Go.Maps
attribute [local go_sem] Oper.semAt_some
set_option maxRecDepth 100000 in
theorem results_parse {V : World} {h : Nat} {s : Sty} {b c : Int} (tmps : Array Value) (t2 : tmps[2]?.getD undef = .pointer (some ⟨h, 0, none⟩)) (t3 : tmps[3]?.getD undef = .pointer (some ⟨h + 1, 0, none⟩)) (t4 : tmps[4]?.getD undef = .pointer (some ⟨h + 2, 0, none⟩))
    (h0 : SAt V h s) (h1 : V.heap[h + 1]? = some (.cells #[.int .i64 b] 3 (0, 0))) (h2 : V.heap[h + 2]? = some (.cells #[.int .i64 c] 24 (0, 0))) :
    (results Tryd.f12 tmps).run Tryd.prog V = .ok (.tuple #[s.val, .int .i64 b, .int .i64 c]) V := by
  have ha : ∀ a : Addr, (asAddr (.pointer (some a))).run Tryd.prog V = .ok a V := fun a => by simp [go_sem]
  have hl : (loadVar 23 ⟨h, 0, none⟩).run Tryd.prog V = .ok s.val V := run_loadVar_row (P := Tryd.prog) V h 23 23 s.cells.toArray (0, 0) _ h0 Tryd.underlying23 rfl (by kernel_rfl)
  have c1 := cell_of h1 0
  have c2 := cell_of h2 0
  simp only [List.getElem?_toArray, List.getElem?_cons_zero] at c1 c2
  have hl1 : (loadVar 3 ⟨h + 1, 0, none⟩).run Tryd.prog V = .ok (.int .i64 b) V := by simp [go_sem, c1]
  have hl2 : (loadVar 24 ⟨h + 2, 0, none⟩).run Tryd.prog V = .ok (.int .i64 c) V := by simp [go_sem, c2]
  simp [results, Tryd.f12, t2, t3, t4, ha, hl, hl1, hl2]
def ansP (r : Sty × Int × Int) : Value := .tuple #[r.1.val, .int .i64 r.2.1, .int .i64 r.2.2]
set_option maxRecDepth 100000 in
set_option maxHeartbeats 2000000 in
theorem parse_calls {B : Nat} (t : List UInt8) (w : World) (hB : B ≤ w.heap.size) (hE : EnvS B w) : Calls Tryd.prog 12 #[.string ⟨t.toArray⟩] w fun e w' => e = .returned (ansP (parseS t)) ∧ Below w.heap.size w w' := by
  refine (callsIn_wide (n := 8)).1 ?_
  refine callsIn_of_wp_marks Tryd.func12 rfl trivial ?_ rfl
  simp only [Tryd.ntmps12, List.size_toArray, List.length_cons, List.length_nil, Nat.reduceAdd, Nat.reduceSub, Array.replicate_succ, Array.replicate_zero, List.push_toArray, List.append_toArray, List.nil_append, List.cons_append]
  refine wpIn_wide.2 ?_
  obtain ⟨h, hh⟩ : ∃ h, w.heap.size = h := ⟨_, rfl⟩
  obtain ⟨sx, hsx⟩ : ∃ sx : ByteArray, (⟨t.toArray⟩ : ByteArray) = sx := ⟨_, rfl⟩
  have hsz : sx.size = t.length := by rw [← hsx]; exact List.size_toArray
  rw [hsx]
  have HE := Lib.hid (And.intro hB hE)
  clear hB hE
  go_upto_region 1 with fail
  have hz : (#[.int .i64 0, .int .i64 0, .int .i64 0, .int .i64 0, .bool false, .bool false, .bool false, .int .i64 0, .int .i64 0, .int .i64 0, .int .i64 0, .int .i64 0, .int .i64 0, .int .i64 0, .int .i64 0, .int .i64 0, .int .i64 0, .int .i64 0] : Array Value) = zeroSty.cells.toArray := rfl
  rw [hz]
  clear hz
  obtain ⟨W0, hW0⟩ : ∃ W0, ((w.alloc (.cells zeroSty.cells.toArray 23)).alloc (.cells #[.int .i64 0] 3)).alloc (.cells #[.int .i64 0] 24) = W0 := ⟨_, rfl⟩
  have hs0 : W0.heap.size = h + 3 := by rw [← hW0, ← hh]; simp
  have ha0 : SAt W0 h zeroSty := by
    unfold SAt
    rw [← hW0, ← hh]
    exact (Below.heap_alloc _ _ _ (by simp; omega)).trans ((Below.heap_alloc _ _ _ (by simp)).trans (World.alloc_heap_new w _))
  have ha1 : W0.heap[h + 1]? = some (.cells #[.int .i64 0] 3 (0, 0)) := by
    rw [← hW0, ← hh]
    have := World.alloc_heap_new (w.alloc (.cells zeroSty.cells.toArray 23)) (.cells #[.int .i64 0] 3)
    rw [World.size_alloc] at this
    exact (Below.heap_alloc _ _ _ (by simp)).trans this
  have ha2 : W0.heap[h + 2]? = some (.cells #[.int .i64 0] 24 (0, 0)) := by
    rw [← hW0, ← hh]
    have := World.alloc_heap_new ((w.alloc (.cells zeroSty.cells.toArray 23)).alloc (.cells #[.int .i64 0] 3)) (.cells #[.int .i64 0] 24)
    rwa [World.size_alloc, World.size_alloc] at this
  have hB0 : Below h w W0 := by rw [← hW0, ← hh]; exact (((Below.refl _ w).alloc (Nat.le_refl _) _).alloc (by simp) _).alloc (by simp; omega) _
  rw [hW0]
  rw [hh] at HE
  clear hW0
  rw [show h + 1 + 1 = h + 2 from rfl]
  by_cases hbig : 65536 < sx.size
  · have hbig' : 65536 < (sx.size : Int) := by omega
    have HP := Lib.hid (show parseS t = (zeroSty, 0, 3) by unfold parseS; rw [if_pos (by omega)])
    have HR0 := Lib.hid (show W0.heap[h]? = some (.cells zeroSty.cells.toArray 23 (0, 0)) from ha0)
    obtain ⟨W8, hW8⟩ : ∃ W8, W0.setRow h zeroSty.cells.toArray = W8 := ⟨_, rfl⟩
    have hS8 := set_sty ha0 zeroSty
    have r18 := (setRow_other W0 h (h + 1) zeroSty.cells.toArray (by omega)).trans ha1
    have r28 := (setRow_other W0 h (h + 2) zeroSty.cells.toArray (by omega)).trans ha2
    have b8 := below_setRow hB0 (Nat.le_refl h) zeroSty.cells.toArray
    rw [hW8] at hS8 r18 r28 b8
    have HW8 := Lib.hid hW8
    have l18 := (Array.getElem?_eq_some_iff.1 r18).1
    have l28 := (Array.getElem?_eq_some_iff.1 r28).1
    have c18 := cell_of r18 0
    have c28 := cell_of r28 0
    have f18 := frozen_of_row _ (h + 1) 0 _ _ r18
    have f28 := frozen_of_row _ (h + 2) 0 _ _ r28
    simp only [List.getElem?_toArray, List.getElem?_cons_zero] at c18 c28
    have H8 := Lib.hid (And.intro hS8 (And.intro r18 (And.intro r28 b8)))
    clear hW8 hS8 r18 r28 b8 ha0 ha1 ha2
    go_step3
    go_wp2_with (first
      | (refine wpList_store_row rfl 23 (.tmp 2) (.tmp 17) rfl h zeroSty.cells.toArray rfl rfl 23 _ HR0.out (by kernel_rfl) rfl (by kernel_rfl) ?_; rw [HW8.out])
      | go_in)
    obtain ⟨hS8, r18, r28, b8⟩ := H8.out
    have g9 := grownBy_setCellAt W8 (h + 1) 0 (.int .i64 0)
    have g10 := grownBy_setCellAt (W8.setCell ⟨h + 1, 0, none⟩ (.int .i64 0)) (h + 2) 0 (.int .i64 3)
    have q1 : ((W8.setCell ⟨h + 1, 0, none⟩ (.int .i64 0)).setCell ⟨h + 2, 0, none⟩ (.int .i64 3)).heap[h + 1]? = some (.cells #[.int .i64 0] 3 (0, 0)) := (g10.block (h + 1) (by have := g9.size; omega) (fun e => by simp at e)).trans ((heap_setCell_same _ _ _ _ _ _ r18).trans rfl)
    have q2 : ((W8.setCell ⟨h + 1, 0, none⟩ (.int .i64 0)).setCell ⟨h + 2, 0, none⟩ (.int .i64 3)).heap[h + 2]? = some (.cells #[.int .i64 3] 24 (0, 0)) := (heap_setCell_same _ _ _ _ _ _ ((g9.block (h + 2) l28 (fun e => by simp at e)).trans r28)).trans rfl
    have q0 : SAt ((W8.setCell ⟨h + 1, 0, none⟩ (.int .i64 0)).setCell ⟨h + 2, 0, none⟩ (.int .i64 3)) h zeroSty := hS8.block ((g10.block h (by have := g9.size; omega) (fun e => by simp at e)).trans (g9.block h (by omega) (fun e => by simp at e)))
    have qb : Below h w ((W8.setCell ⟨h + 1, 0, none⟩ (.int .i64 0)).setCell ⟨h + 2, 0, none⟩ (.int .i64 3)) := (b8.grown g9 (by omega) (fun k e => by cases e; omega)).grown g10 (by have := g9.size; omega) (fun k e => by cases e; omega)
    generalize (W8.setCell ⟨h + 1, 0, none⟩ (.int .i64 0)).setCell ⟨h + 2, 0, none⟩ (.int .i64 3) = W9 at q0 q1 q2 qb ⊢
    rw [Exit.noGoto_ret]
    exact ⟨ansP (zeroSty, 0, 3), results_parse _ rfl rfl rfl q0 q1 q2, by rw [HP.out], by rw [hh]; exact qb⟩
  · have hbig' : ¬ 65536 < (sx.size : Int) := by omega
    have HP := Lib.hid (show parseS t = parseFrom (splitNl t) firstSty [] 0 by unfold parseS; rw [if_neg (by omega)])
    have HSZ := Lib.hid (show sx.size ≤ 65536 ∧ sx.size = t.length by omega)
    clear hsz
    go_step3
    go_upto_region 4 with (first
      | (go_at_call 14; refine (first_calls _).mono ?_; rintro e W1 ⟨rfl, hB1⟩)
      | (refine wpList_store_row rfl 23 (.tmp 5) (.tmp 18) rfl _ firstSty.cells.toArray rfl rfl 23 _ (World.alloc_heap_new _ _) (by kernel_rfl) rfl (by kernel_rfl) ?_)
      | go_in)
    have hmm := @run_makeMap Tryd.prog
    go_wp2
    clear hmm
    have hz : (#[.int .i64 0, .int .i64 0, .int .i64 0, .int .i64 0, .bool false, .bool false, .bool false, .int .i64 0, .int .i64 0, .int .i64 0, .int .i64 0, .int .i64 0, .int .i64 0, .int .i64 0, .int .i64 0, .int .i64 0, .int .i64 0, .int .i64 0] : Array Value) = zeroSty.cells.toArray := rfl
    rw [hz]
    clear hz
    obtain ⟨s1, hs1⟩ : ∃ s1, W1.heap.size = s1 := ⟨_, rfl⟩
    have hsz1 := hB1.size
    have hS2 := set_sty (World.alloc_heap_new W1 (.cells zeroSty.cells.toArray 23) : SAt _ _ zeroSty) firstSty
    obtain ⟨W2, hW2⟩ : ∃ W2, (W1.alloc (.cells zeroSty.cells.toArray 23)).setRow W1.heap.size firstSty.cells.toArray = W2 := ⟨_, rfl⟩
    have hz2 : W2.heap.size = s1 + 1 := by rw [← hW2, ← hs1]; simp
    have hB2 : Below h w W2 := by rw [← hW2]; exact below_setRow (((hB0.trans (hB1.mono (by omega)))).alloc (by omega) _) (by omega) _
    have hb2 : ∀ k, k < s1 → W2.heap[k]? = W1.heap[k]? := fun k hk => by rw [← hW2]; exact (setRow_other _ _ _ _ (by omega)).trans (Below.heap_alloc _ _ _ (by omega))
    rw [hW2] at hS2
    rw [hs1] at hS2
    obtain ⟨W5, hW5⟩ : ∃ W5, ((W2.alloc (.map #[] 0)).alloc (.cells #[.map (some (s1 + 1))] 67)).alloc (.cells #[.int .i64 0] 3) = W5 := ⟨_, rfl⟩
    have hz5 : W5.heap.size = s1 + 4 := by rw [← hW5]; simp; omega
    have hB5 : Below h w W5 := by rw [← hW5]; exact ((hB2.alloc (by omega) _).alloc (by simp; omega) _).alloc (by simp; omega) _
    have hS5 : SAt W5 s1 firstSty := hS2.block (by rw [← hW5]; exact (Below.heap_alloc _ _ _ (by simp; omega)).trans ((Below.heap_alloc _ _ _ (by simp; omega)).trans (Below.heap_alloc _ _ _ (by omega))))
    have hb5 : ∀ k, k < s1 → W5.heap[k]? = W1.heap[k]? := fun k hk => by
      rw [← hW5]
      exact (Below.heap_alloc _ _ _ (by simp; omega)).trans ((Below.heap_alloc _ _ _ (by simp; omega)).trans ((Below.heap_alloc _ _ _ (by omega)).trans (hb2 k hk)))
    have hM5 : MapN W5 (s1 + 1) 0 [] (.map []) := by
      have h1 : MapN (W2.alloc (.map #[] 0)) (s1 + 1) 0 [] (.map []) := ⟨by rw [← hz2]; exact World.ownsMap_made _ _ _ _, fun x => rfl⟩
      refine h1.block ?_
      rw [← hW5]
      exact (Below.heap_alloc _ _ _ (by simp; omega)).trans (Below.heap_alloc _ _ _ (by simp; omega))
    have hp5 : W5.heap[s1 + 2]? = some (.cells #[.map (some (s1 + 1))] 67 (0, 0)) := by
      rw [← hW5]
      have := World.alloc_heap_new (W2.alloc (.map #[] 0)) (.cells #[.map (some (s1 + 1))] 67)
      rw [World.size_alloc, hz2] at this
      exact (Below.heap_alloc _ _ _ (by simp; omega)).trans this
    have ht5 : W5.heap[s1 + 3]? = some (.cells #[.int .i64 0] 3 (0, 0)) := by
      rw [← hW5]
      have := World.alloc_heap_new ((W2.alloc (.map #[] 0)).alloc (.cells #[.map (some (s1 + 1))] 67)) (.cells #[.int .i64 0] 3)
      rwa [World.size_alloc, World.size_alloc, hz2] at this
    have ha5 : SAt W5 h zeroSty := ha0.block ((hb5 h (by omega)).trans (hB1.block _ (by omega)))
    have hc5 : W5.heap[h + 1]? = some (.cells #[.int .i64 0] 3 (0, 0)) := ((hb5 _ (by omega)).trans (hB1.block _ (by omega))).trans ha1
    have hd5 : W5.heap[h + 2]? = some (.cells #[.int .i64 0] 24 (0, 0)) := ((hb5 _ (by omega)).trans (hB1.block _ (by omega))).trans ha2
    have hlo : h + 3 ≤ s1 := by omega
    rw [hW2, hs1, hW5]
    rw [show s1 + 1 + 1 = s1 + 2 from rfl, show s1 + 2 + 1 = s1 + 3 from rfl]
    clear hW2 hW5 hS2 hb2 hB2 hz2 hb5 hB1 hsz1 hs1 ha0 ha1 ha2 hB0 hs0
    go_step3
    go_wp2_with (first | (go_at_call 26; refine (split_maker _ _).mono ?_; rintro e W6 ⟨rfl, hW6⟩) | go_in)
    rw [← hW6]
    have hz6 : W6.heap.size = s1 + 7 := by rw [hW6]; simp; omega
    have hB6 : Below W5.heap.size W5 W6 := by rw [hW6]; exact (((Below.refl _ W5).alloc (Nat.le_refl _) _).alloc (by simp) _).alloc (by simp; omega) _
    have hSp : SplAt (s1 + 4) (s1 + 4 + 1) (s1 + 4 + 1 + 1) sx W6 := by
      have a1 := World.alloc_heap_new W5 (.cells #[.string sx] 9)
      have a2 := World.alloc_heap_new (W5.alloc (.cells #[.string sx] 9)) (.cells #[.string ⟨#[10]⟩] 9)
      have a3 := World.alloc_heap_new ((W5.alloc (.cells #[.string sx] 9)).alloc (.cells #[.string ⟨#[10]⟩] 9)) (.cells #[.int .i64 0] 3)
      rw [World.size_alloc, hz5] at a2
      rw [World.size_alloc, World.size_alloc, hz5] at a3
      rw [hz5] at a1
      rw [hW6]
      exact ⟨(Below.heap_alloc _ _ _ (by simp; omega)).trans ((Below.heap_alloc _ _ _ (by simp; omega)).trans a1), (Below.heap_alloc _ _ _ (by simp; omega)).trans a2, a3⟩
    have hsl : splitNl sx.data.toList = splitNl t := by rw [← hsx]
    have hA6 : ParAt h s1 w (splitNl t) [] W6 := by
      have gg := gb hB6
      have bl : ∀ k, k < s1 + 4 → W6.heap[k]? = W5.heap[k]? := fun k hk => hB6.block k (by omega)
      exact ⟨firstSty, [], fun suf e => by rw [e]; rfl, ⟨hS5.block (bl _ (by omega)), _, 0, hM5.block (bl _ (by omega)), Nat.le_refl _⟩,
        (bl _ (by omega)).trans hp5, (bl _ (by omega)).trans ht5, ha5.block (bl _ (by omega)), (bl _ (by omega)).trans hc5, (bl _ (by omega)).trans hd5, hB5.trans (hB6.mono (by omega)), hlo, by omega⟩
    have hLL : lensL (splitNl t) ≤ 65537 := by rw [lens_split]; have := HSZ.out; omega
    have hE2 := HE.out
    have HH := Lib.hid hh
    clear hW6 hB6 hS5 hM5 hp5 ht5 ha5 hc5 hd5 hB5 hz5 HE
    refine (wpIn_wide (n := 8)).1 ?_
    refine range_law_r (n := 8) (gf := 51) (lb := #[.pointer (some ⟨s1 + 4 + 1, 0, none⟩), .pointer (some ⟨s1 + 4, 0, none⟩), .pointer (some ⟨s1 + 4 + 1 + 1, 0, none⟩)]) rfl (enters_of Tryd.func51 (by kernel_rfl) rfl) (split1_iter (s1 + 4) (s1 + 4 + 1) (s1 + 4 + 1 + 1) (by omega) (by omega) sx (by have := HSZ.out; omega)) (by intro _; rfl)
      (fun k hk => by simp at hk; omega) (fun k hk => by simp at hk; omega)
      (fun W hg => hSp.of_same (Same.grown hg (fun k hk => by simp at hk; omega) (fun r e => by cases e)))
      (ParAt h s1 w (splitNl t)) (fun c _ W' => c = .ret ∧ ParEnd h w (splitNl t) W')
      (fun s X Y row hI hg hr => hI.kept hg (fun r e => by
        rcases hr r e with h1 | ⟨h1, _⟩
        · simp at h1; omega
        · omega))
      (fun c s X Y row hI hg hr => ⟨hI.1, hI.2.kept hg (fun r e => by
        rcases hr r e with h1 | ⟨h1, _⟩
        · simp at h1; omega
        · omega)⟩) hA6 ?round ?done ?stop
    case round =>
      rintro l pre x suf W hL hq hqW hI
      rw [hsl] at hL
      gi_wp2
      refine ⟨⟨Nat.le_refl _, fun _ _ _ h _ => h⟩, Same.refl _ _, fun W2 hg2 hl2 hrr => ?_⟩
      have hI2 : ParAt h s1 w (splitNl t) pre W2 := hI.kept hg2 (fun r e => by cases e; omega)
      rw [hz6]
      exact line_round (B := B) hrr (by omega) hI2 hL hLL (by rw [hh]; exact hE2.1) hE2.2 hh _ _ _ _ _ _ _ _ _ _ _ _ _ _ _ _ _ _ _ _ _ _ _ _ _ _ _ _ _ _ _ _ _ _ _ _ _ _ _ _ _ _ _ _ _ _ _ _ _ _ _ _ _ _ _ _ _ _ _ _ _ _ _ _ _ _ _ _ _ _ _ _ _ _ _ _ _ _ _ _ _
    case done =>
      rintro K W hK ⟨s, had, p1, p2, p3⟩ hKd
      rw [hsl] at p1
      have hK2 := (Array.getElem?_eq_some_iff.1 hKd).1
      have HST := Lib.hid p2.sty
      have HR0 := Lib.hid (show W.heap[h]? = some (.cells zeroSty.cells.toArray 23 (0, 0)) from p3.r0)
      obtain ⟨W8, hW8⟩ : ∃ W8, W.setRow h s.cells.toArray = W8 := ⟨_, rfl⟩
      have hS8 := set_sty p3.r0 s
      have r18 := (setRow_other W h (h + 1) s.cells.toArray (by omega)).trans p3.r1
      have r28 := (setRow_other W h (h + 2) s.cells.toArray (by omega)).trans p3.r2
      have k8 := (setRow_other W h K s.cells.toArray (by have := p3.lo; omega)).trans hKd
      have b8 := below_setRow p3.below (Nat.le_refl h) s.cells.toArray
      rw [hW8] at hS8 r18 r28 k8 b8
      have HW8 := Lib.hid hW8
      have l18 := (Array.getElem?_eq_some_iff.1 r18).1
      have l28 := (Array.getElem?_eq_some_iff.1 r28).1
      have c18 := cell_of r18 0
      have c28 := cell_of r28 0
      have f18 := frozen_of_row _ (h + 1) 0 _ _ r18
      have f28 := frozen_of_row _ (h + 2) 0 _ _ r28
      simp only [List.getElem?_toArray, List.getElem?_cons_zero] at c18 c28
      have H8 := Lib.hid (And.intro hS8 (And.intro r18 (And.intro r28 (And.intro k8 b8))))
      have HP1 := Lib.hid (show parseFrom (splitNl t) firstSty [] 0 = (s, 0, 0) by
        have := p1 [] (by simp)
        rw [this]
        rfl)
      have HLO := Lib.hid p3.lo
      clear p1 p2 p3 hW8 hS8 r18 r28 k8 b8 hA6 hSp
      go_wp2_with (first
        | (refine wpList_load_row rfl 23 (.tmp 5) rfl s1 rfl 23 s.cells.toArray (0, 0) _ HST.out Tryd.underlying23 rfl (by kernel_rfl) ?_)
        | (refine wpList_store_row rfl 23 (.tmp 2) (.tmp 87) rfl h s.cells.toArray rfl rfl 23 _ HR0.out (by kernel_rfl) rfl (by kernel_rfl) ?_; rw [HW8.out]))
      obtain ⟨hS8, r18, r28, k8, b8⟩ := H8.out
      have g9 := grownBy_setCellAt W8 (h + 1) 0 (.int .i64 0)
      have g10 := grownBy_setCellAt (W8.setCell ⟨h + 1, 0, none⟩ (.int .i64 0)) (h + 2) 0 (.int .i64 0)
      have q1 : ((W8.setCell ⟨h + 1, 0, none⟩ (.int .i64 0)).setCell ⟨h + 2, 0, none⟩ (.int .i64 0)).heap[h + 1]? = some (.cells #[.int .i64 0] 3 (0, 0)) := (g10.block (h + 1) (by have := g9.size; omega) (fun e => by simp at e)).trans ((heap_setCell_same _ _ _ _ _ _ r18).trans rfl)
      have q2 : ((W8.setCell ⟨h + 1, 0, none⟩ (.int .i64 0)).setCell ⟨h + 2, 0, none⟩ (.int .i64 0)).heap[h + 2]? = some (.cells #[.int .i64 0] 24 (0, 0)) := (heap_setCell_same _ _ _ _ _ _ ((g9.block (h + 2) l28 (fun e => by simp at e)).trans r28)).trans rfl
      have q0 : SAt ((W8.setCell ⟨h + 1, 0, none⟩ (.int .i64 0)).setCell ⟨h + 2, 0, none⟩ (.int .i64 0)) h s := hS8.block ((g10.block h (by have := g9.size; omega) (fun e => by simp at e)).trans (g9.block h (by omega) (fun e => by simp at e)))
      have qk : ((W8.setCell ⟨h + 1, 0, none⟩ (.int .i64 0)).setCell ⟨h + 2, 0, none⟩ (.int .i64 0)).heap[K]? = some (.deferred (some [])) := ((g10.block K (by have := g9.size; have := (Array.getElem?_eq_some_iff.1 k8).1; omega) (fun e => by have := HLO.out; simp at e; omega)).trans (g9.block K (Array.getElem?_eq_some_iff.1 k8).1 (fun e => by have := HLO.out; simp at e; omega))).trans k8
      have qb : Below h w ((W8.setCell ⟨h + 1, 0, none⟩ (.int .i64 0)).setCell ⟨h + 2, 0, none⟩ (.int .i64 0)) := (b8.grown g9 (by omega) (fun k e => by cases e; omega)).grown g10 (by have := g9.size; omega) (fun k e => by cases e; omega)
      have hlo := HLO.out
      generalize (W8.setCell ⟨h + 1, 0, none⟩ (.int .i64 0)).setCell ⟨h + 2, 0, none⟩ (.int .i64 0) = W9 at q0 q1 q2 qk qb ⊢
      rw [Exit.noGoto_ret]
      refine ⟨by simp, .inl ⟨_, _, rfl, run_takeDeferred qk, ?_⟩⟩
      have e9 : ∀ k, k < h + 3 → (W9.putObj K (.deferred none)).heap[k]? = W9.heap[k]? := fun k hk => World.putObj_heap_other (by omega)
      refine ⟨ansP (s, 0, 0), results_parse _ rfl rfl rfl (q0.block (e9 _ (by omega))) ((e9 _ (by omega)).trans q1) ((e9 _ (by omega)).trans q2), by rw [HP.out, HP1.out], ?_⟩
      rw [hh]
      exact qb.grown (grownBy_putObj' _ _ _) (by have := (Array.getElem?_eq_some_iff.1 q2).1; omega) (fun k e => by cases e; omega)
    case stop =>
      rintro K c pre suf W hK hL ⟨rfl, b, p1, p2, p3, p4, p5⟩ hKd
      have hK2 := (Array.getElem?_eq_some_iff.1 hKd).1
      gi_wp2
      rw [Exit.noGoto_ret]
      refine ⟨by simp, .inl ⟨_, _, rfl, run_takeDeferred hKd, ?_⟩⟩
      have e9 : ∀ k, k < h + 3 → (W.putObj K (.deferred none)).heap[k]? = W.heap[k]? := fun k hk => World.putObj_heap_other (by omega)
      refine ⟨ansP (zeroSty, b, 90), results_parse _ rfl rfl rfl (p2.block (e9 _ (by omega))) ((e9 _ (by omega)).trans p3) ((e9 _ (by omega)).trans p4), by rw [HP.out, p1], ?_⟩
      rw [hh]
      exact p5.grown (grownBy_putObj' _ _ _) (by have := (Array.getElem?_eq_some_iff.1 p4).1; omega) (fun k e => by cases e; omega)
end Go.Proofs.YtjfpfmknngkgaaaDoor
