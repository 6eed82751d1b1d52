/- A range over a function within a round of another: the laws of both loops. Conditions: the iterators' contracts, the rounds' walks. -/
import Derived.Test.YtjfpfmknngkgaaaDoorRng
namespace Go.Proofs.YtjfpfmknngkgaaaDoor.Rng
set_option linter.unusedVariables false
set_option linter.unusedSimpArgs false
open Go Go.RowKit
/-- The law at the wide fence, where the body is told of its own record (a loop within it wants that). -/
theorem range_law_r {α : Type} {P : Program} {n : Nat} {g : Operand} {ps : Array Tmp} {assign body : Code} {Q : Exit → Act → World → Prop} {a : Act} {w : World}
    {gf : Nat} {lb : Array Value} (hg : a.eval g = .func (.func gf) #[] lb) (eg : ∀ args w, (callFunc gf args).run P w = .ok (.enter gf args) w)
    {encs : α → Array Value} {C D : List Nat} {Pre : World → Prop} {L : List α} (hit : Iter P n gf lb encs C D Pre L) (hps : ∀ x, (encs x).size = ps.size)
    (hC : ∀ k, k ∈ C → k < w.heap.size) (hD : ∀ k, k ∈ D → k < w.heap.size) (hpre : ∀ W, w.grownBy W none → Pre W)
    (I : List α → World → Prop) (Ix : Code → List α → World → Prop) (hI : Abides w.heap.size C I) (hIx : ∀ c, Abides w.heap.size C (Ix c)) (h0 : I [] w)
    (hround : ∀ (l : Nat) (pre : List α) (x : α) (suf : List α) (W : World), L = pre ++ x :: suf → w.heap.size ≤ l → l < W.heap.size → I pre W →
      assign.wpIn (Fence.wide.inRound l) n P (Exit.then (fun a₁ W₁ => KeepsFrom w.heap.size W W₁ ∧ Same D W W₁ ∧
          ∀ W₂, W₁.grownBy W₂ (some l) → (∃ o : Obj, W₁.heap[l]? = some o ∧ o.isCells = false) → (∃ rr, W₂.heap[l]? = some (.loop rr)) → body.wpIn (Fence.wide.inRound l) n P (post w.heap.size D I Ix (pre ++ [x]) W₂) a₁ W₂) (fun _ _ _ => False))
        { tmps := (ps.zip (encs x)).foldl (fun t (p, v) => t.setIfInBounds p v) a.tmps, defers := [] } W)
    (hdone : ∀ (K : Nat) (W : World), w.heap.size ≤ K → I L W → W.heap[K]? = some (.deferred (some [])) → Q .normal { a with defers := { target := .collected K, args := #[] } :: a.defers } W)
    (hstop : ∀ (K : Nat) (c : Code) (pre suf : List α) (W : World), w.heap.size ≤ K → L = pre ++ suf → Ix c pre W → W.heap[K]? = some (.deferred (some [])) → c.wpIn Fence.wide n P Q { a with defers := { target := .collected K, args := #[] } :: a.defers } W) :
    (Code.rangeFunc g ps assign body).wpIn Fence.wide n P Q a w := by
  refine wpIn_rangeFunc ?_
  intro fn hfn
  have hro : Fence.wide.round = none := rfl
  rw [hro]
  obtain ⟨rec, hrec⟩ : ∃ rec : LoopState → Option Code → Loop, rec = fun st pe => { state := st, pending := pe, fn, tmps := a.tmps, params := ps, assign, body, defers := w.heap.size } := ⟨_, rfl⟩
  obtain ⟨W1, hW1⟩ : ∃ W1, (w.alloc (.deferred (some []))).alloc (.loop (rec .ready none)) = W1 := ⟨_, rfl⟩
  have hL1 : W1.heap[w.heap.size + 1]? = some (.loop (rec .ready none)) := by
    rw [← hW1]; have := World.alloc_heap_new (w.alloc (.deferred (some []))) (.loop (rec .ready none)); rwa [World.size_alloc] at this
  have hK1 : W1.heap[w.heap.size]? = some (.deferred (some [])) := by
    rw [← hW1]; exact (Below.heap_alloc _ _ _ (by simp)).trans (World.alloc_heap_new w _)
  have hg1 : w.grownBy W1 none := by
    rw [← hW1]
    have h1 := World.grownBy_alloc w (.deferred (some [])) none
    have h2 := World.grownBy_alloc (w.alloc (.deferred (some []))) (.loop (rec .ready none)) none
    exact ⟨h2.os.trans h1.os, h2.tape.trans h1.tape, h2.output.trans h1.output, Nat.le_trans h1.size h2.size, fun k hk hr => (h2.block k (Nat.lt_of_lt_of_le hk h1.size) hr).trans (h1.block k hk hr)⟩
  have hI1 : I [] W1 := hI _ _ _ _ h0 hg1 (fun r e => by cases e)
  refine ⟨w.heap.size + 1, [{ target := .collected w.heap.size, args := #[] }], W1, { target := .fn (.func gf) lb, args := #[.func (.yield (w.heap.size + 1)) #[] #[]] }, W1, gf,
    #[.func (.yield (w.heap.size + 1)) #[] #[]] ++ lb, W1, ?_, ?_, ?_, ?_, fun h => by simp [Fence.wide] at h, ?_⟩
  · rw [← hW1, hrec]; exact run_enterLoop_outer _ _ _ _ _
  · simp only [resolve, hg]
    simp [go_sem]
  · intro f' hf'; trivial
  · simp [invoke, go_sem, eg]
  · have wide_n : ∀ {f : FuncId} {args : Array Value} {V : World} {R : Ending → World → Prop}, CallsIn Fence.wide (n + 1) P f args V R → CallsIn Fence.wide (n - 1) P f args V R :=
      fun h => callsIn_wide.2 (callsIn_wide.1 h)
    refine wide_n ((hit (w.heap.size + 1)
      (fun pre W => I pre W ∧ W.heap[w.heap.size + 1]? = some (.loop (rec .ready none)) ∧ W.heap[w.heap.size]? = some (.deferred (some [])))
      (fun pre W => ∃ c, Ix c pre W ∧ W.heap[w.heap.size + 1]? = some (.loop (rec .done (some c))) ∧ W.heap[w.heap.size]? = some (.deferred (some [])))
      W1 (hpre W1 hg1) ?_ ?_ ?_ ⟨hI1, hL1, hK1⟩).mono ?_)
    · rintro s X Y row ⟨hi, hl, hk⟩ hg' hr
      refine ⟨hI s X Y row hi hg' (fun r e => .inl (hr r e)), ?_, ?_⟩
      · exact (hg'.block _ (Array.getElem?_eq_some_iff.1 hl).1 (fun e => by have := hC _ (hr _ e.symm); omega)).trans hl
      · exact (hg'.block _ (Array.getElem?_eq_some_iff.1 hk).1 (fun e => by have := hC _ (hr _ e.symm); omega)).trans hk
    · rintro s X Y row ⟨c, hi, hl, hk⟩ hg' hr
      refine ⟨c, hIx c s X Y row hi hg' (fun r e => .inl (hr r e)), ?_, ?_⟩
      · exact (hg'.block _ (Array.getElem?_eq_some_iff.1 hl).1 (fun e => by have := hC _ (hr _ e.symm); omega)).trans hl
      · exact (hg'.block _ (Array.getElem?_eq_some_iff.1 hk).1 (fun e => by have := hC _ (hr _ e.symm); omega)).trans hk
    · rintro pre x suf W hLs ⟨hi, hl, hk⟩
      have hlt : w.heap.size + 1 < W.heap.size := (Array.getElem?_eq_some_iff.1 hl).1
      have hy := run_yield (P := P) (args := encs x) hl (by rw [hrec]; exact hps x)
      rw [hrec] at hy
      refine ⟨fn, _, assign, body, hy, roundIn_of_wpIn hfn (wpIn_mono (hround (w.heap.size + 1) pre x suf W hLs (by omega) hlt hi) ?_)⟩
      rintro e a₁ Wa hp
      cases e with
      | normal =>
        obtain ⟨hkf, hsd, hbody⟩ := hp
        have hla := hkf.same _ _ (by omega) hl rfl
        have hka := hkf.same _ _ (Nat.le_refl _) hk rfl
        have hlta : w.heap.size + 1 < Wa.heap.size := (Array.getElem?_eq_some_iff.1 hla).1
        refine ⟨_, run_beginRound hla (by rw [hrec]), ?_⟩
        have hl2 : (Wa.putObj (w.heap.size + 1) (.loop { rec .ready none with state := .busy })).heap[w.heap.size + 1]? = some (.loop { rec .ready none with state := .busy }) := World.putObj_heap_same hlta
        have hk2 : (Wa.putObj (w.heap.size + 1) (.loop { rec .ready none with state := .busy })).heap[w.heap.size]? = some (.deferred (some [])) := (World.putObj_heap_other (by omega)).trans hka
        have hb := hbody (Wa.putObj (w.heap.size + 1) (.loop { rec .ready none with state := .busy })) (grownBy_putObj' Wa _ _) ⟨_, hla, rfl⟩ ⟨_, hl2⟩
        have hs2 : Same D W (Wa.putObj (w.heap.size + 1) (.loop { rec .ready none with state := .busy })) := fun k hk' => (World.putObj_heap_other (by have := hD k hk'; omega)).trans (hsd k hk')
        refine wpIn_mono hb ?_
        have fin : ∀ (jump : Option Code) (W3 : World), KeepsFrom w.heap.size (Wa.putObj (w.heap.size + 1) (.loop { rec .ready none with state := .busy })) W3 →
            (Instr.endRound (w.heap.size + 1) jump).run P W3 = .ok (.bool jump.isNone) (W3.putObj (w.heap.size + 1) (.loop (rec (if jump.isNone then .ready else .done) jump))) ∧
            W3.heap[w.heap.size + 1]? = some (.loop { rec .ready none with state := .busy }) ∧
            (W3.putObj (w.heap.size + 1) (.loop (rec (if jump.isNone then .ready else .done) jump))).heap[w.heap.size + 1]? = some (.loop (rec (if jump.isNone then .ready else .done) jump)) ∧
            (W3.putObj (w.heap.size + 1) (.loop (rec (if jump.isNone then .ready else .done) jump))).heap[w.heap.size]? = some (.deferred (some [])) := fun jump W3 hk3 => by
          have hl3 := hk3.same _ _ (by omega) hl2 rfl
          have := run_endRound (P := P) jump hl3
          rw [hrec] at this ⊢
          exact ⟨this, by rw [hrec] at hl3; exact hl3, World.putObj_heap_same (Array.getElem?_eq_some_iff.1 hl3).1, (World.putObj_heap_other (by omega)).trans (hk3.same _ _ (Nat.le_refl _) hk2 rfl)⟩
        have put : ∀ {β : Type} {Z : β → World → Prop}, Abides w.heap.size C Z → ∀ (s : β) (V : World) (o o' : Obj), Z s V → V.heap[w.heap.size + 1]? = some o → o.isCells = false → Z s (V.putObj (w.heap.size + 1) o') :=
          fun hZ s V o o' hz hv ho => hZ s V _ (some (w.heap.size + 1)) hz (grownBy_putObj' V _ o') (fun r e => by cases e; exact .inr ⟨by omega, o, hv, ho⟩)
        rintro e a3 W3 hp
        cases e with
        | normal =>
          obtain ⟨hk3, hkp3, hi3⟩ := hp
          obtain ⟨hr, hl3, hl4, hk4⟩ := fin none W3 hk3
          exact ⟨_, _, hr, .inl ⟨rfl, ⟨put hI _ _ _ _ hi3 hl3 rfl, hl4, hk4⟩, fun k hk' => (World.putObj_heap_other (by have := hD k hk'; omega)).trans ((hkp3 k hk').trans (hs2 k hk'))⟩⟩
        | ret =>
          obtain ⟨hk3, hi3⟩ := hp
          obtain ⟨hr, hl3, hl4, hk4⟩ := fin (some .ret) W3 hk3
          exact ⟨_, _, hr, .inr ⟨rfl, .ret, put (hIx _) _ _ _ _ hi3 hl3 rfl, hl4, hk4⟩⟩
        | exit id =>
          obtain ⟨hk3, hi3⟩ := hp
          obtain ⟨hr, hl3, hl4, hk4⟩ := fin (some (.exit id)) W3 hk3
          exact ⟨_, _, hr, .inr ⟨rfl, .exit id, put (hIx _) _ _ _ _ hi3 hl3 rfl, hl4, hk4⟩⟩
        | goto t =>
          obtain ⟨hk3, hi3⟩ := hp
          obtain ⟨hr, hl3, hl4, hk4⟩ := fin (some (.goto t)) W3 hk3
          exact ⟨_, _, hr, .inr ⟨rfl, .goto t, put (hIx _) _ _ _ _ hi3 hl3 rfl, hl4, hk4⟩⟩
        | panic ch => exact hp.elim
        | outgrown => exact hp.elim
      | exit id => exact hp.elim
      | goto t => exact hp.elim
      | ret => exact hp.elim
      | panic chain => exact hp.elim
      | outgrown => exact hp.elim
    · have put : ∀ {β : Type} {Z : β → World → Prop}, Abides w.heap.size C Z → ∀ (s : β) (V : World) (o o' : Obj), Z s V → V.heap[w.heap.size + 1]? = some o → o.isCells = false → Z s (V.putObj (w.heap.size + 1) o') :=
        fun hZ s V o o' hz hv ho => hZ s V _ (some (w.heap.size + 1)) hz (grownBy_putObj' V _ o') (fun r e => by cases e; exact .inr ⟨by omega, o, hv, ho⟩)
      rintro e W2 ⟨⟨v, rfl⟩, (⟨hi, hl, hk⟩ | ⟨pre, suf, hLs, c, hi, hl, hk⟩)⟩
      · exact ⟨none, _, by have := run_endLoop (P := P) hl (by rw [hrec]; simp); rw [hrec] at this; exact this, hdone _ _ (Nat.le_refl _) (put hI _ _ _ _ hi hl rfl) ((World.putObj_heap_other (by omega)).trans hk)⟩
      · exact ⟨some c, _, by have := run_endLoop (P := P) hl (by rw [hrec]; simp); rw [hrec] at this; exact this, hstop _ c pre suf _ (Nat.le_refl _) hLs (put (hIx c) _ _ _ _ hi hl rfl) ((World.putObj_heap_other (by omega)).trans hk)⟩

/-- The law within a round of loop r: no mark for deferred calls is left. -/
theorem range_law_in {α : Type} {P : Program} {n m r : Nat} {r₀ : Loop} {g : Operand} {ps : Array Tmp} {assign body : Code} {Q : Exit → Act → World → Prop} {a : Act} {w : World}
    (hl₀ : w.heap[r]? = some (.loop r₀)) (h1 : 1 ≤ m)
    {gf : Nat} {lb : Array Value} (hg : a.eval g = .func (.func gf) #[] lb) (eg : ∀ args w, (callFunc gf args).run P w = .ok (.enter gf args) w)
    {encs : α → Array Value} {C D : List Nat} {Pre : World → Prop} {L : List α} (hit : Iter P n gf lb encs C D Pre L) (hps : ∀ x, (encs x).size = ps.size)
    (hC : ∀ k, k ∈ C → k < w.heap.size) (hD : ∀ k, k ∈ D → k < w.heap.size) (hpre : ∀ W, w.grownBy W none → Pre W)
    (I : List α → World → Prop) (Ix : Code → List α → World → Prop) (hI : Abides w.heap.size C I) (hIx : ∀ c, Abides w.heap.size C (Ix c)) (h0 : I [] w)
    (hround : ∀ (l : Nat) (pre : List α) (x : α) (suf : List α) (W : World), L = pre ++ x :: suf → w.heap.size ≤ l → l < W.heap.size → I pre W →
      assign.wpIn (Fence.wide.inRound l) n P (Exit.then (fun a₁ W₁ => KeepsFrom w.heap.size W W₁ ∧ Same D W W₁ ∧
          ∀ W₂, W₁.grownBy W₂ (some l) → (∃ o : Obj, W₁.heap[l]? = some o ∧ o.isCells = false) → body.wpIn (Fence.wide.inRound l) n P (post w.heap.size D I Ix (pre ++ [x]) W₂) a₁ W₂) (fun _ _ _ => False))
        { tmps := (ps.zip (encs x)).foldl (fun t (p, v) => t.setIfInBounds p v) a.tmps, defers := [] } W)
    (hdone : ∀ (W : World), I L W → Q .normal a W)
    (hstop : ∀ (c : Code) (pre suf : List α) (W : World), L = pre ++ suf → Ix c pre W → c.wpIn (Fence.wide.inRound r) m P Q a W) :
    (Code.rangeFunc g ps assign body).wpIn (Fence.wide.inRound r) m P Q a w := by
  refine wpIn_rangeFunc ?_
  intro fn hfn
  have hro : (Fence.wide.inRound r).round = some r := rfl
  rw [hro]
  obtain ⟨rec, hrec⟩ : ∃ rec : LoopState → Option Code → Loop, rec = fun st pe => { state := st, pending := pe, fn, tmps := a.tmps, params := ps, assign, body, defers := r₀.defers } := ⟨_, rfl⟩
  obtain ⟨W1, hW1⟩ : ∃ W1, w.alloc (.loop (rec .ready none)) = W1 := ⟨_, rfl⟩
  have hL1 : W1.heap[w.heap.size]? = some (.loop (rec .ready none)) := by rw [← hW1]; exact World.alloc_heap_new w _
  have hg1 : w.grownBy W1 none := by rw [← hW1]; exact World.grownBy_alloc w _ none
  have hI1 : I [] W1 := hI _ _ _ _ h0 hg1 (fun r e => by cases e)
  refine ⟨w.heap.size, [], W1, { target := .fn (.func gf) lb, args := #[.func (.yield w.heap.size) #[] #[]] }, W1, gf,
    #[.func (.yield w.heap.size) #[] #[]] ++ lb, W1, ?_, ?_, ?_, ?_, fun _ => h1, ?_⟩
  · rw [← hW1, hrec]; exact run_enterLoop_inner hl₀ _ _ _ _ _
  · simp only [resolve, hg]
    simp [go_sem]
  · intro f' hf'; trivial
  · simp [invoke, go_sem, eg]
  · refine CallsIn.inRound r (callsIn_wide.2 (callsIn_wide.1 ((hit w.heap.size
      (fun pre W => I pre W ∧ W.heap[w.heap.size]? = some (.loop (rec .ready none)))
      (fun pre W => ∃ c, Ix c pre W ∧ W.heap[w.heap.size]? = some (.loop (rec .done (some c))))
      W1 (hpre W1 hg1) ?_ ?_ ?_ ⟨hI1, hL1⟩).mono ?_)))
    · rintro s X Y row ⟨hi, hl⟩ hg' hr
      refine ⟨hI s X Y row hi hg' (fun r e => .inl (hr r e)), ?_⟩
      exact (hg'.block _ (Array.getElem?_eq_some_iff.1 hl).1 (fun e => by have := hC _ (hr _ e.symm); omega)).trans hl
    · rintro s X Y row ⟨c, hi, hl⟩ hg' hr
      refine ⟨c, hIx c s X Y row hi hg' (fun r e => .inl (hr r e)), ?_⟩
      exact (hg'.block _ (Array.getElem?_eq_some_iff.1 hl).1 (fun e => by have := hC _ (hr _ e.symm); omega)).trans hl
    · rintro pre x suf W hLs ⟨hi, hl⟩
      have hlt : w.heap.size < W.heap.size := (Array.getElem?_eq_some_iff.1 hl).1
      have hy := run_yield (P := P) (args := encs x) hl (by rw [hrec]; exact hps x)
      rw [hrec] at hy
      refine ⟨fn, _, assign, body, hy, roundIn_of_wpIn (F := Fence.wide) trivial (wpIn_mono (hround w.heap.size pre x suf W hLs (Nat.le_refl _) hlt hi) ?_)⟩
      rintro e a₁ Wa hp
      cases e with
      | normal =>
        obtain ⟨hkf, hsd, hbody⟩ := hp
        have hla := hkf.same _ _ (Nat.le_refl _) hl rfl
        have hlta : w.heap.size < Wa.heap.size := (Array.getElem?_eq_some_iff.1 hla).1
        refine ⟨_, run_beginRound hla (by rw [hrec]), ?_⟩
        have hl2 : (Wa.putObj w.heap.size (.loop { rec .ready none with state := .busy })).heap[w.heap.size]? = some (.loop { rec .ready none with state := .busy }) := World.putObj_heap_same hlta
        have hb := hbody (Wa.putObj w.heap.size (.loop { rec .ready none with state := .busy })) (grownBy_putObj' Wa _ _) ⟨_, hla, rfl⟩
        have hs2 : Same D W (Wa.putObj w.heap.size (.loop { rec .ready none with state := .busy })) := fun k hk' => (World.putObj_heap_other (by have := hD k hk'; omega)).trans (hsd k hk')
        refine wpIn_mono hb ?_
        have fin : ∀ (jump : Option Code) (W3 : World), KeepsFrom w.heap.size (Wa.putObj w.heap.size (.loop { rec .ready none with state := .busy })) W3 →
            (Instr.endRound w.heap.size jump).run P W3 = .ok (.bool jump.isNone) (W3.putObj w.heap.size (.loop (rec (if jump.isNone then .ready else .done) jump))) ∧
            W3.heap[w.heap.size]? = some (.loop { rec .ready none with state := .busy }) ∧
            (W3.putObj w.heap.size (.loop (rec (if jump.isNone then .ready else .done) jump))).heap[w.heap.size]? = some (.loop (rec (if jump.isNone then .ready else .done) jump)) := fun jump W3 hk3 => by
          have hl3 := hk3.same _ _ (Nat.le_refl _) hl2 rfl
          have := run_endRound (P := P) jump hl3
          rw [hrec] at this ⊢
          exact ⟨this, by rw [hrec] at hl3; exact hl3, World.putObj_heap_same (Array.getElem?_eq_some_iff.1 hl3).1⟩
        have put : ∀ {β : Type} {Z : β → World → Prop}, Abides w.heap.size C Z → ∀ (s : β) (V : World) (o o' : Obj), Z s V → V.heap[w.heap.size]? = some o → o.isCells = false → Z s (V.putObj w.heap.size o') :=
          fun hZ s V o o' hz hv ho => hZ s V _ (some w.heap.size) hz (grownBy_putObj' V _ o') (fun r e => by cases e; exact .inr ⟨Nat.le_refl _, o, hv, ho⟩)
        rintro e a3 W3 hp
        cases e with
        | normal =>
          obtain ⟨hk3, hkp3, hi3⟩ := hp
          obtain ⟨hr, hl3, hl4⟩ := fin none W3 hk3
          exact ⟨_, _, hr, .inl ⟨rfl, ⟨put hI _ _ _ _ hi3 hl3 rfl, hl4⟩, fun k hk' => (World.putObj_heap_other (by have := hD k hk'; omega)).trans ((hkp3 k hk').trans (hs2 k hk'))⟩⟩
        | ret =>
          obtain ⟨hk3, hi3⟩ := hp
          obtain ⟨hr, hl3, hl4⟩ := fin (some .ret) W3 hk3
          exact ⟨_, _, hr, .inr ⟨rfl, .ret, put (hIx _) _ _ _ _ hi3 hl3 rfl, hl4⟩⟩
        | exit id =>
          obtain ⟨hk3, hi3⟩ := hp
          obtain ⟨hr, hl3, hl4⟩ := fin (some (.exit id)) W3 hk3
          exact ⟨_, _, hr, .inr ⟨rfl, .exit id, put (hIx _) _ _ _ _ hi3 hl3 rfl, hl4⟩⟩
        | goto t =>
          obtain ⟨hk3, hi3⟩ := hp
          obtain ⟨hr, hl3, hl4⟩ := fin (some (.goto t)) W3 hk3
          exact ⟨_, _, hr, .inr ⟨rfl, .goto t, put (hIx _) _ _ _ _ hi3 hl3 rfl, hl4⟩⟩
        | panic ch => exact hp.elim
        | outgrown => exact hp.elim
      | exit id => exact hp.elim
      | goto t => exact hp.elim
      | ret => exact hp.elim
      | panic chain => exact hp.elim
      | outgrown => exact hp.elim
    · have put : ∀ {β : Type} {Z : β → World → Prop}, Abides w.heap.size C Z → ∀ (s : β) (V : World) (o o' : Obj), Z s V → V.heap[w.heap.size]? = some o → o.isCells = false → Z s (V.putObj w.heap.size o') :=
        fun hZ s V o o' hz hv ho => hZ s V _ (some w.heap.size) hz (grownBy_putObj' V _ o') (fun r e => by cases e; exact .inr ⟨Nat.le_refl _, o, hv, ho⟩)
      rintro e W2 ⟨⟨v, rfl⟩, (⟨hi, hl⟩ | ⟨pre, suf, hLs, c, hi, hl⟩)⟩
      · exact ⟨none, _, by have := run_endLoop (P := P) hl (by rw [hrec]; simp); rw [hrec] at this; exact this, hdone _ (put hI _ _ _ _ hi hl rfl)⟩
      · exact ⟨some c, _, by have := run_endLoop (P := P) hl (by rw [hrec]; simp); rw [hrec] at this; exact this, hstop c pre suf _ hLs (put (hIx c) _ _ _ _ hi hl rfl)⟩
end Go.Proofs.YtjfpfmknngkgaaaDoor.Rng
