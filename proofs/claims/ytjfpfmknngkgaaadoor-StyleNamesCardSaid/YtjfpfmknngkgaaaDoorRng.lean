/- A law for 'for x := range f { .. }' at the wide fence: the iterator may write the blocks of its own captured variables between two rounds. Conditions: the iterator's contract 'Iter', the rounds' walks. -/
import Derived.RangeFuncNested
import Derived.RangeFuncBound
import Derived.RangeFuncCalls
import Derived.RangeFuncLeaves
import Derived.RangeFuncBox
import Derived.WalkKit
import Derived.Below
namespace Go.Proofs.YtjfpfmknngkgaaaDoor.Rng
set_option linter.unusedVariables false
set_option linter.unusedSimpArgs false
open Go Go.RowKit

/-- What a statement about the world bears: new blocks; a turn of a block of C; a turn, from B on, of a block that holds no cells. -/
def Abides {β : Type} (B : Nat) (C : List Nat) (I : β → World → Prop) : Prop :=
  ∀ s X Y row, I s X → X.grownBy Y row → (∀ r, row = some r → r ∈ C ∨ (B ≤ r ∧ ∃ o : Obj, X.heap[r]? = some o ∧ o.isCells = false)) → I s Y

/-- What the iterator itself does between two rounds: new blocks, turns of its own captured variables' blocks. -/
def Bears {β : Type} (C : List Nat) (J : β → World → Prop) : Prop :=
  ∀ s X Y row, J s X → X.grownBy Y row → (∀ r, row = some r → r ∈ C) → J s Y

/-- The blocks of D lie as they lay. -/
def Same (D : List Nat) (X Y : World) : Prop := ∀ k, k ∈ D → Y.heap[k]? = X.heap[k]?
theorem Same.refl (D : List Nat) (X : World) : Same D X X := fun _ _ => rfl
theorem Same.trans {D : List Nat} {X Y Z : World} (h : Same D X Y) (k : Same D Y Z) : Same D X Z := fun i hi => (k i hi).trans (h i hi)
theorem Same.grown {D : List Nat} {X Y : World} {row : Option Nat} (hg : X.grownBy Y row) (hD : ∀ k, k ∈ D → k < X.heap.size) (hr : ∀ r, row = some r → r ∉ D) : Same D X Y :=
  fun k hk => hg.block k (hD k hk) (fun e => hr k e.symm hk)

/-- The iterator's contract: it gives the elements of L in their order, whatever the round does to the world that leaves the blocks D as they lay. -/
def Iter {α : Type} (P : Program) (n : Nat) (g : Nat) (lb : Array Value) (encs : α → Array Value) (C D : List Nat) (Pre : World → Prop) (L : List α) : Prop :=
  ∀ (l : Nat) (J Jx : List α → World → Prop) (W : World), Pre W → Bears C J → Bears C Jx →
    (∀ pre x suf W1, L = pre ++ x :: suf → J pre W1 → YieldAt Fence.wide n P l (encs x) W1 fun e W' =>
      (e = .returned (.bool true) ∧ J (pre ++ [x]) W' ∧ Same D W1 W') ∨ (e = .returned (.bool false) ∧ Jx (pre ++ [x]) W')) →
    J [] W →
    CallsIn Fence.wide (n + 1) P g (#[.func (.yield l) #[] #[]] ++ lb) W fun e W' => (∃ v, e = .returned v) ∧ (J L W' ∨ ∃ pre suf, L = pre ++ suf ∧ Jx pre W')

/-- How a round's body may be left. -/
def post {α : Type} (B : Nat) (D : List Nat) (I : List α → World → Prop) (Ix : Code → List α → World → Prop) (xs : List α) (W : World) : Exit → Act → World → Prop
  | .normal, _, W' => KeepsFrom B W W' ∧ Same D W W' ∧ I xs W'
  | .ret, _, W' => KeepsFrom B W W' ∧ Ix .ret xs W'
  | .exit id, _, W' => KeepsFrom B W W' ∧ Ix (.exit id) xs W'
  | .goto t, _, W' => KeepsFrom B W W' ∧ Ix (.goto t) xs W'
  | .panic _, _, _ => False
  | .outgrown, _, _ => False

theorem range_law {α : Type} {P : Program} {n : Nat} {g : Operand} {ps : Array Tmp} {assign body : Code} {Q : Exit → Act → World → Prop} {a : Act} {w : World}
    {gf : Nat} {lb : Array Value} (hg : a.eval g = .func (.func gf) #[] lb) (eg : ∀ args w, (callFunc gf args).run P w = .ok (.enter gf args) w)
    {encs : α → Array Value} {C D : List Nat} {Pre : World → Prop} {L : List α} (hit : Iter P n gf lb encs C D Pre L) (hps : ∀ x, (encs x).size = ps.size)
    (hC : ∀ k, k ∈ C → k < w.heap.size) (hD : ∀ k, k ∈ D → k < w.heap.size) (hpre : ∀ W, w.grownBy W none → Pre W)
    (I : List α → World → Prop) (Ix : Code → List α → World → Prop) (hI : Abides w.heap.size C I) (hIx : ∀ c, Abides w.heap.size C (Ix c)) (h0 : I [] w)
    (hround : ∀ (l : Nat) (pre : List α) (x : α) (suf : List α) (W : World), L = pre ++ x :: suf → w.heap.size ≤ l → l < W.heap.size → I pre W →
      assign.wpIn (Fence.wide.inRound l) n P (Exit.then (fun a₁ W₁ => KeepsFrom w.heap.size W W₁ ∧ Same D W W₁ ∧
          ∀ W₂, W₁.grownBy W₂ (some l) → (∃ o : Obj, W₁.heap[l]? = some o ∧ o.isCells = false) → body.wpIn (Fence.wide.inRound l) n P (post w.heap.size D I Ix (pre ++ [x]) W₂) a₁ W₂) (fun _ _ _ => False))
        { tmps := (ps.zip (encs x)).foldl (fun t (p, v) => t.setIfInBounds p v) a.tmps, defers := [] } W)
    (hdone : ∀ (K : Nat) (W : World), w.heap.size ≤ K → I L W → W.heap[K]? = some (.deferred (some [])) → Q .normal { a with defers := { target := .collected K, args := #[] } :: a.defers } W)
    (hstop : ∀ (K : Nat) (c : Code) (pre suf : List α) (W : World), w.heap.size ≤ K → L = pre ++ suf → Ix c pre W → W.heap[K]? = some (.deferred (some [])) → c.wpIn Fence.wide n P Q { a with defers := { target := .collected K, args := #[] } :: a.defers } W) :
    (Code.rangeFunc g ps assign body).wpIn Fence.wide n P Q a w := by
  refine wpIn_rangeFunc ?_
  intro fn hfn
  have hro : Fence.wide.round = none := rfl
  rw [hro]
  obtain ⟨rec, hrec⟩ : ∃ rec : LoopState → Option Code → Loop, rec = fun st pe => { state := st, pending := pe, fn, tmps := a.tmps, params := ps, assign, body, defers := w.heap.size } := ⟨_, rfl⟩
  obtain ⟨W1, hW1⟩ : ∃ W1, (w.alloc (.deferred (some []))).alloc (.loop (rec .ready none)) = W1 := ⟨_, rfl⟩
  have hL1 : W1.heap[w.heap.size + 1]? = some (.loop (rec .ready none)) := by
    rw [← hW1]; have := World.alloc_heap_new (w.alloc (.deferred (some []))) (.loop (rec .ready none)); rwa [World.size_alloc] at this
  have hK1 : W1.heap[w.heap.size]? = some (.deferred (some [])) := by
    rw [← hW1]; exact (Below.heap_alloc _ _ _ (by simp)).trans (World.alloc_heap_new w _)
  have hg1 : w.grownBy W1 none := by
    rw [← hW1]
    have h1 := World.grownBy_alloc w (.deferred (some [])) none
    have h2 := World.grownBy_alloc (w.alloc (.deferred (some []))) (.loop (rec .ready none)) none
    exact ⟨h2.os.trans h1.os, h2.tape.trans h1.tape, h2.output.trans h1.output, Nat.le_trans h1.size h2.size, fun k hk hr => (h2.block k (Nat.lt_of_lt_of_le hk h1.size) hr).trans (h1.block k hk hr)⟩
  have hI1 : I [] W1 := hI _ _ _ _ h0 hg1 (fun r e => by cases e)
  refine ⟨w.heap.size + 1, [{ target := .collected w.heap.size, args := #[] }], W1, { target := .fn (.func gf) lb, args := #[.func (.yield (w.heap.size + 1)) #[] #[]] }, W1, gf,
    #[.func (.yield (w.heap.size + 1)) #[] #[]] ++ lb, W1, ?_, ?_, ?_, ?_, fun h => by simp [Fence.wide] at h, ?_⟩
  · rw [← hW1, hrec]; exact run_enterLoop_outer _ _ _ _ _
  · simp only [resolve, hg]
    simp [go_sem]
  · intro f' hf'; trivial
  · simp [invoke, go_sem, eg]
  · have wide_n : ∀ {f : FuncId} {args : Array Value} {V : World} {R : Ending → World → Prop}, CallsIn Fence.wide (n + 1) P f args V R → CallsIn Fence.wide (n - 1) P f args V R :=
      fun h => callsIn_wide.2 (callsIn_wide.1 h)
    refine wide_n ((hit (w.heap.size + 1)
      (fun pre W => I pre W ∧ W.heap[w.heap.size + 1]? = some (.loop (rec .ready none)) ∧ W.heap[w.heap.size]? = some (.deferred (some [])))
      (fun pre W => ∃ c, Ix c pre W ∧ W.heap[w.heap.size + 1]? = some (.loop (rec .done (some c))) ∧ W.heap[w.heap.size]? = some (.deferred (some [])))
      W1 (hpre W1 hg1) ?_ ?_ ?_ ⟨hI1, hL1, hK1⟩).mono ?_)
    · rintro s X Y row ⟨hi, hl, hk⟩ hg' hr
      refine ⟨hI s X Y row hi hg' (fun r e => .inl (hr r e)), ?_, ?_⟩
      · exact (hg'.block _ (Array.getElem?_eq_some_iff.1 hl).1 (fun e => by have := hC _ (hr _ e.symm); omega)).trans hl
      · exact (hg'.block _ (Array.getElem?_eq_some_iff.1 hk).1 (fun e => by have := hC _ (hr _ e.symm); omega)).trans hk
    · rintro s X Y row ⟨c, hi, hl, hk⟩ hg' hr
      refine ⟨c, hIx c s X Y row hi hg' (fun r e => .inl (hr r e)), ?_, ?_⟩
      · exact (hg'.block _ (Array.getElem?_eq_some_iff.1 hl).1 (fun e => by have := hC _ (hr _ e.symm); omega)).trans hl
      · exact (hg'.block _ (Array.getElem?_eq_some_iff.1 hk).1 (fun e => by have := hC _ (hr _ e.symm); omega)).trans hk
    · rintro pre x suf W hLs ⟨hi, hl, hk⟩
      have hlt : w.heap.size + 1 < W.heap.size := (Array.getElem?_eq_some_iff.1 hl).1
      have hy := run_yield (P := P) (args := encs x) hl (by rw [hrec]; exact hps x)
      rw [hrec] at hy
      refine ⟨fn, _, assign, body, hy, roundIn_of_wpIn hfn (wpIn_mono (hround (w.heap.size + 1) pre x suf W hLs (by omega) hlt hi) ?_)⟩
      rintro e a₁ Wa hp
      cases e with
      | normal =>
        obtain ⟨hkf, hsd, hbody⟩ := hp
        have hla := hkf.same _ _ (by omega) hl rfl
        have hka := hkf.same _ _ (Nat.le_refl _) hk rfl
        have hlta : w.heap.size + 1 < Wa.heap.size := (Array.getElem?_eq_some_iff.1 hla).1
        refine ⟨_, run_beginRound hla (by rw [hrec]), ?_⟩
        have hl2 : (Wa.putObj (w.heap.size + 1) (.loop { rec .ready none with state := .busy })).heap[w.heap.size + 1]? = some (.loop { rec .ready none with state := .busy }) := World.putObj_heap_same hlta
        have hk2 : (Wa.putObj (w.heap.size + 1) (.loop { rec .ready none with state := .busy })).heap[w.heap.size]? = some (.deferred (some [])) := (World.putObj_heap_other (by omega)).trans hka
        have hb := hbody (Wa.putObj (w.heap.size + 1) (.loop { rec .ready none with state := .busy })) (grownBy_putObj' Wa _ _) ⟨_, hla, rfl⟩
        have hs2 : Same D W (Wa.putObj (w.heap.size + 1) (.loop { rec .ready none with state := .busy })) := fun k hk' => (World.putObj_heap_other (by have := hD k hk'; omega)).trans (hsd k hk')
        refine wpIn_mono hb ?_
        have fin : ∀ (jump : Option Code) (W3 : World), KeepsFrom w.heap.size (Wa.putObj (w.heap.size + 1) (.loop { rec .ready none with state := .busy })) W3 →
            (Instr.endRound (w.heap.size + 1) jump).run P W3 = .ok (.bool jump.isNone) (W3.putObj (w.heap.size + 1) (.loop (rec (if jump.isNone then .ready else .done) jump))) ∧
            W3.heap[w.heap.size + 1]? = some (.loop { rec .ready none with state := .busy }) ∧
            (W3.putObj (w.heap.size + 1) (.loop (rec (if jump.isNone then .ready else .done) jump))).heap[w.heap.size + 1]? = some (.loop (rec (if jump.isNone then .ready else .done) jump)) ∧
            (W3.putObj (w.heap.size + 1) (.loop (rec (if jump.isNone then .ready else .done) jump))).heap[w.heap.size]? = some (.deferred (some [])) := fun jump W3 hk3 => by
          have hl3 := hk3.same _ _ (by omega) hl2 rfl
          have := run_endRound (P := P) jump hl3
          rw [hrec] at this ⊢
          exact ⟨this, by rw [hrec] at hl3; exact hl3, World.putObj_heap_same (Array.getElem?_eq_some_iff.1 hl3).1, (World.putObj_heap_other (by omega)).trans (hk3.same _ _ (Nat.le_refl _) hk2 rfl)⟩
        have put : ∀ {β : Type} {Z : β → World → Prop}, Abides w.heap.size C Z → ∀ (s : β) (V : World) (o o' : Obj), Z s V → V.heap[w.heap.size + 1]? = some o → o.isCells = false → Z s (V.putObj (w.heap.size + 1) o') :=
          fun hZ s V o o' hz hv ho => hZ s V _ (some (w.heap.size + 1)) hz (grownBy_putObj' V _ o') (fun r e => by cases e; exact .inr ⟨by omega, o, hv, ho⟩)
        rintro e a3 W3 hp
        cases e with
        | normal =>
          obtain ⟨hk3, hkp3, hi3⟩ := hp
          obtain ⟨hr, hl3, hl4, hk4⟩ := fin none W3 hk3
          exact ⟨_, _, hr, .inl ⟨rfl, ⟨put hI _ _ _ _ hi3 hl3 rfl, hl4, hk4⟩, fun k hk' => (World.putObj_heap_other (by have := hD k hk'; omega)).trans ((hkp3 k hk').trans (hs2 k hk'))⟩⟩
        | ret =>
          obtain ⟨hk3, hi3⟩ := hp
          obtain ⟨hr, hl3, hl4, hk4⟩ := fin (some .ret) W3 hk3
          exact ⟨_, _, hr, .inr ⟨rfl, .ret, put (hIx _) _ _ _ _ hi3 hl3 rfl, hl4, hk4⟩⟩
        | exit id =>
          obtain ⟨hk3, hi3⟩ := hp
          obtain ⟨hr, hl3, hl4, hk4⟩ := fin (some (.exit id)) W3 hk3
          exact ⟨_, _, hr, .inr ⟨rfl, .exit id, put (hIx _) _ _ _ _ hi3 hl3 rfl, hl4, hk4⟩⟩
        | goto t =>
          obtain ⟨hk3, hi3⟩ := hp
          obtain ⟨hr, hl3, hl4, hk4⟩ := fin (some (.goto t)) W3 hk3
          exact ⟨_, _, hr, .inr ⟨rfl, .goto t, put (hIx _) _ _ _ _ hi3 hl3 rfl, hl4, hk4⟩⟩
        | panic ch => exact hp.elim
        | outgrown => exact hp.elim
      | exit id => exact hp.elim
      | goto t => exact hp.elim
      | ret => exact hp.elim
      | panic chain => exact hp.elim
      | outgrown => exact hp.elim
    · have put : ∀ {β : Type} {Z : β → World → Prop}, Abides w.heap.size C Z → ∀ (s : β) (V : World) (o o' : Obj), Z s V → V.heap[w.heap.size + 1]? = some o → o.isCells = false → Z s (V.putObj (w.heap.size + 1) o') :=
        fun hZ s V o o' hz hv ho => hZ s V _ (some (w.heap.size + 1)) hz (grownBy_putObj' V _ o') (fun r e => by cases e; exact .inr ⟨by omega, o, hv, ho⟩)
      rintro e W2 ⟨⟨v, rfl⟩, (⟨hi, hl, hk⟩ | ⟨pre, suf, hLs, c, hi, hl, hk⟩)⟩
      · exact ⟨none, _, by have := run_endLoop (P := P) hl (by rw [hrec]; simp); rw [hrec] at this; exact this, hdone _ _ (Nat.le_refl _) (put hI _ _ _ _ hi hl rfl) ((World.putObj_heap_other (by omega)).trans hk)⟩
      · exact ⟨some c, _, by have := run_endLoop (P := P) hl (by rw [hrec]; simp); rw [hrec] at this; exact this, hstop _ c pre suf _ (Nat.le_refl _) hLs (put (hIx c) _ _ _ _ hi hl rfl) ((World.putObj_heap_other (by omega)).trans hk)⟩

/-! ### Small facts on blocks of cells -/
theorem cells_kept {W1 W2 : World} {b l : Nat} {A : Array Value} {t : TypeId} {fr : Nat × Nat} (h : W1.heap[b]? = some (.cells A t fr)) (hg : W1.grownBy W2 (some l)) (hl : ∃ o : Obj, W1.heap[l]? = some o ∧ o.isCells = false) : W2.heap[b]? = some (.cells A t fr) := by
  refine (hg.block b (Array.getElem?_eq_some_iff.1 h).1 (fun e => ?_)).trans h
  cases e
  obtain ⟨o, ho, hc⟩ := hl
  rw [h] at ho
  cases ho
  cases hc
theorem cell_of {W : World} {b : Nat} {A : Array Value} {t : TypeId} {fr : Nat × Nat} (h : W.heap[b]? = some (.cells A t fr)) (i : Nat) : W.cell? ⟨b, i, none⟩ = A[i]? := by
  simp [World.cell?, h]
theorem cells_at {W : World} {b i : Nat} {v : Value} (h : W.cell? ⟨b, i, none⟩ = some v) : ∃ A t fr, W.heap[b]? = some (.cells A t fr) := by
  unfold World.cell? at h
  cases hb : W.heap[b]? with
  | none => simp [hb] at h
  | some o =>
    cases o <;> simp [hb] at h
    exact ⟨_, _, _, rfl⟩
/-- A block that holds cells is not the loop's record. -/
theorem block_kept {W1 W2 : World} {b l i : Nat} {v : Value} (h : W1.cell? ⟨b, i, none⟩ = some v) (hg : W1.grownBy W2 (some l)) (hl : ∃ o : Obj, W1.heap[l]? = some o ∧ o.isCells = false) : W2.heap[b]? = W1.heap[b]? := by
  obtain ⟨A, t, fr, hb⟩ := cells_at h
  rw [cells_kept hb hg hl, hb]
theorem bcell {W w1 : World} {n : Nat} (hb : Below n W w1) : (∀ b o, b < n → w1.cell? ⟨b, o, none⟩ = W.cell? ⟨b, o, none⟩) ∧ (∀ b o, b < n → w1.frozen? ⟨b, o, none⟩ = W.frozen? ⟨b, o, none⟩) :=
  ⟨fun b o h => hb.cell (p := ⟨b, o, none⟩) h, fun b o h => hb.frozen (p := ⟨b, o, none⟩) h⟩
theorem Abides.and {β : Type} {B : Nat} {C : List Nat} {I I' : β → World → Prop} (h : Abides B C I) (h' : Abides B C I') : Abides B C (fun s W => I s W ∧ I' s W) :=
  fun s X Y row hs hg hr => ⟨h s X Y row hs.1 hg hr, h' s X Y row hs.2 hg hr⟩
theorem abides_pure {β : Type} (B : Nat) (C : List Nat) (p : β → Prop) : Abides B C (fun s (_ : World) => p s) := fun _ _ _ _ hs _ _ => hs
theorem abides_below {β : Type} {n B : Nat} {C : List Nat} {w : World} (hn : n ≤ w.heap.size) (hB : n ≤ B) (hC : ∀ k, k ∈ C → n ≤ k) : Abides B C (fun (_ : β) W => Below n w W) :=
  fun _ X Y row hs hg hr => hs.grown hg (Nat.le_trans hn hs.size) (fun k e => (hr k e).elim (hC k) (fun h => Nat.le_trans hB h.1))
/-- What hangs on one block of cells alone. -/
theorem abides_block {β : Type} {B b : Nat} {C : List Nat} {p : β → World → Prop} (hb : b ∉ C) (hp : ∀ s X Y, p s X → Y.heap[b]? = X.heap[b]? → p s Y) (hc : ∀ s X, p s X → ∃ A t fr, X.heap[b]? = some (.cells A t fr)) : Abides B C p := by
  intro s X Y row hs hg hr
  obtain ⟨A, t, fr, h⟩ := hc s X hs
  refine hp s X Y hs (hg.block b (Array.getElem?_eq_some_iff.1 h).1 (fun e => ?_))
  rcases hr b e.symm with h1 | ⟨_, o, ho, hn⟩
  · exact hb h1
  · rw [h] at ho; cases ho; cases hn
theorem abides_boxed {β : Type} {B b : Nat} {C : List Nat} (hb : b ∉ C) (t : TypeId) (f : β → Value) : Abides B C (fun s W => Boxed W b t (f s)) :=
  abides_block hb (fun _ _ _ h e => e.trans h) (fun _ _ h => ⟨_, _, _, h⟩)
/-- A step of the loop's own machinery on its record. -/
theorem below_record {n l : Nat} {X Y : World} (hg : X.grownBy Y (some l)) (hn : n ≤ X.heap.size) (hl : n ≤ l) : Below n X Y := (Below.refl n X).grown hg hn (fun k e => by cases e; exact hl)
theorem keepsFrom_below {B : Nat} {X Y : World} (h : Below X.heap.size X Y) : KeepsFrom B X Y := ⟨h.size, fun k o _ hk _ => (h.block k (Array.getElem?_eq_some_iff.1 hk).1).trans hk⟩
theorem same_below {D : List Nat} {n : Nat} {X Y : World} (h : Below n X Y) (hD : ∀ k, k ∈ D → k < n) : Same D X Y := fun k hk => h.block k (hD k hk)
theorem same_setCell {D : List Nat} {X : World} {b o : Nat} {v : Value} (hb : b ∉ D) : Same D X (X.setCell ⟨b, o, none⟩ v) := fun k hk => Below.heap_setCell _ _ _ _ (fun e => hb (by have e2 : k = b := e; rw [← e2]; exact hk))
theorem keepsFrom_setCell {B : Nat} {X : World} {a : Addr} {v : Value} : KeepsFrom B X (X.setCell a v) := (KeepsOthers.setCell _ _ _).from _
/-- A function's contract, called within a round. -/
theorem in_round {P : Program} {l n : Nat} {f : FuncId} {args : Array Value} {w : World} {R : Ending → World → Prop} (h : Calls P f args w R) : CallsIn (Fence.wide.inRound l) n P f args w R := CallsIn.inRound l (callsIn_wide.2 h)
end Go.Proofs.YtjfpfmknngkgaaaDoor.Rng
