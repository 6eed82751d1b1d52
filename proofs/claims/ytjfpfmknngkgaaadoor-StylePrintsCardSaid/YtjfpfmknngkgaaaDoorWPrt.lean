/- The statement and the card of StylePrints: the argument is opened into a style, the walk is called, the argument is handed back as it was. -/
import Derived.Test.YtjfpfmknngkgaaaDoorLPrt
import Derived.Test.YtjfpfmknngkgaaaDoorCards
import Derived.Test.YtjfpfmknngkgaaaDoorTie
import Derived.WalkKit
import Derived.ProofKit
import Derived.OpenShut
import Derived.ShutString
import Derived.ChangeOld
import Derived.Below
import Derived.SizedLaws
import Derived.Lay
import Derived.Deep.DeepHandedRow
import Derived.Lib.LaidTab
namespace Go.Proofs.YtjfpfmknngkgaaaDoor.stylePrints
open Go.ChangeShapes Go.WideShapes Go.ChangeAt Go.RowKit
open Go.Proofs.YtjfpfmknngkgaaaDoor
set_option linter.unusedVariables false
set_option linter.unusedSimpArgs false

theorem own : ownKnob Tryd.prog.godebug = none := by kernel_rfl
theorem laidOut : laidOutB Tryd.prog = true := by kernel_rfl
theorem gTab : Tryd.prog.globalNamed "internal/strconv.uint64pow10" = some 0 := by kernel_rfl
theorem gTabType : (Tryd.prog.globals[0]?).map (·.type) = some 119 := by kernel_rfl
theorem cells3 : Tryd.prog.cellsOf 3 = 1 := by kernel_rfl
theorem cells4 : Tryd.prog.cellsOf 4 = 1 := by kernel_rfl
theorem cells119 : Tryd.prog.cellsOf 119 = 20 := by kernel_rfl
theorem cells106 : Tryd.prog.cellsOf 106 = 1 := by kernel_rfl
theorem pow_laid : (Rows.laid_internal_strconv_uint64pow10 : DataW Unit) = Lib.tabData .u64 Lib.pow10Tab := by rfl

/-- The list gives the powers of ten, as long as what lies below stays. -/
theorem pow_of {W : World} (h : laidMetH Tryd.prog Rows.stylePrintsRow.laid W) : Pow W.heap.size W := by
  have h1 : laidMetH Tryd.prog [("internal/strconv.uint64pow10", Rows.laid_internal_strconv_uint64pow10)] W := h.filter fun x => x.1 == "internal/strconv.uint64pow10"
  rw [pow_laid] at h1
  exact Lib.tabBelow_of_tabIs (Lib.tabIs_of_head (rest := []) gTab gTabType Tryd.underlying119 Tryd.underlying106 cells106 cells119 h1)

section
variable {H : Type} {enc : TypeId × Value → H} {w : World} {base : Nat} {sp : Nat → Bool} {held : Bool}
set_option maxRecDepth 100000 in
/-- A style that reads as a datum: its cells, and its numbers are int's. -/
theorem open_sty {cs : Array Value} {d : DataW H} {p : List MemPlace} (hsz : cs.size = 18) (h : DataW.Trod enc Tryd.prog w base sp held 23 (.agg cs) d p) :
    ∃ s : Sty, Value.agg cs = s.val ∧ s.wf := by
  obtain ⟨fuel, hf⟩ := h
  obtain ⟨xs, n, rfl, _, hl, hxl, hp⟩ := DataW.trod_struct Tryd.underlying23 hf
  obtain ⟨cs⟩ := cs
  simp only [Value.cells] at hl hp
  simp only [List.size_toArray] at hsz
  match cs, hsz with
  | [c0, c1, c2, c3, c4, c5, c6, c7, c8, c9, c10, c11, c12, c13, c14, c15, c16, c17], _ =>
    match xs, hxl with
    | [x0, x1, x2, x3, x4, x5, x6, x7, x8, x9, x10, x11, x12, x13, x14, x15, x16, x17], _ =>
      have num : ∀ {L : List Value} {c : Value} {x : DataW H × List MemPlace}, DataW.trod enc Tryd.prog w base sp held n 3 (L.take (Tryd.prog.cellsOf 3)) = some x → L.take 1 = [c] → ∃ z : Int, c = .int .i64 z ∧ InI64 z := by
        intro L c x hx hL
        rw [cells3, hL] at hx
        obtain ⟨z, hz, _, hw⟩ := DataW.trod_int Tryd.underlying3 hx
        simp only [List.cons.injEq, and_true] at hz
        have hw' : (decide (-9223372036854775808 ≤ z) && decide (z ≤ 9223372036854775807)) = true := hw
        simp only [Bool.and_eq_true, decide_eq_true_eq] at hw'
        exact ⟨z, hz, hw'⟩
      have bol : ∀ {L : List Value} {c : Value} {x : DataW H × List MemPlace}, DataW.trod enc Tryd.prog w base sp held n 4 (L.take (Tryd.prog.cellsOf 4)) = some x → L.take 1 = [c] → ∃ z : Bool, c = .bool z := by
        intro L c x hx hL
        rw [cells4, hL] at hx
        obtain ⟨z, hz, _⟩ := DataW.trod_bool Tryd.underlying4 hx
        simp only [List.cons.injEq, and_true] at hz
        exact ⟨z, hz⟩
      obtain ⟨z0, rfl, h0⟩ := num (c := c0) (x := x0) (L := [c0, c1, c2, c3, c4, c5, c6, c7, c8, c9, c10, c11, c12, c13, c14, c15, c16, c17]) (by have h := hp 0 _ rfl; exact h) rfl
      obtain ⟨z1, rfl, h1⟩ := num (c := c1) (x := x1) (L := [c1, c2, c3, c4, c5, c6, c7, c8, c9, c10, c11, c12, c13, c14, c15, c16, c17]) (by have h := hp 1 _ rfl; exact h) rfl
      obtain ⟨z2, rfl, h2⟩ := num (c := c2) (x := x2) (L := [c2, c3, c4, c5, c6, c7, c8, c9, c10, c11, c12, c13, c14, c15, c16, c17]) (by have h := hp 2 _ rfl; exact h) rfl
      obtain ⟨z3, rfl, h3⟩ := num (c := c3) (x := x3) (L := [c3, c4, c5, c6, c7, c8, c9, c10, c11, c12, c13, c14, c15, c16, c17]) (by have h := hp 3 _ rfl; exact h) rfl
      obtain ⟨z4, rfl⟩ := bol (c := c4) (x := x4) (L := [c4, c5, c6, c7, c8, c9, c10, c11, c12, c13, c14, c15, c16, c17]) (by have h := hp 4 _ rfl; exact h) rfl
      obtain ⟨z5, rfl⟩ := bol (c := c5) (x := x5) (L := [c5, c6, c7, c8, c9, c10, c11, c12, c13, c14, c15, c16, c17]) (by have h := hp 5 _ rfl; exact h) rfl
      obtain ⟨z6, rfl⟩ := bol (c := c6) (x := x6) (L := [c6, c7, c8, c9, c10, c11, c12, c13, c14, c15, c16, c17]) (by have h := hp 6 _ rfl; exact h) rfl
      obtain ⟨z7, rfl, h7⟩ := num (c := c7) (x := x7) (L := [c7, c8, c9, c10, c11, c12, c13, c14, c15, c16, c17]) (by have h := hp 7 _ rfl; exact h) rfl
      obtain ⟨z8, rfl, h8⟩ := num (c := c8) (x := x8) (L := [c8, c9, c10, c11, c12, c13, c14, c15, c16, c17]) (by have h := hp 8 _ rfl; exact h) rfl
      obtain ⟨z9, rfl, h9⟩ := num (c := c9) (x := x9) (L := [c9, c10, c11, c12, c13, c14, c15, c16, c17]) (by have h := hp 9 _ rfl; exact h) rfl
      obtain ⟨z10, rfl, h10⟩ := num (c := c10) (x := x10) (L := [c10, c11, c12, c13, c14, c15, c16, c17]) (by have h := hp 10 _ rfl; exact h) rfl
      obtain ⟨z11, rfl, h11⟩ := num (c := c11) (x := x11) (L := [c11, c12, c13, c14, c15, c16, c17]) (by have h := hp 11 _ rfl; exact h) rfl
      obtain ⟨z12, rfl, h12⟩ := num (c := c12) (x := x12) (L := [c12, c13, c14, c15, c16, c17]) (by have h := hp 12 _ rfl; exact h) rfl
      obtain ⟨z13, rfl, h13⟩ := num (c := c13) (x := x13) (L := [c13, c14, c15, c16, c17]) (by have h := hp 13 _ rfl; exact h) rfl
      obtain ⟨z14, rfl, h14⟩ := num (c := c14) (x := x14) (L := [c14, c15, c16, c17]) (by have h := hp 14 _ rfl; exact h) rfl
      obtain ⟨z15, rfl, h15⟩ := num (c := c15) (x := x15) (L := [c15, c16, c17]) (by have h := hp 15 _ rfl; exact h) rfl
      obtain ⟨z16, rfl, h16⟩ := num (c := c16) (x := x16) (L := [c16, c17]) (by have h := hp 16 _ rfl; exact h) rfl
      obtain ⟨z17, rfl, h17⟩ := num (c := c17) (x := x17) (L := [c17]) (by have h := hp 17 _ rfl; exact h) rfl
      refine ⟨⟨z0, z1, z2, z3, z4, z5, z6, z7, z8, z9, z10, z11, z12, z13, z14, z15, z16, z17⟩, rfl, fun i => ?_⟩
      have hb : ∀ b : Bool, InI64 (b2i b) := by intro b; cases b <;> (unfold InI64 b2i; decide)
      match i with
      | 0 => exact h0
      | 1 => exact h1
      | 2 => exact h2
      | 3 => exact h3
      | 4 => exact hb _
      | 5 => exact hb _
      | 6 => exact hb _
      | 7 => exact h7
      | 8 => exact h8
      | 9 => exact h9
      | 10 => exact h10
      | 11 => exact h11
      | 12 => exact h12
      | 13 => exact h13
      | 14 => exact h14
      | 15 => exact h15
      | 16 => exact h16
      | 17 => exact h17
      | k + 18 => exact (by unfold InI64; decide : InI64 0)
end

set_option maxRecDepth 100000 in
/-- What the walk gives, at every world that holds the tables. -/
theorem contract (H : Type) (enc : TypeId × Value → H) (W : World) (base : Nat) (args : Array Value) (ds gs : List (DataW H)) (before : List MemPlace)
    (hval0 : ∀ (j : Nat) t v, Tryd.f3.params[j]? = some t → args[j]? = some v → Value.okWide Tryd.prog W .any base t v)
    (hW : DataW.Whole enc Tryd.prog Tryd.f3.params.toList Rows.stylePrintsSpec.vars false W args.toList ds gs before) (hL : laidMetH Tryd.prog Rows.stylePrintsRow.laid W) :
    Calls Tryd.prog 3 args W fun e W' => ∃ v, e = .returned v ∧ Rows.stylePrintsSpec.post enc Tryd.prog Tryd.f3 false true false false W args v W' := by
  have hval := hval0
  have hW' := hW
  obtain ⟨p, q, hA0, hV, rfl, hfz, hnd⟩ := hW
  have hA : DataW.TrodAll enc Tryd.prog W 0 (fun _ => true) true Tryd.f3.params.toList args.toList ds p := hA0
  rw [Tryd.params3] at hA hval
  obtain ⟨v0, vs0, d0, ds0, p0, q0, hargs, rfl, rfl, h0, r0⟩ := trodAll_cons hA
  obtain ⟨rfl, rfl, rfl⟩ := trodAll_nil r0
  obtain rfl : args = #[v0] := by cases args; simp_all
  obtain ⟨rfl, rfl⟩ := trodVars_none hV
  obtain ⟨cs, rfl, hcs⟩ := okWide_struct Tryd.underlying23 (hval 0 23 v0 rfl rfl)
  have k0 := h0
  have lt0 : ∀ x ∈ p0, x.block < W.heap.size := by obtain ⟨m, hm⟩ := k0; exact DataW.trod_lt m _ _ _ hm
  obtain ⟨s, hs, hwf⟩ := open_sty (hcs.trans (by kernel_rfl)) h0
  clear hA0 hval0
  have walk : Calls Tryd.prog 3 #[Value.agg cs] W fun e W' => e = .returned (.bool true) ∧ Below W.heap.size W W' := by
    rw [hs]
    exact prints_true s hwf W (pow_of hL)
  refine walk.mono fun e W' ⟨he, bel⟩ => ?_
  subst he
  exact ⟨_, rfl, _, _, _, [], _, [], hW', trodAll_mk1 (shut_bool Tryd.underlying4 _), (trodAll_cons_mk (Below.trod laidOut (by kernel_rfl) (of_decide_eq_true (by kernel_rfl)) k0 bel lt0) trodAll_mk0), rfl, bel.frame _, fun h => by cases h⟩

def zero : Value := .agg #[.int .i64 0, .int .i64 0, .int .i64 0, .int .i64 0, .bool false, .bool false, .bool false, .int .i64 0, .int .i64 0, .int .i64 0, .int .i64 0, .int .i64 0, .int .i64 0, .int .i64 0, .int .i64 0, .int .i64 0, .int .i64 0, .int .i64 0]
theorem laid_met (os : Os) : laidMet Tryd.prog Rows.stylePrintsRow.laid ((World.laidAll Tryd.prog os Rows.stylePrintsRow.laid).forCall (fun _ _ => 0) ⟨#[], #[zero], []⟩).memory :=
  laidMet_laidAll #[zero] (by kernel_rfl) (by kernel_rfl)
theorem reads (os : Os) {H : Type} (enc : TypeId × Value → H) : ∃ x, DataW.whole enc Tryd.prog ((World.laidAll Tryd.prog os Rows.stylePrintsRow.laid).forCall (fun _ _ => 0) ⟨#[], #[zero], []⟩).memory Tryd.f3.params.toList Rows.stylePrintsSpec.vars false #[zero].toList 8 = some ([.agg [.lit (.int .i64 0), .lit (.int .i64 0), .lit (.int .i64 0), .lit (.int .i64 0), .lit (.bool false), .lit (.bool false), .lit (.bool false), .lit (.int .i64 0), .lit (.int .i64 0), .lit (.int .i64 0), .lit (.int .i64 0), .lit (.int .i64 0), .lit (.int .i64 0), .lit (.int .i64 0), .lit (.int .i64 0), .lit (.int .i64 0), .lit (.int .i64 0), .lit (.int .i64 0)]], [], x) :=
  ⟨[], by kernel_rfl⟩

set_option maxRecDepth 100000 in
theorem lifted (os : Os) (started : os.Started) (H : Type) (enc : TypeId × Value → H) (F : Stop.Interp) :
    ReturnsInHanded {} Tryd.checked os 3 .any ((OpenSpec.ofChange Rows.stylePrintsSpec).preRow enc Tryd.prog Tryd.f3 Rows.stylePrintsRow.domain false Rows.stylePrintsRow.laid) (((OpenSpec.ofChange Rows.stylePrintsSpec).at F).post enc Tryd.prog Tryd.f3 false true false false) := by
  obtain ⟨places, hx⟩ := reads os enc
  refine returnsInHanded_of_row (C := Tryd.checked) (s := OpenSpec.ofChange Rows.stylePrintsSpec) own started (by kernel_rfl) Tryd.func3
    (witness_row_at (enc := enc) (C := Tryd.checked) false (World.laidAll Tryd.prog os Rows.stylePrintsRow.laid) #[zero] (World.laidAll_os _ _ _) (by kernel_rfl) (by kernel_rfl) (by kernel_rfl)
      (OpenSpec.preRow_of_cond 8 hx (by kernel_rfl) (fun k hk => by cases hk) (by kernel_rfl) (laid_met os))) ?_
  intro W base args ds gs before hval hW _ _ _ hL _ _
  exact contract H enc W base args ds gs before hval hW hL

theorem said : Rows.StylePrintsSaid :=
  OpenClaim.holds_of_cond 3 Tryd.f3 rfl rfl rfl rfl rfl rfl rfl ⟨rfl, rfl, rfl, rfl, rfl⟩ rfl rfl rfl rfl rfl (by kernel_rfl) Tryd.func3 (by kernel_rfl)
    (of_decide_eq_true (by kernel_rfl)) (by unfold Func.isWrapper; first | (rw [if_pos (by decide +kernel)]; kernel_rfl) | (rw [if_neg (by decide +kernel)]; exact ⟨rfl, rfl⟩))
    (fun os started H enc _ F => by rw [OpenClaim.pre_eq_preRow]; exact lifted os started H enc F)

theorem plain (f : FuncId) (fn : Func) (hf : Tryd.pinned.checked.prog.funcNamed "reglet/regletlaw09.StylePrints" = some f) (hfn : Tryd.pinned.checked.prog.funcs[f]? = some fn) :
    true = Tryd.pinned.checked.prog.looks [] ∧ ∀ (j : Nat) t, fn.params[j]? = some t → Tryd.pinned.checked.prog.wantsStandIn t = false := by
  obtain rfl : f = 3 := Option.some.inj ((show Tryd.prog.funcNamed "reglet/regletlaw09.StylePrints" = some 3 by kernel_rfl).symm.trans hf) |>.symm
  obtain rfl : fn = Tryd.f3 := (Option.some.inj (Tryd.func3.symm.trans hfn)).symm
  refine ⟨by kernel_rfl, fun j t ht => ?_⟩
  rw [Tryd.params3] at ht
  obtain rfl : t = 23 := by simpa using Array.mem_of_getElem? ht
  exact (show Tryd.prog.wantsStandIn 23 = false by kernel_rfl)

/-- The card. -/
theorem card : Rows.StylePrintsCardSaid :=
  Claim7.holds_tied_plain_at .later [] _ _ _ _ said (fun _ h => by cases h) (by kernel_rfl) (fun _ h => by cases h) stylePrints_row_tie rfl ⟨rfl, rfl⟩ (by kernel_rfl) rfl plain (by kernel_rfl)
end Go.Proofs.YtjfpfmknngkgaaaDoor.stylePrints
