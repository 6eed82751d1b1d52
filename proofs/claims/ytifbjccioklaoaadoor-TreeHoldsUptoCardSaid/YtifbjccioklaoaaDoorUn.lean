/- Under: the names in a folder, sorted, each once; an error where the folder is no path. Conditions: readable files, of at most 3000 bytes as great reckons them; a folder of at most 1000 bytes; the library's variable is there. -/
import Derived.Test.YtifbjccioklaoaaDoorNn
import Derived.Test.YtifbjccioklaoaaDoorIter
import Derived.Lib.OwnBridge
namespace Go.Proofs.YtifbjccioklaoaaDoor
set_option linter.unusedVariables false
set_option linter.unusedSimpArgs false
open Go.RowKit Rng Go.Maps Go.Shelf Go.Lib Go.Sort
/-- The call's own slice of texts. -/
abbrev OwnB (w : World) (base : Nat) (v : Value) (l : List (List UInt8)) : Prop := w.ownsRow base 9 1 v l.length (l.map encStr)
theorem ownB_rs {w : World} {base : Nat} {v : Value} {l : List (List UInt8)} (h : OwnB w base v l) : Rs w.heap.size w v l := by
  have h' := h
  obtain ⟨_, ⟨rfl, h0⟩ | ⟨g, cap, cur, rfl, hb, hc, h1, h2, _⟩⟩ := h
  · have : l = [] := List.eq_nil_of_length_eq_zero h0
    subst this
    exact ⟨none, 0, rfl, Nat.le_refl _, by unfold maxLen; omega, fun i r hr => by simp at hr⟩
  · refine ⟨some ⟨g, 0, none⟩, cap, rfl, h1, h2, fun i r hr => ?_⟩
    have hi := (List.getElem?_eq_some_iff.1 hr).1
    refine ⟨g, 0, rfl, (Array.getElem?_eq_some_iff.1 hc).1, ?_⟩
    rw [Nat.zero_add, h'.cellAt i (by omega), List.getElem?_map, hr]
    rfl
theorem under1_gives (x f : List UInt8) (B : Nat) (W : World) (hc : W.cell? ⟨B, 0, none⟩ = some (.string ⟨f.toArray⟩)) :
    FnGives Tryd.prog 17 #[.pointer (some ⟨B, 0, none⟩)] #[encStr x] (.bool (!f.isPrefixOf x)) W := by
  show Calls Tryd.prog 17 #[.string ⟨x.toArray⟩, .pointer (some ⟨B, 0, none⟩)] W _
  have HP := Lib.hid (Tryd.strings_HasPrefix ⟨x.toArray⟩ ⟨f.toArray⟩ W)
  have hx : Lib.hasPrefix (ByteArray.mk x.toArray).data.toList (ByteArray.mk f.toArray).data.toList = f.isPrefixOf x := rfl
  rw [hx] at HP
  clear hx
  cases hb : f.isPrefixOf x with
  | false =>
    rw [hb] at HP
    clear hb
    go_enter Tryd.func17, Tryd.ntmps17
    go_wp2_with (go_at_call 18; refine HP.out.mono ?_; rintro e w' ⟨rfl, rfl⟩)
    go_ret
    exact ⟨rfl, 0, rfl⟩
  | true =>
    rw [hb] at HP
    clear hb
    go_enter Tryd.func17, Tryd.ntmps17
    go_wp2_with (go_at_call 18; refine HP.out.mono ?_; rintro e w' ⟨rfl, rfl⟩)
    go_ret
    exact ⟨rfl, 0, rfl⟩
theorem indexf_none (a : Option Addr) (c : Nat) (fv : Value) (w : World) : Calls Tryd.prog 28 #[.slice a 0 c, fv] w fun e w' => e = .returned (.int .i64 (-1)) ∧ w' = w :=
  AnyE.slices_IndexFunc_empty (P := Tryd.prog) (ρ := Tryd.laysSlH10_f16_ren) { Tryd.laysSlH10_f16 with } a c fv w
theorem del_none (fv : Value) (w : World) : Calls Tryd.prog 16 #[.slice none 0 0, fv] w fun e w' => e = .returned (.slice none 0 0) ∧ w' = w := by
  go_enter Tryd.func16, Tryd.ntmps16
  go_wp2_with (go_at_call 28; refine (indexf_none _ _ _ _).mono ?_; rintro e w' ⟨rfl, rfl⟩)
  go_ret
  exact ⟨rfl, rfl⟩
theorem zeroStr (w : World) : (zeroValue 9).run Tryd.prog w = .ok (encStr []) w := by kernel_rfl
theorem del_calls {w : World} {base : Nat} {v : Value} {ss : List (List UInt8)} (h : OwnB w base v ss) (f : List UInt8) (B : Nat) (hB : B < base) (hBw : base ≤ w.heap.size) (hc : w.cell? ⟨B, 0, none⟩ = some (.string ⟨f.toArray⟩)) :
    Calls Tryd.prog 16 #[v, .func (.func 17) #[] #[.pointer (some ⟨B, 0, none⟩)]] w fun e w' =>
      ∃ v', e = .returned v' ∧ OwnB w' base v' (ss.filter fun x => f.isPrefixOf x) ∧ Below base w w' := by
  by_cases hv : v = .slice none 0 0
  · subst hv
    have h0 : ss = [] := by
      rcases h.2 with ⟨_, h0⟩ | ⟨g, cap, cur, e0, _⟩
      · exact List.eq_nil_of_length_eq_zero h0
      · cases e0
    subst h0
    exact (del_none _ w).mono fun e w' ⟨he, hw⟩ => ⟨_, he, World.ownsRow_nil _ _ _ _, by rw [hw]; exact Below.refl _ _⟩
  · obtain ⟨g, cap, rfl, hg, hgl, hn, hm, hl, hH⟩ := holds_of_ownsRow h hv
    have hd := Tryd.slices_DeleteFunc encStr (fun _ => rfl) (fun x => !f.isPrefixOf x) 17 #[.pointer (some ⟨B, 0, none⟩)] (enters_of Tryd.func17 (by kernel_rfl) rfl) [] zeroStr g 0 cap ss.toArray w
      (fun W x hb => under1_gives x f B W ((hb.cell (p := ⟨B, 0, none⟩) (by show B < _; omega)).trans hc))
      (fun n os dk x _ => under1_gives x f B _ (by
        unfold sortWorld
        rw [cell?_grow _ _ _ (by show B < (putRow _ _ _ _ _).heap.size; rw [size_putRow]; show B < w.heap.size; omega), cell?_putRow_other _ _ g 0 _ _ (Or.inl (by show B ≠ g; omega))]
        exact hc))
      hH (by simp; unfold maxLen at hm; omega) (by simpa using hn)
    have hfl : (ss.filter fun x => !(!f.isPrefixOf x)) = ss.filter fun x => f.isPrefixOf x := by
      congr 1
      funext x
      cases f.isPrefixOf x <;> rfl
    have hss : ss.toArray.toList = ss := rfl
    have hsz : ss.toArray.size = ss.length := List.size_toArray
    rw [hsz, hss, hfl] at hd
    refine hd.mono fun e w' ⟨he, q, hw⟩ => ⟨_, he, ?_, ?_⟩
    · have hk : (ss.filter fun x => f.isPrefixOf x).length ≤ ss.length := List.length_filter_le _ _
      have := ownsRow_putRow (q := q) (ys := (ss.filter fun x => f.isPrefixOf x) ++ List.replicate (ss.length - (ss.filter fun x => f.isPrefixOf x).length) []) h (by simp; omega) hk
      rw [List.take_left] at this
      rw [hw]
      exact this
    · rw [hw]
      exact below_putRow (Below.refl _ w) hg
/-- Is a name a path? -/
def okL (x : List UInt8) : Bool := pathB ⟨x.toArray⟩
def namesL (l : List (ByteArray × ByteArray)) : List (List UInt8) := namesOf okL (l.map fun f => f.1.data.toList)
theorem mem_namesL {l : List (ByteArray × ByteArray)} {x : List UInt8} : x ∈ namesL l ↔ inN l x = true := by
  unfold namesL inN
  rw [mem_names, List.any_eq_true]
  simp only [List.mem_map, Bool.and_eq_true, decide_eq_true_eq]
  constructor
  · rintro ⟨⟨f, hf, rfl⟩, h⟩; exact ⟨f, hf, rfl, h⟩
  · rintro ⟨f, hf, rfl, h⟩; exact ⟨⟨f, hf, rfl⟩, h⟩
theorem contains_namesL (l : List (ByteArray × ByteArray)) (x : List UInt8) : (namesL l).contains x = inN l x := by
  rw [Bool.eq_iff_iff, List.contains_eq_mem, decide_eq_true_eq, mem_namesL]
theorem sorted_names {w : World} {b : Nat} {l : List (ByteArray × ByteArray)} {D : DataW Unit} {m : Nat} {ss : List (List UInt8)} (h : w.ownsMap Tryd.prog 9 (plainElem Tryd.prog 3) b m D) (hD : ∀ x, Maps.has D (.string x) = inN l x) (hp : ss.Perm (strKeys D)) : ss.mergeSort leB = namesL l := by
  obtain ⟨es, hE, hpw, _⟩ := h.entries keyStr
  obtain ⟨es', hE', hko⟩ := h.keysOf
  obtain rfl : es = es' := by rw [hE] at hE'; simpa using hE'
  subst hE
  have hk : (keysF okL (l.map fun f => f.1.data.toList)).Perm (strKeys (.map es)) := perm_strKeys hpw (fun p hp => by obtain ⟨v, hv⟩ := hko p hp; obtain ⟨x, _, hx, _⟩ := Maps.keyOf_str Tryd.underlying9 hv; exact ⟨x, hx⟩) (nodup_keysF _ _) (fun x => by
    rw [hD x, ← mem_namesL]
    unfold namesL namesOf
    rw [(List.mergeSort_perm _ _).mem_iff])
  exact mergeSort_of_perm (hp.trans hk.symm)
/-- What Under gives. -/
def underL (l : List (ByteArray × ByteArray)) (f : List UInt8) : List (List UInt8) := (namesL l).filter (inF f)
end Go.Proofs.YtifbjccioklaoaaDoor
