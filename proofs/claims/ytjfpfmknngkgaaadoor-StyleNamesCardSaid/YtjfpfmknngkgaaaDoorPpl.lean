/- Parse's plain form: what the lines of a text make of a style. No condition. -/
import Derived.Test.YtjfpfmknngkgaaaDoorFst
import Derived.Test.YtjfpfmknngkgaaaDoorSText
namespace Go.Proofs.YtjfpfmknngkgaaaDoor
set_option linter.unusedVariables false
set_option linter.unusedSimpArgs false
open Go.RowKit Rng
/-- An entry's name, least and greatest number. -/
def nmL (i : Nat) : List UInt8 := (nameOf i).data.toList
def loL (i : Nat) : Int := ((entL 0)[i]?.map Ent.lo).getD 0
def hiL (i : Nat) : Int := ((entL 0)[i]?.map Ent.hi).getD 0
theorem ent_eq {B i : Nat} {e : Ent} (h : (entL B)[i]? = some e) (hi : i < 18) : e.nm = nameOf i ∧ e.lo = loL i ∧ e.hi = hiL i := by
  match i, hi with
  | 0, _ | 1, _ | 2, _ | 3, _ | 4, _ | 5, _ | 6, _ | 7, _ | 8, _ | 9, _ | 10, _ | 11, _ | 12, _ | 13, _ | 14, _ | 15, _ | 16, _ | 17, _ => simp [entL] at h; subst h; exact ⟨rfl, rfl, rfl⟩
def lineName (l : List UInt8) : List UInt8 := trimB (cutN l)
/-- Does the line set this entry? -/
def hits (l : List UInt8) (had : List (List UInt8)) (i : Nat) : Bool := saidI l && (nmL i == lineName l) && decide (loL i ≤ (valD (numT l) : Nat)) && decide ((valD (numT l) : Nat) ≤ hiL i) && !had.contains (lineName l)
def hitL (l : List UInt8) (had : List (List UInt8)) : Option Nat := (List.range 18).find? (hits l had)
/-- Is there nothing in the line? -/
def idle (l : List UInt8) : Bool := (l == []) || (l.head? == some 35)
/-- What the lines make of a style. -/
def parseFrom : List (List UInt8) → Sty → List (List UInt8) → Nat → Sty × Int × Int
  | [], s, _, _ => (s, 0, 0)
  | x :: r, s, had, at' =>
    if idle (trimB x) then parseFrom r s had (at' + x.length + 1)
    else match hitL (trimB x) had with
      | some i => parseFrom r (s.put i (valD (numT (trimB x)) : Nat)) (lineName (trimB x) :: had) (at' + x.length + 1)
      | none => (zeroSty, ((at' + x.length : Nat) : Int) - ((Lib.trimLeftS x blankL).length : Nat), 90)
/-- What Parse gives. -/
def parseS (t : List UInt8) : Sty × Int × Int := if 65536 < t.length then (zeroSty, 0, 3) else parseFrom (splitNl t) firstSty [] 0
/-- How many bytes the lines have, with their ends. -/
def lensL (L : List (List UInt8)) : Nat := (L.map fun x => x.length + 1).sum
theorem lens_split : ∀ t, lensL (splitNl t) = t.length + 1
  | [] => by simp [lensL, splitNl]
  | c :: r => by
    have ih := lens_split r
    unfold splitNl
    split
    · simp only [lensL, List.map_cons, List.sum_cons, List.length_nil, List.length_cons] at *; omega
    · cases h : splitNl r with
      | nil => exact absurd h (splitNl_ne r)
      | cons a t =>
        rw [h] at ih
        simp only [lensL, List.map_cons, List.sum_cons, List.length_cons] at *
        omega
theorem lens_snoc (L : List (List UInt8)) (x : List UInt8) : lensL (L ++ [x]) = lensL L + (x.length + 1) := by simp [lensL]
theorem lens_le {L pre suf : List (List UInt8)} (h : L = pre ++ suf) : lensL pre ≤ lensL L := by
  rw [h]
  simp only [lensL, List.map_append, List.sum_append]
  omega
theorem parse_idle {x : List UInt8} {r : List (List UInt8)} {s : Sty} {had : List (List UInt8)} {a : Nat} (h : idle (trimB x) = true) : parseFrom (x :: r) s had a = parseFrom r s had (a + (x.length + 1)) := by
  unfold parseFrom
  rw [if_pos h]
  cases r <;> rfl
theorem parse_hit {x : List UInt8} {r : List (List UInt8)} {s : Sty} {had : List (List UInt8)} {a i : Nat} (h : idle (trimB x) = false) (hh : hitL (trimB x) had = some i) :
    parseFrom (x :: r) s had a = parseFrom r (s.put i (valD (numT (trimB x)) : Nat)) (lineName (trimB x) :: had) (a + (x.length + 1)) := by
  conv => lhs; unfold parseFrom
  rw [if_neg (by rw [h]; simp), hh]
  rfl
theorem parse_none {x : List UInt8} {r : List (List UInt8)} {s : Sty} {had : List (List UInt8)} {a : Nat} (h : idle (trimB x) = false) (hh : hitL (trimB x) had = none) :
    parseFrom (x :: r) s had a = (zeroSty, ((a + x.length : Nat) : Int) - ((Lib.trimLeftS x blankL).length : Nat), 90) := by
  unfold parseFrom
  rw [if_neg (by rw [h]; simp), hh]
theorem hitL_some {l : List UInt8} {had : List (List UInt8)} {i : Nat} (hi : i < 18) (hn : ∀ j, j < i → hits l had j = false) (h : hits l had i = true) : hitL l had = some i := by
  unfold hitL
  have e : List.range 18 = List.range i ++ i :: (List.range 18).drop (i + 1) := by
    have h1 : (List.range 18)[i]'(by simpa using hi) = i := by simp
    conv => lhs; rw [← List.take_append_drop i (List.range 18)]
    rw [List.drop_eq_getElem_cons (by simpa using hi), h1, List.take_range, Nat.min_eq_left (by omega)]
  rw [e, List.find?_append, List.find?_eq_none.2 (fun j hj => by rw [hn j (List.mem_range.1 hj)]; simp), List.find?_cons, h]
  rfl
theorem hitL_none {l : List UInt8} {had : List (List UInt8)} (hn : ∀ j, j < 18 → hits l had j = false) : hitL l had = none :=
  List.find?_eq_none.2 fun j hj => by rw [hn j (List.mem_range.1 hj)]; simp
theorem trimL_len (l cs : List UInt8) : (Lib.trimLeftS l cs).length ≤ l.length := (List.dropWhile_sublist _).length_le
end Go.Proofs.YtjfpfmknngkgaaaDoor
