import Derived.Test.YtamkldohfhidiaaDoorPa
import Derived.Lib.DecodeN
namespace Go.Abs

/-! ### The scanner, plainly -/

def letterI (c : Int) : Bool := ((decide (c ≥ 97) && decide (c ≤ 122)) || (decide (c ≥ 65) && decide (c ≤ 90))) || (c == 95)
def digitI (c : Int) : Bool := decide (c ≥ 48) && decide (c ≤ 57)
/-- How many bytes are a name; first: no digit may come. -/
def nameT : Bool → List UInt8 → Nat
  | _, [] => 0
  | first, c :: r => if letterI c.toNat || (!first && digitI c.toNat) then nameT false r + 1 else 0
/-- How many bytes are let by; the flag: in a comment. -/
def pastT : Bool → List UInt8 → Nat
  | _, [] => 0
  | false, c :: r => if c.toNat = 32 ∨ c.toNat = 9 ∨ c.toNat = 10 ∨ c.toNat = 13 then pastT false r + 1 else if [45, 45].isPrefixOf (c :: r) then pastT true r + 1 else 0
  | true, c :: r => if c.toNat = 10 then pastT false r + 1 else pastT true r + 1
def signsL : List (List UInt8) := [[45, 62], [47, 92], [92, 47], [40], [41], [91], [93], [44], [46], [58], [59], [61], [92], [60], [62], [64], [126], [42], [48], [49]]
/-- The token that comes: its kind, its length. -/
def oneP (l : List UInt8) : Option (Int × Nat) :=
  if 0 < nameT true l then some (1, nameT true l) else match signsL.find? (fun x => x.isPrefixOf l) with
    | some x => some (2, x.length)
    | none => none

theorem nameT_le : ∀ (b : Bool) (l : List UInt8), nameT b l ≤ l.length
  | _, [] => Nat.le_refl _
  | b, c :: r => by
    simp only [nameT, List.length_cons]
    have := nameT_le false r
    split <;> omega
theorem pastT_le : ∀ (b : Bool) (l : List UInt8), pastT b l ≤ l.length
  | _, [] => by simp [pastT]
  | false, c :: r => by
    simp only [pastT, List.length_cons]
    have := pastT_le false r
    have := pastT_le true r
    split <;> (try split) <;> omega
  | true, c :: r => by
    simp only [pastT, List.length_cons]
    have := pastT_le false r
    have := pastT_le true r
    split <;> omega
theorem signs_pos : ∀ x ∈ signsL, 0 < x.length := by decide
theorem prefix_le {x l : List UInt8} (h : x.isPrefixOf l = true) : x.length ≤ l.length := (List.isPrefixOf_iff_prefix.1 h).length_le
theorem oneP_pos {l : List UInt8} {k : Int} {n : Nat} (h : oneP l = some (k, n)) : 0 < n ∧ n ≤ l.length := by
  unfold oneP at h
  split at h
  · rename_i h0
    cases h
    exact ⟨h0, nameT_le _ _⟩
  · split at h
    · rename_i x hx
      cases h
      exact ⟨signs_pos x (List.mem_of_find?_eq_some hx), prefix_le (x := x) (l := l) (by simpa using List.find?_some (p := fun x => List.isPrefixOf x l) hx)⟩
    · cases h

/-- A text of bytes. -/
abbrev bsL (l : List UInt8) : ByteArray := ⟨l.toArray⟩
/-- The tokens, and where none could be read. -/
def scanW (l : List UInt8) (at_ : Nat) : List Tok × Option Nat :=
  if _h : l = [] then ([], none) else
  match _hp : oneP l with
  | none => ([], some at_)
  | some (k, n) =>
    let m := n + pastT false (l.drop n)
    let q := scanW (l.drop m) (at_ + m)
    (⟨k, bsL (l.take n), at_⟩ :: q.1, q.2)
 termination_by l.length
 decreasing_by
  have h1 := oneP_pos _hp
  have h2 : 0 < l.length := by omega
  simp only [List.length_drop]
  omega

theorem scanW_nil (a : Nat) : scanW [] a = ([], none) := by rw [scanW]; rfl
theorem scanW_none {l : List UInt8} (a : Nat) (h0 : l ≠ []) (h : oneP l = none) : scanW l a = ([], some a) := by
  rw [scanW, dif_neg h0]
  split
  · rfl
  · rename_i k n h2
    rw [h] at h2
    cases h2
theorem scanW_some {l : List UInt8} (a : Nat) {k : Int} {n : Nat} (h0 : l ≠ []) (h : oneP l = some (k, n)) :
    scanW l a = (⟨k, bsL (l.take n), a⟩ :: (scanW (l.drop (n + pastT false (l.drop n))) (a + (n + pastT false (l.drop n)))).1, (scanW (l.drop (n + pastT false (l.drop n))) (a + (n + pastT false (l.drop n)))).2) := by
  rw [scanW, dif_neg h0]
  split
  · rename_i h2
    rw [h] at h2
    cases h2
  · rename_i k' n' h2
    rw [h] at h2
    cases h2
    rfl

/-- The rune that comes, and how many bytes it has. -/
def decL (l : List UInt8) : Nat × Nat := Lib.decodeN l.length (l.getD 0 0).toNat (l.getD 1 0).toNat (l.getD 2 0).toNat (l.getD 3 0).toNat
theorem decL_pos (l : List UInt8) : 1 ≤ (decL l).2 := by
  unfold decL Lib.decodeN
  repeat' split
  all_goals simp
theorem decL_le (l : List UInt8) (h : l ≠ []) : (decL l).2 ≤ l.length := by
  have h0 : 0 < l.length := by cases l with | nil => exact (h rfl).elim | cons a b => simp
  unfold decL Lib.decodeN
  repeat' split
  all_goals simp only
  all_goals omega
/-- Where bytes are no text. -/
def utfBad (l : List UInt8) (at_ : Nat) : Option Nat :=
  if _h : l = [] then none else if (decL l).1 = 65533 ∧ (decL l).2 < 2 then some at_ else utfBad (l.drop (decL l).2) (at_ + (decL l).2)
 termination_by l.length
 decreasing_by
  have h1 := decL_pos l
  have h2 : 0 < l.length := by cases l with | nil => exact (_h rfl).elim | cons a b => simp
  simp only [List.length_drop]
  omega

inductive SR where
  | ok (l : List Tok)
  | bad (p e : Int)

def scanP (l : List UInt8) : SR :=
  if 65536 < l.length then .bad 0 3 else match utfBad l 0 with
    | some p => .bad p 60
    | none => match scanW (l.drop (pastT false l)) (pastT false l) with
      | (ts, none) => .ok (ts ++ [⟨0, bsL [], l.length⟩])
      | (_, some p) => .bad p 61

theorem get_bang (s : ByteArray) (i : Nat) : s.get! i = s.data.toList.getD i 0 := by
  show s.data[i]! = _
  rw [List.getD_eq_getElem?_getD, Array.getElem?_toList, Array.getElem!_eq_getD, Array.getD_eq_getD_getElem?]
  rfl
/-- The kit's decoder, by the bytes. -/
theorem decodeGo_eq (s : ByteArray) (h : s.data.toList ≠ []) : (if s.size = 0 then (65533, 0) else Utf8.decode s 0) = decL s.data.toList := by
  have h0 : s.size ≠ 0 := by
    intro e
    apply h
    apply List.eq_nil_of_length_eq_zero
    rw [Array.length_toList]
    exact e
  rw [if_neg h0, Lib.decode_at]
  unfold decL
  simp only [get_bang, Nat.sub_zero, Nat.zero_add, Array.length_toList]
  rfl
theorem extract_toList (s : ByteArray) (i j : Nat) : (s.extract i j).data.toList = (s.data.toList.drop i).take (j - i) := by
  rw [ByteArray.data_extract, Array.toList_extract, List.extract_eq_take_drop]
theorem extract_end (s : ByteArray) (i : Nat) : (s.extract i s.size).data.toList = s.data.toList.drop i := by
  rw [extract_toList, List.take_of_length_le]
  rw [List.length_drop, Array.length_toList]
  exact Nat.le_refl _
theorem ba_ext {a b : ByteArray} (h : a.data.toList = b.data.toList) : a = b := by
  cases a
  cases b
  congr 1
  exact Array.ext' h

end Go.Abs
