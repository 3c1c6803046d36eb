import Derived.Test.YtamkldohfhidiaaDoorW18
namespace Go.Abs

/-- The scanner, with a count of rounds. -/
def scanF : Nat → List UInt8 → Nat → List Tok × Option Nat
  | 0, _, _ => ([], none)
  | f + 1, l, a => match l with
    | [] => ([], none)
    | c :: r => match oneP (c :: r) with
      | none => ([], some a)
      | some (k, n) =>
        let m := n + pastT false ((c :: r).drop n)
        let q := scanF f ((c :: r).drop m) (a + m)
        (⟨k, bsL ((c :: r).take n), a⟩ :: q.1, q.2)
theorem scanF_eq : ∀ (f : Nat) (l : List UInt8) (a : Nat), l.length < f → scanW l a = scanF f l a
  | 0, l, a, h => by omega
  | f + 1, [], a, h => by rw [scanW_nil]; rfl
  | f + 1, c :: r, a, h => by
    simp only [scanF]
    cases h1 : oneP (c :: r) with
    | none => rw [scanW_none a (by simp) h1]
    | some p =>
      obtain ⟨k, n⟩ := p
      rw [scanW_some a (by simp) h1]
      obtain ⟨h2, h3⟩ := oneP_pos h1
      simp only
      rw [scanF_eq f _ _ (by rw [List.length_drop]; simp only [List.length_cons] at h h3 ⊢; omega)]
def utfF : Nat → List UInt8 → Nat → Option Nat
  | 0, _, _ => none
  | f + 1, l, a => match l with
    | [] => none
    | c :: r => if (decL (c :: r)).1 = 65533 ∧ (decL (c :: r)).2 < 2 then some a else utfF f ((c :: r).drop (decL (c :: r)).2) (a + (decL (c :: r)).2)
theorem utfF_eq : ∀ (f : Nat) (l : List UInt8) (a : Nat), l.length < f → utfBad l a = utfF f l a
  | 0, l, a, h => by omega
  | f + 1, [], a, h => by rw [utfBad]; rfl
  | f + 1, c :: r, a, h => by
    rw [utfBad, dif_neg (by simp)]
    simp only [utfF]
    split
    · rfl
    · have := decL_pos (c :: r)
      exact utfF_eq f _ _ (by rw [List.length_drop]; simp only [List.length_cons] at h ⊢; omega)
def scanPF (f : Nat) (l : List UInt8) : SR :=
  if 65536 < l.length then .bad 0 3 else match utfF f l 0 with
    | some p => .bad p 60
    | none => match scanF f (l.drop (pastT false l)) (pastT false l) with
      | (ts, none) => .ok (ts ++ [⟨0, bsL [], l.length⟩])
      | (_, some p) => .bad p 61
theorem scanPF_eq (f : Nat) (l : List UInt8) (h : l.length < f) : scanP l = scanPF f l := by
  unfold scanP scanPF
  rw [utfF_eq f l 0 h, scanF_eq f _ _ (by rw [List.length_drop]; omega)]
  rfl
def readF {α : Type} (f : Nat) (p : List Tok → PR α) (l : List UInt8) : Top α :=
  match scanPF f l with
  | .bad p e => .bad p e
  | .ok ts => restTop (p (ts ++ [endT l, endT l]))
theorem readF_eq {α : Type} (f : Nat) (p : List Tok → PR α) (l : List UInt8) (h : l.length < f) : readTop p l = readF f p l := by
  unfold readTop readF
  rw [scanPF_eq f l h]
  rfl

/-! ### The chapter's examples -/
def exA : T := .mk 2 (bs []) [.mk 7 (bs []) [.mk 6 (bs []) [.mk 1 (bs [102]) [] [] 4, .mk 1 (bs [120]) [] [] 6] [] 4, .mk 1 (bs [105]) [] [] 10] [] 4] [bs [120]] 0
def exB : T := .mk 4 (bs []) [.mk 1 (bs [65]) [] [] 5, .mk 1 (bs [66]) [] [] 11] [bs [120]] 0
def exC : T := .mk 6 (bs []) [.mk 9 (bs []) [.mk 1 (bs [120]) [] [] 1, .mk 1 (bs [65]) [] [] 5] [] 0, .mk 1 (bs [121]) [] [] 8] [] 0
def exL : T := .mk 18 (bs [102]) [.mk 1 (bs [85]) [] [] 4, .mk 1 (bs [85]) [] [] 8] [] 0
def exW : T := .mk 2 (bs []) [.mk 7 (bs []) [.mk 6 (bs []) [.mk 1 (bs [102]) [] [] 0, .mk 1 (bs [120]) [] [] 0] [] 0, .mk 1 (bs [105]) [] [] 0] [] 0] [bs [120]] 0
theorem evA : readTop (termP 200) [92, 120, 46, 32, 102, 32, 120, 32, 64, 32, 105] = .ok exA := by
  rw [readF_eq 40 _ _ (by decide)]
  kernel_rfl
theorem evB : readTop (termP 200) [40, 120, 32, 58, 32, 65, 41, 32, 45, 62, 32, 66] = .ok exB := by
  rw [readF_eq 40 _ _ (by decide)]
  kernel_rfl
theorem evC : readTop (termP 200) [40, 120, 32, 58, 32, 65, 41, 32, 121] = .ok exC := by
  rw [readF_eq 40 _ _ (by decide)]
  kernel_rfl
theorem evH : readTop (termP 200) [102, 32, 41] = .bad 2 61 := by
  rw [readF_eq 40 _ _ (by decide)]
  kernel_rfl
theorem evL : readTop (declsL rounds []) [102, 32, 58, 32, 85, 32, 61, 32, 85, 59] = .ok [exL] := by
  rw [readF_eq 40 _ _ (by decide)]
  kernel_rfl
theorem evS : sameP false exA exW = true := by kernel_rfl
end Go.Abs
