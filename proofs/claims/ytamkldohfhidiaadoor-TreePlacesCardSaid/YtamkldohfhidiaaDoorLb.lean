import Derived.Test.YtamkldohfhidiaaDoorLy
namespace Go.Abs

/-! ### TreeBrackets -/

theorem sign_tok (c : UInt8) (r : List UInt8) (a : Nat) (h1 : oneP (c :: r) = some (2, 1)) : scanW (c :: r) a = (⟨2, bsL [c], a⟩ :: (scanFrom r (a + 1)).1, (scanFrom r (a + 1)).2) := by
  rw [scanW_step a (by simp) h1]
  rfl
theorem from_sign (c : UInt8) (r : List UInt8) (a : Nat) (h0 : pastT false (c :: r) = 0) (h1 : oneP (c :: r) = some (2, 1)) : scanFrom (c :: r) a = (⟨2, bsL [c], a⟩ :: (scanFrom r (a + 1)).1, (scanFrom r (a + 1)).2) := by
  have : scanFrom (c :: r) a = scanW (c :: r) a := by
    unfold scanFrom
    rw [h0]
    rfl
  rw [this]
  exact sign_tok c r a h1
theorem from_name (c : UInt8) (r : List UInt8) (a : Nat) (h0 : pastT false (c :: r) = 0) (h1 : oneP (c :: r) = some (1, 1)) : scanFrom (c :: r) a = (⟨1, bsL [c], a⟩ :: (scanFrom r (a + 1)).1, (scanFrom r (a + 1)).2) := by
  have : scanFrom (c :: r) a = scanW (c :: r) a := by
    unfold scanFrom
    rw [h0]
    rfl
  rw [this, scanW_step a (by simp) h1]
  rfl
theorem from_nil (a : Nat) : scanFrom [] a = ([], none) := by
  unfold scanFrom
  rw [List.drop_nil, scanW_nil]

/-- The text in brackets. -/
def inBr (l : List UInt8) : List UInt8 := 40 :: (l ++ [10, 41])
def inDecl (l : List UInt8) : List UInt8 := 120 :: 32 :: 58 :: 32 :: (l ++ [10, 61, 32, 85, 59])

theorem utf_br {l : List UInt8} : utfBad (inBr l) 0 = match utfBad l 0 with | some p => some (p + 1) | none => none := by
  unfold inBr
  rw [utfBad_ascii 40 (by decide), show (0 : Nat) + 1 = 0 + 1 from rfl, utfBad_sh 1 _ _ _ (Nat.le_refl _), utfBad_app [41] _ l 0 (Nat.le_refl _)]
  cases h : utfBad l 0 with
  | some p => rfl
  | none =>
    simp only
    rw [utfBad_ascii 10 (by decide), utfBad_ascii 41 (by decide), utfBad_nil']
    rfl
theorem utf_decl {l : List UInt8} (h : utfBad l 0 = none) : utfBad (inDecl l) 0 = none := by
  unfold inDecl
  rw [utfBad_ascii 120 (by decide), utfBad_ascii 32 (by decide), utfBad_ascii 58 (by decide), utfBad_ascii 32 (by decide), show (0 : Nat) + 1 + 1 + 1 + 1 = 0 + 4 from rfl, utfBad_sh 4 _ _ _ (Nat.le_refl _), utfBad_app [61, 32, 85, 59] _ l 0 (Nat.le_refl _), h]
  simp only
  rw [utfBad_ascii 10 (by decide), utfBad_ascii 61 (by decide), utfBad_ascii 32 (by decide), utfBad_ascii 85 (by decide), utfBad_ascii 59 (by decide), utfBad_nil']
  rfl

theorem scan_br {l : List UInt8} {ts0 : List Tok} (hl : l.length ≤ 60000) (hu : utfBad l 0 = none) (hs : scanFrom l 0 = (ts0, none)) :
    scanP (inBr l) = .ok (⟨2, bsL [40], 0⟩ :: shl 1 (ts0 ++ [⟨2, bsL [41], ((l.length + 1 : Nat) : Int)⟩, ⟨0, bsL [], ((l.length + 2 : Nat) : Int)⟩])) := by
  have h1 : scanFrom l 1 = (shl 1 ts0, none) := by
    have := scanFrom_sh 1 l 0
    rw [hs] at this
    exact this
  have h2 := scanFrom_app l [41] 1 _ h1
  rw [scanFrom_blank 10 (by decide), from_sign 41 [] _ (by decide) (by decide), from_nil] at h2
  have h3 : scanFrom (inBr l) 0 = (⟨2, bsL [40], 0⟩ :: (shl 1 ts0 ++ [⟨2, bsL [41], ((1 + l.length + 1 : Nat) : Int)⟩]), none) := by
    unfold inBr
    rw [from_sign 40 _ _ (by simp [pastT, List.isPrefixOf]) (by simp [oneP, nameT, letterI, signsL, List.isPrefixOf]), Nat.zero_add, h2]
    rfl
  rw [scanP_parts.2 ⟨by unfold inBr; simp; omega, by rw [utf_br, hu], _, h3, rfl⟩]
  have hlen : (inBr l).length = l.length + 3 := by unfold inBr; simp
  have hE : endT (inBr l) = ⟨0, bsL [], ((l.length + 2 : Nat) : Int) + 1⟩ := by
    simp only [endT, hlen]
    congr 1
  have hQ : (⟨2, bsL [41], ((1 + l.length + 1 : Nat) : Int)⟩ : Tok) = ⟨2, bsL [41], ((l.length + 1 : Nat) : Int) + 1⟩ := by
    congr 1
    omega
  rw [hE, hQ]
  simp [shl, Tok.sh]

theorem scan_decl {l : List UInt8} {ts0 : List Tok} (hl : l.length ≤ 60000) (hu : utfBad l 0 = none) (hs : scanFrom l 0 = (ts0, none)) :
    scanP (inDecl l) = .ok (⟨1, bsL [120], 0⟩ :: ⟨2, bsL [58], 2⟩ :: shl 4 (ts0 ++ [⟨2, bsL [61], ((l.length + 1 : Nat) : Int)⟩, ⟨1, bsL [85], ((l.length + 3 : Nat) : Int)⟩, ⟨2, bsL [59], ((l.length + 4 : Nat) : Int)⟩, ⟨0, bsL [], ((l.length + 5 : Nat) : Int)⟩])) := by
  have h1 : scanFrom l 4 = (shl 4 ts0, none) := by
    have := scanFrom_sh 4 l 0
    rw [hs] at this
    exact this
  have h2 := scanFrom_app l [61, 32, 85, 59] 4 _ h1
  rw [scanFrom_blank 10 (by decide), from_sign 61 _ _ (by decide) (by decide), scanFrom_blank 32 (by decide), from_name 85 _ _ (by decide) (by decide), from_sign 59 _ _ (by decide) (by decide), from_nil] at h2
  have h3 : scanFrom (inDecl l) 0 = (⟨1, bsL [120], 0⟩ :: ⟨2, bsL [58], 2⟩ :: (shl 4 ts0 ++ [⟨2, bsL [61], ((4 + l.length + 1 : Nat) : Int)⟩, ⟨1, bsL [85], ((4 + l.length + 1 + 1 + 1 : Nat) : Int)⟩, ⟨2, bsL [59], ((4 + l.length + 1 + 1 + 1 + 1 : Nat) : Int)⟩]), none) := by
    unfold inDecl
    rw [from_name 120 _ _ (by simp [pastT, List.isPrefixOf]) (by simp [oneP, nameT, letterI, digitI]), scanFrom_blank 32 (by decide), from_sign 58 _ _ (by simp [pastT, List.isPrefixOf]) (by simp [oneP, nameT, letterI, signsL, List.isPrefixOf]), scanFrom_blank 32 (by decide), h2]
    rfl
  rw [scanP_parts.2 ⟨by unfold inDecl; simp; omega, utf_decl hu, _, h3, rfl⟩]
  have hlen : (inDecl l).length = l.length + 9 := by unfold inDecl; simp
  have hE : endT (inDecl l) = ⟨0, bsL [], ((l.length + 5 : Nat) : Int) + 4⟩ := by
    simp only [endT, hlen]
    congr 1
  have hQ : (⟨2, bsL [61], ((4 + l.length + 1 : Nat) : Int)⟩ : Tok) = ⟨2, bsL [61], ((l.length + 1 : Nat) : Int) + 4⟩ := by
    congr 1
    omega
  have hU : (⟨1, bsL [85], ((4 + l.length + 1 + 1 + 1 : Nat) : Int)⟩ : Tok) = ⟨1, bsL [85], ((l.length + 3 : Nat) : Int) + 4⟩ := by
    congr 1
    omega
  have hS : (⟨2, bsL [59], ((4 + l.length + 1 + 1 + 1 + 1 : Nat) : Int)⟩ : Tok) = ⟨2, bsL [59], ((l.length + 4 : Nat) : Int) + 4⟩ := by
    congr 1
    omega
  rw [hE, hQ, hU, hS]
  simp [shl, Tok.sh]

end Go.Abs
