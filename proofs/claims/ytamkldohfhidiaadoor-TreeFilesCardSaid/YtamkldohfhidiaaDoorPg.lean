import Derived.Test.YtamkldohfhidiaaDoorPf
namespace Go.Abs

/-! ### What is read is not great -/

mutual
/-- Nodes and names. -/
def T.sz : T → Nat
  | .mk _ _ ks ns _ => 1 + ns.length + T.szs ks
def T.szs : List T → Nat
  | [] => 0
  | t :: ts => T.sz t + T.szs ts
end
theorem T.szs_append : ∀ a b : List T, T.szs (a ++ b) = T.szs a + T.szs b
  | [], b => by simp only [T.szs, List.nil_append, Nat.zero_add]
  | t :: ts, b => by simp only [List.cons_append, T.szs, T.szs_append ts b]; omega
theorem T.sz_pos (t : T) : 1 ≤ t.sz := by
  cases t
  simp only [T.sz]
  omega
theorem T.szs_len : ∀ ts : List T, ts.length ≤ T.szs ts
  | [] => Nat.le_refl _
  | t :: ts => by
    have := T.szs_len ts
    have := T.sz_pos t
    simp only [List.length_cons, T.szs]
    omega
theorem T.szs_mem : ∀ {ts : List T} {x : T}, x ∈ ts → x.sz ≤ T.szs ts
  | [], _, h => by cases h
  | t :: ts, x, h => by
    simp only [T.szs]
    rcases List.mem_cons.1 h with rfl | h
    · omega
    · have := T.szs_mem h
      omega

def Sz (p : List Tok → PR T) : Prop := ∀ s t r, p s = .ok t r → t.sz + 2 + 3 * r.length ≤ 3 * s.length

section
variable {pd pt : List Tok → PR T}
theorem meetL_sz (hd : Sz pd) : ∀ (n : Nat) (x : T) (s : List Tok) (y : T) (r : List Tok), meetL pd n x s = .ok y r → y.sz + 3 * r.length ≤ x.sz + 3 * s.length
  | 0, x, s, y, r, h => by cases h; exact Nat.le_refl _
  | n + 1, x, s, y, r, h => by
    simp only [meetL] at h
    split at h
    · rename_i hs
      obtain ⟨t, s2, rfl⟩ := seesB_cons hs
      obtain ⟨z, r1, h1, h2⟩ := PR.bind_ok.1 h
      have h3 := hd _ _ _ h1
      have h4 := meetL_sz hd n _ _ _ _ h2
      simp only [List.tail_cons, List.length_cons, T.sz, T.szs, List.length_nil] at h3 h4 ⊢
      omega
    · cases h
      exact Nat.le_refl _
theorem meetP_sz (hd : Sz pd) : Sz (meetP pd) := by
  intro s y r h
  obtain ⟨x, r1, h1, h2⟩ := PR.bind_ok.1 h
  have h3 := hd _ _ _ h1
  have h4 := meetL_sz hd _ _ _ _ _ h2
  omega
theorem joinL_sz (hd : Sz pd) : ∀ (n : Nat) (x : T) (s : List Tok) (y : T) (r : List Tok), joinL pd n x s = .ok y r → y.sz + 3 * r.length ≤ x.sz + 3 * s.length
  | 0, x, s, y, r, h => by cases h; exact Nat.le_refl _
  | n + 1, x, s, y, r, h => by
    simp only [joinL] at h
    split at h
    · rename_i hs
      obtain ⟨t, s2, rfl⟩ := seesB_cons hs
      obtain ⟨z, r1, h1, h2⟩ := PR.bind_ok.1 h
      have h3 := meetP_sz hd _ _ _ h1
      have h4 := joinL_sz hd n _ _ _ _ h2
      simp only [List.tail_cons, List.length_cons, T.sz, T.szs, List.length_nil] at h3 h4 ⊢
      omega
    · cases h
      exact Nat.le_refl _
theorem joinP_sz (hd : Sz pd) : Sz (joinP pd) := by
  intro s y r h
  obtain ⟨x, r1, h1, h2⟩ := PR.bind_ok.1 h
  have h3 := meetP_sz hd _ _ _ h1
  have h4 := joinL_sz hd _ _ _ _ _ h2
  omega
theorem dimBody_sz (hd : Sz pd) : Sz (dimBody pd) := by
  intro s y r h
  unfold dimBody at h
  split at h
  · obtain ⟨x, r1, h1, h2⟩ := PR.bind_ok.1 h
    cases h2
    have := nameP_short _ _ _ h1
    simp only [T.sz, T.szs, List.length_nil]
    omega
  · split at h
    · split at h
      · cases h
        simp only [T.sz, T.szs, List.length_nil, List.length_cons]
        omega
      · cases h
    · split at h
      · rename_i hs
        obtain ⟨t, s2, rfl⟩ := seesB_cons hs
        obtain ⟨z, r1, h1, h2⟩ := PR.bind_ok.1 h
        cases h2
        have h3 := hd _ _ _ h1
        simp only [List.tail_cons, List.length_cons, T.sz, T.szs, List.length_nil] at h3 ⊢
        omega
      · obtain ⟨x, r1, h1, h2⟩ := PR.bind_ok.1 h
        obtain ⟨x2, r2, h3, h4⟩ := PR.bind_ok.1 h2
        obtain ⟨x3, r3, h5, h6⟩ := PR.bind_ok.1 h4
        cases h6
        have h7 := wantP_short _ _ _ _ h1
        have h8 := joinP_sz hd _ _ _ h3
        have h9 := wantP_short _ _ _ _ h5
        omega
theorem dimP_sz : ∀ d : Nat, Sz (dimP d)
  | 0 => fun _ _ _ h => (nomatch h)
  | d + 1 => dimBody_sz (dimP_sz d)
theorem faceL_sz : ∀ (n : Nat) (ks : List T) (s : List Tok) (y : List T) (r : List Tok), faceL (n + 1) ks s = .ok y r → T.szs y + 3 + 3 * r.length ≤ T.szs ks + 3 * s.length
  | n, ks, s, y, r, h => by
    simp only [faceL] at h
    obtain ⟨x, r1, h1, h2⟩ := PR.bind_ok.1 h
    obtain ⟨x2, r2, h3, h4⟩ := PR.bind_ok.1 h2
    obtain ⟨x3, r3, h5, h6⟩ := PR.bind_ok.1 h4
    have h7 := wantP_short _ _ _ _ h1
    have h8 := nameP_short _ _ _ h3
    have h9 := wantP_short _ _ _ _ h5
    split at h6
    · split at h6
      · obtain ⟨x4, r4, g1, g2⟩ := PR.bind_ok.1 h6
        have g3 := wantP_short _ _ _ _ g1
        simp only [List.length_cons] at h9
        split at g2
        · cases n with
          | zero =>
            cases g2
            simp only [T.szs_append, T.szs, T.sz, List.length_cons, List.length_nil]
            omega
          | succ n =>
            have := faceL_sz n _ _ _ _ g2
            simp only [T.szs_append, T.szs, T.sz, List.length_cons, List.length_nil] at this
            omega
        · cases g2
          simp only [T.szs_append, T.szs, T.sz, List.length_cons, List.length_nil]
          omega
      · cases h6
    · cases h6
theorem faceP_sz : Sz faceP := by
  intro s y r h
  unfold faceP at h
  split at h
  · rename_i hs
    obtain ⟨t, s2, rfl⟩ := seesB_cons hs
    cases h
    simp only [T.szs, T.sz, List.length_cons, List.length_nil, List.tail_cons]
    omega
  · obtain ⟨x, r1, h1, h2⟩ := PR.bind_ok.1 h
    cases h2
    have := faceL_sz _ _ _ _ _ h1
    simp only [T.szs, T.sz, List.length_nil] at this ⊢
    omega
theorem elemP_sz (ht : Sz pt) : ∀ s t r, elemP pt s = .ok t r → t.sz + 1 + 3 * r.length ≤ 3 * s.length := by
  intro s y r h
  obtain ⟨x, r1, h1, h2⟩ := PR.bind_ok.1 h
  have h3 := faceP_sz _ _ _ h1
  split at h2
  · rename_i hs
    obtain ⟨t, s2, rfl⟩ := seesB_cons hs
    obtain ⟨z, r2, h4, h5⟩ := PR.bind_ok.1 h2
    cases h5
    have h6 := ht _ _ _ h4
    simp only [List.tail_cons, List.length_cons, T.szs, T.sz, List.length_nil] at h6 h3 ⊢
    omega
  · cases h2
    simp only [T.szs, T.sz, List.length_nil]
    omega
theorem boxL_sz (ht : Sz pt) : ∀ (n : Nat) (ks : List T) (s : List Tok) (y : List T) (r : List Tok), boxL pt n ks s = .ok y r → T.szs y + 3 * r.length ≤ T.szs ks + 3 * s.length
  | 0, ks, s, y, r, h => by cases h; exact Nat.le_refl _
  | n + 1, ks, s, y, r, h => by
    simp only [boxL] at h
    split at h
    · cases h
      simp
      omega
    · obtain ⟨x, r1, h1, h2⟩ := PR.bind_ok.1 h
      obtain ⟨z, r2, h3, h4⟩ := PR.bind_ok.1 h2
      have h5 := elemP_sz ht _ _ _ h3
      have h6 := boxL_sz ht n _ _ _ _ h4
      have h7 : r1.length ≤ s.length := by
        split at h1
        · cases h1
          exact Nat.le_refl _
        · exact Nat.le_of_lt (wantP_short _ _ _ _ h1)
      simp only [T.szs_append, T.szs] at h6
      omega
theorem pairP_sz (ht : Sz pt) {p : Int} {x : T} {s : List Tok} {y : T} {r : List Tok} (h : pairP pt p x s = .ok y r) : y.sz + 3 * r.length ≤ x.sz + 3 * s.length := by
  unfold pairP at h
  split at h
  · rename_i hs
    obtain ⟨t, s2, rfl⟩ := seesB_cons hs
    obtain ⟨z, r2, h4, h5⟩ := PR.bind_ok.1 h
    cases h5
    have h6 := ht _ _ _ h4
    simp only [List.length_cons, List.tail_cons, T.szs, T.sz, List.length_nil] at h6 ⊢
    omega
  · split at h
    · rename_i hs
      obtain ⟨t, s2, rfl⟩ := seesB_cons hs
      obtain ⟨z, r2, h4, h5⟩ := PR.bind_ok.1 h
      cases h5
      have h6 := ht _ _ _ h4
      simp only [List.length_cons, List.tail_cons, T.szs, T.sz, List.length_nil] at h6 ⊢
      omega
    · cases h
      exact Nat.le_refl _
theorem atomP_sz (ht : Sz pt) : Sz (atomP pt) := by
  intro s y r h
  unfold atomP at h
  split at h
  · obtain ⟨x, r1, h1, h2⟩ := PR.bind_ok.1 h
    cases h2
    have := nameP_short _ _ _ h1
    simp only [T.szs, T.sz, List.length_nil]
    omega
  · split at h
    · rename_i hs
      obtain ⟨t, s2, rfl⟩ := seesB_cons hs
      obtain ⟨x, r1, h1, h2⟩ := PR.bind_ok.1 h
      cases h2
      have := boxL_sz ht _ _ _ _ _ h1
      simp only [List.tail_cons, List.length_cons, T.szs, T.sz, List.length_nil] at this ⊢
      omega
    · obtain ⟨x, r1, h1, h2⟩ := PR.bind_ok.1 h
      obtain ⟨x2, r2, h3, h4⟩ := PR.bind_ok.1 h2
      obtain ⟨x3, r3, h5, h6⟩ := PR.bind_ok.1 h4
      obtain ⟨x4, r4, h7, h8⟩ := PR.bind_ok.1 h6
      cases h8
      have g1 := wantP_short _ _ _ _ h1
      have g2 := ht _ _ _ h3
      have g3 := pairP_sz ht h5
      have g4 := wantP_short _ _ _ _ h7
      omega
theorem afterL_sz (hd : Sz pd) (ht : Sz pt) : ∀ (n : Nat) (x : T) (s : List Tok) (y : T) (r : List Tok), afterL pd pt n x s = .ok y r → y.sz + 3 * r.length ≤ x.sz + 3 * s.length
  | 0, x, s, y, r, h => by cases h; exact Nat.le_refl _
  | n + 1, x, s, y, r, h => by
    simp only [afterL] at h
    split at h
    · rename_i hs
      obtain ⟨t, s2, rfl⟩ := seesB_cons hs
      obtain ⟨z, r1, h1, h2⟩ := PR.bind_ok.1 h
      have h3 := hd _ _ _ h1
      have h4 := afterL_sz hd ht n _ _ _ _ h2
      simp only [List.length_cons, List.tail_cons, T.szs, T.sz, List.length_nil] at h3 h4 ⊢
      omega
    · split at h
      · obtain ⟨z, r1, h1, h2⟩ := PR.bind_ok.1 h
        have h3 := atomP_sz ht _ _ _ h1
        have h4 := afterL_sz hd ht n _ _ _ _ h2
        simp only [T.szs, T.sz, List.length_nil] at h3 h4 ⊢
        omega
      · split at h
        · cases h
          exact Nat.le_refl _
        · obtain ⟨z, r1, h1, h2⟩ := PR.bind_ok.1 h
          cases h2
          have h3 := ht _ _ _ h1
          simp only [List.length_tail, T.szs, T.sz, List.length_nil] at h3 ⊢
          omega
theorem namesT_sz : ∀ s : List Tok, (namesT s).1.length + (namesT s).2.length ≤ s.length
  | [] => Nat.le_refl _
  | t :: s => by
    simp only [namesT]
    have := namesT_sz s
    split
    · simp only [List.length_cons]
      omega
    · simp
theorem namesP_sz {s r : List Tok} {l : List ByteArray} (h : namesP s = .ok l r) : l.length + r.length ≤ s.length := by
  obtain ⟨x, r1, h1, h2⟩ := PR.bind_ok.1 h
  cases h2
  have := nameP_short _ _ _ h1
  have := namesT_sz r1
  simp only [List.length_cons]
  omega
theorem lamP_sz (ht : Sz pt) {k : Int} {g : List UInt8} : Sz (lamP pt k g) := by
  intro s y r h
  obtain ⟨x, r1, h1, h2⟩ := PR.bind_ok.1 h
  obtain ⟨x2, r2, h3, h4⟩ := PR.bind_ok.1 h2
  obtain ⟨x3, r3, h5, h6⟩ := PR.bind_ok.1 h4
  cases h6
  have g1 := namesP_sz h1
  have g0 := namesP_short _ _ _ h1
  have g2 := wantP_short _ _ _ _ h3
  have g3 := ht _ _ _ h5
  simp only [List.length_tail, T.szs, T.sz] at g1 g0 ⊢
  omega
theorem pisP_sz (hd : Sz pd) (ht : Sz pt) : Sz (pisP pd pt) := by
  intro s y r h
  unfold pisP at h
  split at h
  · obtain ⟨x, r1, h1, h2⟩ := PR.bind_ok.1 h
    obtain ⟨x2, r2, h3, h4⟩ := PR.bind_ok.1 h2
    have g1 := ht _ _ _ h1
    have g2 := wantP_short _ _ _ _ h3
    simp only [List.length_cons]
    split at h4
    · have := afterL_sz hd ht _ _ _ _ _ h4
      simp only [T.szs, T.sz, List.length_nil] at this
      omega
    · obtain ⟨x3, r3, h5, h6⟩ := PR.bind_ok.1 h4
      cases h6
      have g3 := ht _ _ _ h5
      simp only [List.length_tail, T.szs, T.sz, List.length_cons, List.length_nil] at g3 ⊢
      omega
  · cases h
theorem termBody_sz (hd : Sz pd) (ht : Sz pt) : Sz (termBody pd pt) := by
  intro s y r h
  unfold termBody at h
  split at h
  · exact lamP_sz ht _ _ _ h
  · split at h
    · exact lamP_sz ht _ _ _ h
    · split at h
      · exact pisP_sz hd ht _ _ _ h
      · obtain ⟨x, r1, h1, h2⟩ := PR.bind_ok.1 h
        have h3 := atomP_sz ht _ _ _ h1
        have h4 := afterL_sz hd ht _ _ _ _ _ h2
        omega
theorem termP_sz : ∀ d : Nat, Sz (termP d)
  | 0 => fun _ _ _ h => (nomatch h)
  | d + 1 => termBody_sz (dimP_sz d) (termP_sz d)
theorem declP_sz : Sz declP := by
  intro s y r h
  obtain ⟨x, r1, h1, h2⟩ := PR.bind_ok.1 h
  obtain ⟨x2, r2, h3, h4⟩ := PR.bind_ok.1 h2
  obtain ⟨x3, r3, h5, h6⟩ := PR.bind_ok.1 h4
  obtain ⟨x4, r4, h7, h8⟩ := PR.bind_ok.1 h6
  obtain ⟨x5, r5, h9, h10⟩ := PR.bind_ok.1 h8
  obtain ⟨x6, r6, h11, h12⟩ := PR.bind_ok.1 h10
  cases h12
  have g1 := nameP_short _ _ _ h1
  have g2 := wantP_short _ _ _ _ h3
  have g3 := termP_sz _ _ _ _ h5
  have g4 := wantP_short _ _ _ _ h7
  have g5 := termP_sz _ _ _ _ h9
  have g6 := wantP_short _ _ _ _ h11
  simp only [T.szs, T.sz, List.length_nil]
  omega
end
end Go.Abs
