import GoSem.Core.Value
namespace Go.Abs

/-! ### The scanner's tokens, and the parser, plainly -/

structure Tok where
  kind : Int
  text : ByteArray
  at_ : Int

inductive T where
  | mk (kind : Int) (name : ByteArray) (kids : List T) (names : List ByteArray) (at_ : Int)

def T.kind : T → Int | .mk k _ _ _ _ => k
def T.name : T → ByteArray | .mk _ n _ _ _ => n
def T.kids : T → List T | .mk _ _ ks _ _ => ks
def T.names : T → List ByteArray | .mk _ _ _ ns _ => ns
def T.at_ : T → Int | .mk _ _ _ _ a => a

/-- What a reader comes to: something and the tokens that are left, or a refusal at a place. -/
inductive PR (α : Type) where
  | ok (a : α) (s : List Tok)
  | err (at_ e : Int)

def PR.bind {α β : Type} (x : PR α) (f : α → List Tok → PR β) : PR β :=
  match x with
  | .ok a s => f a s
  | .err p e => .err p e

theorem PR.ok_bind {α β : Type} (a : α) (s : List Tok) (f : α → List Tok → PR β) : (PR.ok a s).bind f = f a s := rfl
theorem PR.err_bind {α β : Type} (p e : Int) (f : α → List Tok → PR β) : (PR.err p e : PR α).bind f = .err p e := rfl

/-- A text of plain signs. -/
abbrev bs (l : List UInt8) : ByteArray := ⟨l.toArray⟩

/-- Does a sign come? -/
def seesB (x : ByteArray) : List Tok → Bool
  | t :: _ => t.kind == 2 && (t.text.toList == x.toList)
  | [] => false

def atP : List Tok → Int
  | t :: _ => t.at_
  | [] => 0

def failP {α : Type} (e : Int) (s : List Tok) : PR α := .err (atP s) e

def isName : List Tok → Bool
  | t :: _ => t.kind == 1
  | [] => false

/-- A sign is taken. -/
def wantP (x : ByteArray) (s : List Tok) : PR Unit := if seesB x s then .ok () s.tail else failP 61 s

/-- A name is taken. -/
def nameP : List Tok → PR ByteArray
  | t :: s => if t.kind == 1 then .ok t.text s else .err t.at_ 61
  | [] => .err 0 61

/-- The names that stand one behind the other. -/
def namesT : List Tok → List ByteArray × List Tok
  | t :: s => if t.kind == 1 then (t.text :: (namesT s).1, (namesT s).2) else ([], t :: s)
  | [] => ([], [])

def namesP (s : List Tok) : PR (List ByteArray) := (nameP s).bind fun x r => .ok (x :: (namesT r).1) (namesT r).2

def arrowP (s : List Tok) : Int := if seesB (bs [45, 62]) s then 4 else if seesB (bs [42]) s then 5 else 0

/-- More rounds than there are tokens. -/
def rounds : Nat := 2000000

def meetL (pd : List Tok → PR T) : Nat → T → List Tok → PR T
  | 0, x, s => .ok x s
  | n + 1, x, s => if seesB (bs [47, 92]) s then (pd s.tail).bind fun y r => meetL pd n (.mk 15 (bs []) [x, y] [] x.at_) r else .ok x s
def meetP (pd : List Tok → PR T) (s : List Tok) : PR T := (pd s).bind fun x r => meetL pd rounds x r
def joinL (pd : List Tok → PR T) : Nat → T → List Tok → PR T
  | 0, x, s => .ok x s
  | n + 1, x, s => if seesB (bs [92, 47]) s then (meetP pd s.tail).bind fun y r => joinL pd n (.mk 14 (bs []) [x, y] [] x.at_) r else .ok x s
def joinP (pd : List Tok → PR T) (s : List Tok) : PR T := (meetP pd s).bind fun x r => joinL pd rounds x r

/-- A dimension, or a formula in brackets: pd: the same, a level deeper. -/
def dimBody (pd : List Tok → PR T) (s : List Tok) : PR T :=
  if isName s then (nameP s).bind fun x r => .ok (.mk 1 x [] [] (atP s)) r
  else if seesB (bs [48]) s || seesB (bs [49]) s then match s with
    | t :: r => .ok (.mk 17 t.text [] [] (atP s)) r
    | [] => .err 0 0
  else if seesB (bs [126]) s then (pd s.tail).bind fun x r => .ok (.mk 16 (bs []) [x] [] (atP s)) r
  else (wantP (bs [40]) s).bind fun _ r => (joinP pd r).bind fun x r => (wantP (bs [41]) r).bind fun _ r => .ok x r

/-- A dimension; d: how many levels may be below. -/
def dimP : Nat → List Tok → PR T
  | 0, s => failP 62 s
  | d + 1, s => dimBody (dimP d) s

/-! ### Terms -/

/-- A bracket with a name and its type. -/
def bindsP : List Tok → Bool
  | a :: b :: c :: _ => seesB (bs [40]) [a] && (b.kind == 1 && (c.text.toList == (bs [58]).toList))
  | _ => false

def faceL : Nat → List T → List Tok → PR (List T)
  | 0, ks, s => .ok ks s
  | n + 1, ks, s => (wantP (bs [40]) s).bind fun _ r => (nameP r).bind fun x r => (wantP (bs [61]) r).bind fun _ r =>
    if seesB (bs [48]) r || seesB (bs [49]) r then match r with
      | u :: r => (wantP (bs [41]) r).bind fun _ r => if seesB (bs [40]) r then faceL n (ks ++ [.mk 13 x [] [u.text] (atP s)]) r else .ok (ks ++ [.mk 13 x [] [u.text] (atP s)]) r
      | [] => .err 0 0
    else failP 61 r
def faceP (s : List Tok) : PR T := if seesB (bs [49]) s then .ok (.mk 12 (bs []) [] [] (atP s)) s.tail else (faceL rounds [] s).bind fun ks r => .ok (.mk 12 (bs []) ks [] (atP s)) r

/-- What stands in a box: a face, and perhaps a term. -/
def elemP (pt : List Tok → PR T) (s : List Tok) : PR T := (faceP s).bind fun e r =>
  if seesB (bs [45, 62]) r then (pt r.tail).bind fun y r => .ok (.mk 11 (bs []) [e, y] [] (atP s)) r else .ok (.mk 11 (bs []) [e] [] (atP s)) r
def boxL (pt : List Tok → PR T) : Nat → List T → List Tok → PR (List T)
  | 0, ks, s => .ok ks s
  | n + 1, ks, s => if seesB (bs [93]) s then .ok ks s.tail
    else (if ks.isEmpty then .ok () s else wantP (bs [44]) s).bind fun _ r => (elemP pt r).bind fun e r => boxL pt n (ks ++ [e]) r
def boxP (pt : List Tok → PR T) (s : List Tok) : PR T := (boxL pt rounds [] s.tail).bind fun ks r => .ok (.mk 10 (bs []) ks [] (atP s)) r

/-- What stands behind a bracket's first term. -/
def pairP (pt : List Tok → PR T) (p : Int) (x : T) (s : List Tok) : PR T :=
  if seesB (bs [44]) s then (pt s.tail).bind fun y r => .ok (.mk 8 (bs []) [x, y] [] p) r
  else if seesB (bs [58]) s then (pt s.tail).bind fun y r => .ok (.mk 9 (bs []) [x, y] [] p) r
  else .ok x s
def atomP (pt : List Tok → PR T) (s : List Tok) : PR T :=
  if isName s then (nameP s).bind fun x r => .ok (.mk 1 x [] [] (atP s)) r
  else if seesB (bs [91]) s then boxP pt s
  else (wantP (bs [40]) s).bind fun _ r => (pt r).bind fun x r => (pairP pt (atP s) x r).bind fun x r => (wantP (bs [41]) r).bind fun _ r => .ok x r

def afterL (pd pt : List Tok → PR T) : Nat → T → List Tok → PR T
  | 0, x, s => .ok x s
  | n + 1, x, s => if seesB (bs [64]) s then (pd s.tail).bind fun y r => afterL pd pt n (.mk 7 (bs []) [x, y] [] x.at_) r
    else if isName s || (seesB (bs [40]) s || seesB (bs [91]) s) then (atomP pt s).bind fun y r => afterL pd pt n (.mk 6 (bs []) [x, y] [] x.at_) r
    else if arrowP s == 0 then .ok x s else (pt s.tail).bind fun y r => .ok (.mk (arrowP s) (bs []) [x, y] [] x.at_) r

def lamP (pt : List Tok → PR T) (k : Int) (sign : List UInt8) (s : List Tok) : PR T :=
  (namesP s.tail).bind fun ns r => (wantP (bs sign) r).bind fun _ r => (pt r).bind fun x r => .ok (.mk k (bs []) [x] ns (atP s)) r
def pisP (pd pt : List Tok → PR T) : List Tok → PR T
  | o :: x :: _ :: r => (pt r).bind fun a r => (wantP (bs [41]) r).bind fun _ r =>
    if arrowP r == 0 then afterL pd pt rounds (.mk 9 (bs []) [.mk 1 x.text [] [] x.at_, a] [] o.at_) r
    else (pt r.tail).bind fun b r' => .ok (.mk (arrowP r) (bs []) [a, b] [x.text] o.at_) r'
  | _ => .err 0 0
def termBody (pd pt : List Tok → PR T) (s : List Tok) : PR T :=
  if seesB (bs [92]) s then lamP pt 2 [46] s
  else if seesB (bs [60]) s then lamP pt 3 [62] s
  else if bindsP s then pisP pd pt s
  else (atomP pt s).bind fun x r => afterL pd pt rounds x r

/-- A term; d: how many levels may be below. -/
def termP : Nat → List Tok → PR T
  | 0, s => failP 62 s
  | d + 1, s => termBody (dimP d) (termP d) s

/-- A declaration. -/
def declP (s : List Tok) : PR T := (nameP s).bind fun x r => (wantP (bs [58]) r).bind fun _ r => (termP 200 r).bind fun a r => (wantP (bs [61]) r).bind fun _ r =>
  (termP 200 r).bind fun b r => (wantP (bs [59]) r).bind fun _ r => .ok (.mk 18 x [a, b] [] (atP s)) r

/-! ### What is read is shorter than what was there -/

theorem PR.bind_ok {α β : Type} {x : PR α} {f : α → List Tok → PR β} {b : β} {s : List Tok} : x.bind f = .ok b s ↔ ∃ a r, x = .ok a r ∧ f a r = .ok b s := by
  cases x with
  | ok a r => exact ⟨fun h => ⟨a, r, rfl, h⟩, fun ⟨_, _, h1, h2⟩ => by cases h1; exact h2⟩
  | err p e => exact ⟨fun h => (nomatch h), fun ⟨_, _, h1, _⟩ => (nomatch h1)⟩

def Short {α : Type} (p : List Tok → PR α) : Prop := ∀ s x r, p s = .ok x r → r.length < s.length

theorem seesB_cons {x : ByteArray} {s : List Tok} (h : seesB x s = true) : ∃ t r, s = t :: r := by
  cases s with
  | nil => cases h
  | cons t r => exact ⟨t, r, rfl⟩
theorem wantP_short (x : ByteArray) : Short (wantP x) := by
  intro s y r h
  unfold wantP at h
  split at h
  · rename_i hs
    obtain ⟨t, s2, rfl⟩ := seesB_cons hs
    cases h
    simp
  · cases h
theorem nameP_short : Short nameP := by
  intro s y r h
  cases s with
  | nil => cases h
  | cons t s =>
    simp only [nameP] at h
    split at h
    · cases h
      simp
    · cases h
theorem namesT_short : ∀ s : List Tok, (namesT s).2.length ≤ s.length
  | [] => Nat.le_refl _
  | t :: s => by
    simp only [namesT]
    split
    · exact Nat.le_succ_of_le (namesT_short s)
    · exact Nat.le_refl _
theorem namesP_short : Short namesP := by
  intro s y r h
  obtain ⟨x, r1, h1, h2⟩ := PR.bind_ok.1 h
  cases h2
  exact Nat.lt_of_le_of_lt (namesT_short r1) (nameP_short _ _ _ h1)
theorem meetL_short {pd : List Tok → PR T} (hd : Short pd) : ∀ (n : Nat) (x : T) (s : List Tok) (y : T) (r : List Tok), meetL pd n x s = .ok y r → r.length ≤ s.length
  | 0, x, s, y, r, h => by cases h; exact Nat.le_refl _
  | n + 1, x, s, y, r, h => by
    simp only [meetL] at h
    split at h
    · rename_i hs
      obtain ⟨t, s2, rfl⟩ := seesB_cons hs
      obtain ⟨z, r1, h1, h2⟩ := PR.bind_ok.1 h
      have h3 := hd _ _ _ h1
      have h4 := meetL_short hd n _ _ _ _ h2
      simp only [List.tail_cons, List.length_cons] at h3 ⊢
      omega
    · cases h
      exact Nat.le_refl _
theorem meetP_short {pd : List Tok → PR T} (hd : Short pd) : Short (meetP pd) := by
  intro s y r h
  obtain ⟨x, r1, h1, h2⟩ := PR.bind_ok.1 h
  exact Nat.lt_of_le_of_lt (meetL_short hd _ _ _ _ _ h2) (hd _ _ _ h1)
theorem joinL_short {pd : List Tok → PR T} (hd : Short pd) : ∀ (n : Nat) (x : T) (s : List Tok) (y : T) (r : List Tok), joinL pd n x s = .ok y r → r.length ≤ s.length
  | 0, x, s, y, r, h => by cases h; exact Nat.le_refl _
  | n + 1, x, s, y, r, h => by
    simp only [joinL] at h
    split at h
    · rename_i hs
      obtain ⟨t, s2, rfl⟩ := seesB_cons hs
      obtain ⟨z, r1, h1, h2⟩ := PR.bind_ok.1 h
      have h3 := meetP_short hd _ _ _ h1
      have h4 := joinL_short hd n _ _ _ _ h2
      simp only [List.tail_cons, List.length_cons] at h3 ⊢
      omega
    · cases h
      exact Nat.le_refl _
theorem joinP_short {pd : List Tok → PR T} (hd : Short pd) : Short (joinP pd) := by
  intro s y r h
  obtain ⟨x, r1, h1, h2⟩ := PR.bind_ok.1 h
  exact Nat.lt_of_le_of_lt (joinL_short hd _ _ _ _ _ h2) (meetP_short hd _ _ _ h1)
theorem dimBody_short {pd : List Tok → PR T} (hd : Short pd) : Short (dimBody pd) := by
  intro s y r h
  unfold dimBody at h
  split at h
  · obtain ⟨x, r1, h1, h2⟩ := PR.bind_ok.1 h
    cases h2
    exact nameP_short _ _ _ h1
  · split at h
    · split at h
      · cases h
        simp
      · cases h
    · split at h
      · rename_i hs
        obtain ⟨t, s2, rfl⟩ := seesB_cons hs
        obtain ⟨z, r1, h1, h2⟩ := PR.bind_ok.1 h
        cases h2
        have h3 := hd _ _ _ h1
        simp only [List.tail_cons, List.length_cons] at h3 ⊢
        omega
      · obtain ⟨x, r1, h1, h2⟩ := PR.bind_ok.1 h
        obtain ⟨x2, r2, h3, h4⟩ := PR.bind_ok.1 h2
        obtain ⟨x3, r3, h5, h6⟩ := PR.bind_ok.1 h4
        cases h6
        have h7 := wantP_short _ _ _ _ h1
        have h8 := joinP_short hd _ _ _ h3
        have h9 := wantP_short _ _ _ _ h5
        omega
theorem dimP_short : ∀ d : Nat, Short (dimP d)
  | 0 => fun _ _ _ h => (nomatch h)
  | d + 1 => dimBody_short (dimP_short d)
theorem faceL_short : ∀ (n : Nat) (ks : List T) (s : List Tok) (y : List T) (r : List Tok), faceL (n + 1) ks s = .ok y r → r.length < s.length
  | n, ks, s, y, r, h => by
    simp only [faceL] at h
    obtain ⟨x, r1, h1, h2⟩ := PR.bind_ok.1 h
    obtain ⟨x2, r2, h3, h4⟩ := PR.bind_ok.1 h2
    obtain ⟨x3, r3, h5, h6⟩ := PR.bind_ok.1 h4
    have h7 := wantP_short _ _ _ _ h1
    have h8 := nameP_short _ _ _ h3
    have h9 := wantP_short _ _ _ _ h5
    split at h6
    · split at h6
      · obtain ⟨x4, r4, g1, g2⟩ := PR.bind_ok.1 h6
        have g3 := wantP_short _ _ _ _ g1
        simp only [List.length_cons] at h9
        split at g2
        · cases n with
          | zero =>
            cases g2
            omega
          | succ n =>
            have := faceL_short n _ _ _ _ g2
            omega
        · cases g2
          omega
      · cases h6
    · cases h6
theorem faceP_short : Short faceP := by
  intro s y r h
  unfold faceP at h
  split at h
  · rename_i hs
    obtain ⟨t, s2, rfl⟩ := seesB_cons hs
    cases h
    simp
  · obtain ⟨x, r1, h1, h2⟩ := PR.bind_ok.1 h
    cases h2
    exact faceL_short _ _ _ _ _ h1
theorem elemP_short {pt : List Tok → PR T} (ht : Short pt) : Short (elemP pt) := by
  intro s y r h
  obtain ⟨x, r1, h1, h2⟩ := PR.bind_ok.1 h
  have h3 := faceP_short _ _ _ h1
  split at h2
  · rename_i hs
    obtain ⟨t, s2, rfl⟩ := seesB_cons hs
    obtain ⟨z, r2, h4, h5⟩ := PR.bind_ok.1 h2
    cases h5
    have h6 := ht _ _ _ h4
    simp only [List.tail_cons, List.length_cons] at h6 h3
    omega
  · cases h2
    exact h3
theorem boxL_short {pt : List Tok → PR T} (ht : Short pt) : ∀ (n : Nat) (ks : List T) (s : List Tok) (y : List T) (r : List Tok), boxL pt n ks s = .ok y r → r.length ≤ s.length
  | 0, ks, s, y, r, h => by cases h; exact Nat.le_refl _
  | n + 1, ks, s, y, r, h => by
    simp only [boxL] at h
    split at h
    · cases h
      simp
    · obtain ⟨x, r1, h1, h2⟩ := PR.bind_ok.1 h
      obtain ⟨z, r2, h3, h4⟩ := PR.bind_ok.1 h2
      have h5 := elemP_short ht _ _ _ h3
      have h6 := boxL_short ht n _ _ _ _ h4
      have h7 : r1.length ≤ s.length := by
        split at h1
        · cases h1
          exact Nat.le_refl _
        · exact Nat.le_of_lt (wantP_short _ _ _ _ h1)
      omega
theorem pairP_short {pt : List Tok → PR T} (ht : Short pt) {p : Int} {x : T} {s : List Tok} {y : T} {r : List Tok} (h : pairP pt p x s = .ok y r) : r.length ≤ s.length := by
  unfold pairP at h
  split at h
  · obtain ⟨z, r2, h4, h5⟩ := PR.bind_ok.1 h
    cases h5
    have h6 := ht _ _ _ h4
    simp only [List.length_tail] at h6
    omega
  · split at h
    · obtain ⟨z, r2, h4, h5⟩ := PR.bind_ok.1 h
      cases h5
      have h6 := ht _ _ _ h4
      simp only [List.length_tail] at h6
      omega
    · cases h
      exact Nat.le_refl _
theorem atomP_short {pt : List Tok → PR T} (ht : Short pt) : Short (atomP pt) := by
  intro s y r h
  unfold atomP at h
  split at h
  · obtain ⟨x, r1, h1, h2⟩ := PR.bind_ok.1 h
    cases h2
    exact nameP_short _ _ _ h1
  · split at h
    · rename_i hs
      obtain ⟨t, s2, rfl⟩ := seesB_cons hs
      obtain ⟨x, r1, h1, h2⟩ := PR.bind_ok.1 h
      cases h2
      have := boxL_short ht _ _ _ _ _ h1
      simp only [List.tail_cons, List.length_cons] at this ⊢
      omega
    · obtain ⟨x, r1, h1, h2⟩ := PR.bind_ok.1 h
      obtain ⟨x2, r2, h3, h4⟩ := PR.bind_ok.1 h2
      obtain ⟨x3, r3, h5, h6⟩ := PR.bind_ok.1 h4
      obtain ⟨x4, r4, h7, h8⟩ := PR.bind_ok.1 h6
      cases h8
      have g1 := wantP_short _ _ _ _ h1
      have g2 := ht _ _ _ h3
      have g3 := pairP_short ht h5
      have g4 := wantP_short _ _ _ _ h7
      omega
theorem afterL_short {pd pt : List Tok → PR T} (hd : Short pd) (ht : Short pt) : ∀ (n : Nat) (x : T) (s : List Tok) (y : T) (r : List Tok), afterL pd pt n x s = .ok y r → r.length ≤ s.length
  | 0, x, s, y, r, h => by cases h; exact Nat.le_refl _
  | n + 1, x, s, y, r, h => by
    simp only [afterL] at h
    split at h
    · obtain ⟨z, r1, h1, h2⟩ := PR.bind_ok.1 h
      have h3 := hd _ _ _ h1
      have h4 := afterL_short hd ht n _ _ _ _ h2
      simp only [List.length_tail] at h3
      omega
    · split at h
      · obtain ⟨z, r1, h1, h2⟩ := PR.bind_ok.1 h
        have h3 := atomP_short ht _ _ _ h1
        have h4 := afterL_short hd ht n _ _ _ _ h2
        omega
      · split at h
        · cases h
          exact Nat.le_refl _
        · obtain ⟨z, r1, h1, h2⟩ := PR.bind_ok.1 h
          cases h2
          have h3 := ht _ _ _ h1
          simp only [List.length_tail] at h3
          omega
theorem lamP_short {pt : List Tok → PR T} (ht : Short pt) {k : Int} {g : List UInt8} : Short (lamP pt k g) := by
  intro s y r h
  obtain ⟨x, r1, h1, h2⟩ := PR.bind_ok.1 h
  obtain ⟨x2, r2, h3, h4⟩ := PR.bind_ok.1 h2
  obtain ⟨x3, r3, h5, h6⟩ := PR.bind_ok.1 h4
  cases h6
  have g1 := namesP_short _ _ _ h1
  have g2 := wantP_short _ _ _ _ h3
  have g3 := ht _ _ _ h5
  simp only [List.length_tail] at g1
  omega
theorem pisP_short {pd pt : List Tok → PR T} (hd : Short pd) (ht : Short pt) : Short (pisP pd pt) := by
  intro s y r h
  unfold pisP at h
  split at h
  · obtain ⟨x, r1, h1, h2⟩ := PR.bind_ok.1 h
    obtain ⟨x2, r2, h3, h4⟩ := PR.bind_ok.1 h2
    have g1 := ht _ _ _ h1
    have g2 := wantP_short _ _ _ _ h3
    simp only [List.length_cons]
    split at h4
    · have := afterL_short hd ht _ _ _ _ _ h4
      omega
    · obtain ⟨x3, r3, h5, h6⟩ := PR.bind_ok.1 h4
      cases h6
      have g3 := ht _ _ _ h5
      simp only [List.length_tail] at g3
      omega
  · cases h
theorem termBody_short {pd pt : List Tok → PR T} (hd : Short pd) (ht : Short pt) : Short (termBody pd pt) := by
  intro s y r h
  unfold termBody at h
  split at h
  · exact lamP_short ht _ _ _ h
  · split at h
    · exact lamP_short ht _ _ _ h
    · split at h
      · exact pisP_short hd ht _ _ _ h
      · obtain ⟨x, r1, h1, h2⟩ := PR.bind_ok.1 h
        exact Nat.lt_of_le_of_lt (afterL_short hd ht _ _ _ _ _ h2) (atomP_short ht _ _ _ h1)
theorem termP_short : ∀ d : Nat, Short (termP d)
  | 0 => fun _ _ _ h => (nomatch h)
  | d + 1 => termBody_short (dimP_short d) (termP_short d)
theorem declP_short : Short declP := by
  intro s y r h
  obtain ⟨x, r1, h1, h2⟩ := PR.bind_ok.1 h
  obtain ⟨x2, r2, h3, h4⟩ := PR.bind_ok.1 h2
  obtain ⟨x3, r3, h5, h6⟩ := PR.bind_ok.1 h4
  obtain ⟨x4, r4, h7, h8⟩ := PR.bind_ok.1 h6
  obtain ⟨x5, r5, h9, h10⟩ := PR.bind_ok.1 h8
  obtain ⟨x6, r6, h11, h12⟩ := PR.bind_ok.1 h10
  cases h12
  have g1 := nameP_short _ _ _ h1
  have g2 := wantP_short _ _ _ _ h3
  have g3 := termP_short _ _ _ _ h5
  have g4 := wantP_short _ _ _ _ h7
  have g5 := termP_short _ _ _ _ h9
  have g6 := wantP_short _ _ _ _ h11
  omega

end Go.Abs
