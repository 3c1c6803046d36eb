import Derived.Test.YtamkldohfhidiaaDoorPd
namespace Go.Abs

/-! ### Where the parts of what is read begin -/

mutual
/-- A tree's parts begin at tokens, none ahead of the whole. -/
def T.wb (L : List Tok) (lo : Int) : T → Prop
  | .mk d n ks _ a => lo ≤ a ∧ (∃ u ∈ L, u.at_ = a ∧ (d = 1 → u.text = n)) ∧ 1 ≤ d ∧ d ≤ 17 ∧ T.wbs L a ks
def T.wbs (L : List Tok) (lo : Int) : List T → Prop
  | [] => True
  | t :: ts => T.wb L lo t ∧ T.wbs L lo ts
end

theorem T.wb.mono {L : List Tok} {lo lo' : Int} {t : T} (h : T.wb L lo t) (hl : lo' ≤ lo) : T.wb L lo' t := by
  cases t
  simp only [T.wb] at h ⊢
  exact ⟨Int.le_trans hl h.1, h.2⟩
theorem T.wbs.mono {L : List Tok} {lo lo' : Int} : ∀ {ts : List T}, T.wbs L lo ts → lo' ≤ lo → T.wbs L lo' ts
  | [], _, _ => trivial
  | t :: ts, h, hl => by
    simp only [T.wbs] at h ⊢
    exact ⟨h.1.mono hl, T.wbs.mono h.2 hl⟩
theorem T.wbs_append {L : List Tok} {lo : Int} : ∀ {ts us : List T}, T.wbs L lo ts → T.wbs L lo us → T.wbs L lo (ts ++ us)
  | [], _, _, h => h
  | t :: ts, us, h, h' => by
    simp only [List.cons_append, T.wbs] at h ⊢
    exact ⟨h.1, T.wbs_append h.2 h'⟩
theorem T.wb.self {L : List Tok} {lo : Int} {t : T} (h : T.wb L lo t) : T.wb L t.at_ t ∧ lo ≤ t.at_ ∧ ∃ u ∈ L, u.at_ = t.at_ := by
  cases t
  simp only [T.wb, T.at_] at h ⊢
  obtain ⟨h1, ⟨u, h2, h3, h4⟩, h5⟩ := h
  exact ⟨⟨Int.le_refl _, ⟨u, h2, h3, h4⟩, h5⟩, h1, u, h2, h3⟩

abbrev Ge (lo : Int) (s : List Tok) : Prop := ∀ t ∈ s, lo ≤ t.at_
theorem Ge.suf {lo : Int} {s r : List Tok} (h : Ge lo s) (hr : r <:+ s) : Ge lo r := fun t ht => h t (hr.subset ht)
theorem Ge.tail {lo : Int} {t : Tok} {s : List Tok} (h : Ge lo (t :: s)) : Ge lo s := fun u hu => h u (List.mem_cons_of_mem _ hu)

variable {L : List Tok}

/-- The places go up. -/
abbrev Sd (L : List Tok) : Prop := L.Pairwise fun a b => a.at_ ≤ b.at_
theorem Sd.ge {t : Tok} {s : List Tok} (h : Sd L) (hs : (t :: s) <:+ L) : Ge t.at_ (t :: s) := by
  have h1 : Sd (t :: s) := h.sublist hs.sublist
  intro u hu
  rcases List.mem_cons.1 hu with rfl | hu
  · exact Int.le_refl _
  · exact (List.pairwise_cons.1 h1).1 u hu

theorem wantP_suf {x : ByteArray} {s r : List Tok} {u : Unit} (h : wantP x s = .ok u r) : r <:+ s := (wantP_sim (X := False) (E := []) (E' := []) x s u r h).1
theorem nameP_suf {s r : List Tok} {x : ByteArray} (h : nameP s = .ok x r) : r <:+ s := (nameP_sim (X := False) (E := []) (E' := []) s x r h).1
theorem namesP_suf {s r : List Tok} {x : List ByteArray} (h : namesP s = .ok x r) : r <:+ s := by
  obtain ⟨y, r1, h1, h2⟩ := PR.bind_ok.1 h
  cases h2
  exact (namesT_suf r1).trans (nameP_suf h1)
theorem nameP_tok {s r : List Tok} {x : ByteArray} (h : nameP s = .ok x r) : ∃ t, s = t :: r ∧ x = t.text := by
  cases s with
  | nil => cases h
  | cons t s =>
    simp only [nameP] at h
    split at h
    · cases h
      exact ⟨t, rfl, rfl⟩
    · cases h

def Gd (L : List Tok) (p : List Tok → PR T) : Prop := ∀ s t r lo, s <:+ L → Ge lo s → p s = .ok t r → r <:+ s ∧ t.wb L lo ∧ Ge t.at_ r

/-- A node at a token. -/
theorem wb_node {d : Int} {n : ByteArray} {ks : List T} {ns : List ByteArray} {t : Tok} {s : List Tok} {lo : Int} (hs : (t :: s) <:+ L) (hlo : Ge lo (t :: s)) (hd : 2 ≤ d) (hd' : d ≤ 17) (hk : T.wbs L t.at_ ks) : T.wb L lo (.mk d n ks ns t.at_) := by
  simp only [T.wb]
  exact ⟨hlo t (List.mem_cons_self ..), ⟨t, hs.subset (List.mem_cons_self ..), rfl, fun e => by omega⟩, by omega, hd', hk⟩
/-- A node where another one begins. -/
theorem wb_on {d : Int} {n : ByteArray} {x y : T} {ns : List ByteArray} {lo : Int} (hx : T.wb L lo x) (hy : T.wb L x.at_ y) (hd : 2 ≤ d) (hd' : d ≤ 17) : T.wb L lo (.mk d n [x, y] ns x.at_) := by
  obtain ⟨h1, h2, u, h3, h4⟩ := hx.self
  simp only [T.wb, T.wbs]
  exact ⟨h2, ⟨u, h3, h4, fun e => by omega⟩, by omega, hd', h1, hy, trivial⟩
theorem wb_name {t : Tok} {s : List Tok} {lo : Int} (hs : (t :: s) <:+ L) (hlo : Ge lo (t :: s)) : T.wb L lo (.mk 1 t.text [] [] t.at_) := by
  simp only [T.wb, T.wbs]
  exact ⟨hlo t (List.mem_cons_self ..), ⟨t, hs.subset (List.mem_cons_self ..), rfl, fun _ => rfl⟩, by omega, by omega, trivial⟩

section
variable (hL : Sd L) {pd pt : List Tok → PR T}
 include hL

theorem meetL_gd (hd : Gd L pd) : ∀ (n : Nat) (x : T) (s : List Tok) (y : T) (r : List Tok) (lo : Int), s <:+ L → x.wb L lo → Ge x.at_ s → meetL pd n x s = .ok y r → r <:+ s ∧ y.wb L lo ∧ Ge y.at_ r
  | 0, x, s, y, r, lo, hs, hx, hg, h => by have _ := hL; cases h; exact ⟨List.suffix_refl _, hx, hg⟩
  | n + 1, x, s, y, r, lo, hs, hx, hg, h => by
    simp only [meetL] at h
    split at h
    · rename_i hse
      obtain ⟨t, s2, rfl⟩ := seesB_cons hse
      obtain ⟨z, r1, h1, h2⟩ := PR.bind_ok.1 h
      have hs2 : s2 <:+ L := (List.suffix_cons _ _).trans hs
      obtain ⟨k1, k2, k3⟩ := hd _ _ _ x.at_ hs2 hg.tail h1
      obtain ⟨k4, k5⟩ := meetL_gd hd n _ _ _ _ lo (k1.trans hs2) (wb_on hx k2 (by omega) (by omega)) (hg.tail.suf k1) h2
      exact ⟨k4.trans (k1.trans (List.suffix_cons _ _)), k5⟩
    · cases h
      exact ⟨List.suffix_refl _, hx, hg⟩
theorem meetP_gd (hd : Gd L pd) : Gd L (meetP pd) := by
  intro s t r lo hs hg h
  obtain ⟨x, r1, h1, h2⟩ := PR.bind_ok.1 h
  obtain ⟨k1, k2, k3⟩ := hd _ _ _ lo hs hg h1
  obtain ⟨k4, k5⟩ := meetL_gd hL hd _ _ _ _ _ lo (k1.trans hs) k2 k3 h2
  exact ⟨k4.trans k1, k5⟩
theorem joinL_gd (hd : Gd L pd) : ∀ (n : Nat) (x : T) (s : List Tok) (y : T) (r : List Tok) (lo : Int), s <:+ L → x.wb L lo → Ge x.at_ s → joinL pd n x s = .ok y r → r <:+ s ∧ y.wb L lo ∧ Ge y.at_ r
  | 0, x, s, y, r, lo, hs, hx, hg, h => by cases h; exact ⟨List.suffix_refl _, hx, hg⟩
  | n + 1, x, s, y, r, lo, hs, hx, hg, h => by
    simp only [joinL] at h
    split at h
    · rename_i hse
      obtain ⟨t, s2, rfl⟩ := seesB_cons hse
      obtain ⟨z, r1, h1, h2⟩ := PR.bind_ok.1 h
      have hs2 : s2 <:+ L := (List.suffix_cons _ _).trans hs
      obtain ⟨k1, k2, k3⟩ := meetP_gd hL hd _ _ _ x.at_ hs2 hg.tail h1
      obtain ⟨k4, k5⟩ := joinL_gd hd n _ _ _ _ lo (k1.trans hs2) (wb_on hx k2 (by omega) (by omega)) (hg.tail.suf k1) h2
      exact ⟨k4.trans (k1.trans (List.suffix_cons _ _)), k5⟩
    · cases h
      exact ⟨List.suffix_refl _, hx, hg⟩
theorem joinP_gd (hd : Gd L pd) : Gd L (joinP pd) := by
  intro s t r lo hs hg h
  obtain ⟨x, r1, h1, h2⟩ := PR.bind_ok.1 h
  obtain ⟨k1, k2, k3⟩ := meetP_gd hL hd _ _ _ lo hs hg h1
  obtain ⟨k4, k5⟩ := joinL_gd hL hd _ _ _ _ _ lo (k1.trans hs) k2 k3 h2
  exact ⟨k4.trans k1, k5⟩
theorem dimBody_gd (hd : Gd L pd) : Gd L (dimBody pd) := by
  intro s t r lo hs hg h
  unfold dimBody at h
  split at h
  · obtain ⟨x, r1, h1, h2⟩ := PR.bind_ok.1 h
    obtain ⟨u, rfl, rfl⟩ := nameP_tok h1
    cases h2
    exact ⟨List.suffix_cons _ _, wb_name hs hg, (hL.ge hs).tail⟩
  · split at h
    · split at h
      · rename_i u s2 _
        cases h
        exact ⟨List.suffix_cons _ _, wb_node hs hg (by omega) (by omega) trivial, (hL.ge hs).tail⟩
      · cases h
    · split at h
      · rename_i hse
        obtain ⟨u, s2, rfl⟩ := seesB_cons hse
        obtain ⟨x, r1, h1, h2⟩ := PR.bind_ok.1 h
        cases h2
        obtain ⟨k1, k2, k3⟩ := hd _ _ _ u.at_ ((List.suffix_cons _ _).trans hs) (hL.ge hs).tail h1
        exact ⟨k1.trans (List.suffix_cons _ _), wb_node hs hg (by omega) (by omega) ⟨k2, trivial⟩, (hL.ge hs).tail.suf k1⟩
      · obtain ⟨_, r1, h1, h2⟩ := PR.bind_ok.1 h
        obtain ⟨x, r2, h3, h4⟩ := PR.bind_ok.1 h2
        obtain ⟨_, r3, h5, h6⟩ := PR.bind_ok.1 h4
        cases h6
        have q1 := wantP_suf h1
        obtain ⟨k1, k2, k3⟩ := joinP_gd hL hd _ _ _ lo (q1.trans hs) (hg.suf q1) h3
        have q2 := wantP_suf h5
        exact ⟨q2.trans (k1.trans q1), k2, k3.suf q2⟩
theorem dimP_gd : ∀ d, Gd L (dimP d)
  | 0 => fun _ _ _ _ _ _ h => (nomatch h)
  | d + 1 => dimBody_gd hL (dimP_gd d)

theorem faceL_gd : ∀ (n : Nat) (ks : List T) (s : List Tok) (y : List T) (r : List Tok) (lo : Int), s <:+ L → T.wbs L lo ks → Ge lo s → faceL n ks s = .ok y r → r <:+ s ∧ T.wbs L lo y
  | 0, ks, s, y, r, lo, hs, hx, hg, h => by have _ := hL; cases h; exact ⟨List.suffix_refl _, hx⟩
  | n + 1, ks, s, y, r, lo, hs, hx, hg, h => by
    simp only [faceL] at h
    obtain ⟨_, r1, h1, h2⟩ := PR.bind_ok.1 h
    obtain ⟨x, r2, h3, h4⟩ := PR.bind_ok.1 h2
    obtain ⟨_, r3, h5, h6⟩ := PR.bind_ok.1 h4
    have q1 := wantP_suf h1
    have q2 := (nameP_suf h3).trans q1
    have q3 := (wantP_suf h5).trans q2
    have hne : ∃ t s2, s = t :: s2 := by
      cases s with
      | nil => have := wantP_short _ _ _ _ h1; simp at this
      | cons t s2 => exact ⟨t, s2, rfl⟩
    obtain ⟨t, s2, rfl⟩ := hne
    split at h6
    · split at h6
      · rename_i u r4 _
        obtain ⟨_, r5, g1, g2⟩ := PR.bind_ok.1 h6
        have q4 := ((wantP_suf g1).trans (List.suffix_cons _ _)).trans q3
        have hk : T.wbs L lo (ks ++ [.mk 13 x [] [u.text] (atP (t :: s2))]) := T.wbs_append hx ⟨wb_node hs hg (by omega) (by omega) trivial, trivial⟩
        split at g2
        · obtain ⟨k1, k2⟩ := faceL_gd n _ _ _ _ lo (q4.trans hs) hk (hg.suf q4) g2
          exact ⟨k1.trans q4, k2⟩
        · cases g2
          exact ⟨q4, hk⟩
      · cases h6
    · cases h6
theorem faceP_gd : Gd L faceP := by
  intro s t r lo hs hg h
  unfold faceP at h
  split at h
  · rename_i hse
    obtain ⟨u, s2, rfl⟩ := seesB_cons hse
    cases h
    exact ⟨List.suffix_cons _ _, wb_node hs hg (by omega) (by omega) trivial, (hL.ge hs).tail⟩
  · obtain ⟨ks, r1, h1, h2⟩ := PR.bind_ok.1 h
    cases h2
    have hne : ∃ t s2, s = t :: s2 := by
      cases s with
      | nil => have := faceL_short _ _ _ _ _ h1; simp at this
      | cons t s2 => exact ⟨t, s2, rfl⟩
    obtain ⟨u, s2, rfl⟩ := hne
    obtain ⟨k1, k2⟩ := faceL_gd hL _ [] _ _ _ u.at_ hs trivial (hL.ge hs) h1
    exact ⟨k1, wb_node hs hg (by omega) (by omega) k2, (hL.ge hs).suf k1⟩
theorem elemP_gd (ht : Gd L pt) : Gd L (elemP pt) := by
  intro s t r lo hs hg h
  obtain ⟨x, r1, h1, h2⟩ := PR.bind_ok.1 h
  have hne : ∃ t s2, s = t :: s2 := by
    cases s with
    | nil => have := faceP_short _ _ _ h1; simp at this
    | cons t s2 => exact ⟨t, s2, rfl⟩
  obtain ⟨u, s2, rfl⟩ := hne
  obtain ⟨k1, k2, k3⟩ := faceP_gd hL _ _ _ u.at_ hs (hL.ge hs) h1
  split at h2
  · rename_i hse
    obtain ⟨v, s3, rfl⟩ := seesB_cons hse
    obtain ⟨y, r2, h4, h5⟩ := PR.bind_ok.1 h2
    cases h5
    have q := (List.suffix_cons v s3).trans k1
    obtain ⟨k4, k5, k6⟩ := ht _ _ _ u.at_ (q.trans hs) ((hL.ge hs).suf q) h4
    exact ⟨k4.trans q, wb_node hs hg (by omega) (by omega) ⟨k2, k5, trivial⟩, (hL.ge hs).suf (k4.trans q)⟩
  · cases h2
    exact ⟨k1, wb_node hs hg (by omega) (by omega) ⟨k2, trivial⟩, (hL.ge hs).suf k1⟩
theorem boxL_gd (ht : Gd L pt) : ∀ (n : Nat) (ks : List T) (s : List Tok) (y : List T) (r : List Tok) (lo : Int), s <:+ L → T.wbs L lo ks → Ge lo s → boxL pt n ks s = .ok y r → r <:+ s ∧ T.wbs L lo y
  | 0, ks, s, y, r, lo, hs, hx, hg, h => by cases h; exact ⟨List.suffix_refl _, hx⟩
  | n + 1, ks, s, y, r, lo, hs, hx, hg, h => by
    simp only [boxL] at h
    split at h
    · cases h
      exact ⟨List.tail_suffix _, hx⟩
    · obtain ⟨_, r1, h1, h2⟩ := PR.bind_ok.1 h
      obtain ⟨e, r2, h3, h4⟩ := PR.bind_ok.1 h2
      have q1 : r1 <:+ s := by
        split at h1
        · cases h1; exact List.suffix_refl _
        · exact wantP_suf h1
      obtain ⟨k1, k2, k3⟩ := elemP_gd hL ht _ _ _ lo (q1.trans hs) (hg.suf q1) h3
      have q2 := k1.trans q1
      obtain ⟨k4, k5⟩ := boxL_gd ht n _ _ _ _ lo (q2.trans hs) (T.wbs_append hx (us := [e]) ⟨k2, trivial⟩) (hg.suf q2) h4
      exact ⟨k4.trans q2, k5⟩
theorem boxP_gd (ht : Gd L pt) {s : List Tok} {t : T} {r : List Tok} {lo : Int} {u : Tok} {s2 : List Tok} (e : s = u :: s2) (hs : s <:+ L) (hg : Ge lo s) (h : boxP pt s = .ok t r) : r <:+ s ∧ t.wb L lo ∧ Ge t.at_ r := by
  subst e
  obtain ⟨ks, r1, h1, h2⟩ := PR.bind_ok.1 h
  cases h2
  obtain ⟨k1, k2⟩ := boxL_gd hL ht _ [] _ _ _ u.at_ ((List.suffix_cons _ _).trans hs) trivial (hL.ge hs).tail h1
  have q := k1.trans (List.suffix_cons u s2)
  exact ⟨q, wb_node hs hg (by omega) (by omega) k2, (hL.ge hs).suf q⟩
theorem atomP_gd (ht : Gd L pt) : Gd L (atomP pt) := by
  intro s t r lo hs hg h
  unfold atomP at h
  split at h
  · obtain ⟨x, r1, h1, h2⟩ := PR.bind_ok.1 h
    obtain ⟨u, rfl, rfl⟩ := nameP_tok h1
    cases h2
    exact ⟨List.suffix_cons _ _, wb_name hs hg, (hL.ge hs).tail⟩
  · split at h
    · rename_i hse
      obtain ⟨u, s2, e⟩ := seesB_cons hse
      exact boxP_gd hL ht e hs hg h
    · obtain ⟨_, r1, h1, h2⟩ := PR.bind_ok.1 h
      obtain ⟨x, r2, h3, h4⟩ := PR.bind_ok.1 h2
      obtain ⟨y, r3, h5, h6⟩ := PR.bind_ok.1 h4
      obtain ⟨_, r4, h7, h8⟩ := PR.bind_ok.1 h6
      cases h8
      have hne : ∃ t s2, s = t :: s2 := by
        cases s with
        | nil => have := wantP_short _ _ _ _ h1; simp at this
        | cons t s2 => exact ⟨t, s2, rfl⟩
      obtain ⟨u, s2, rfl⟩ := hne
      have q1 := wantP_suf h1
      have q4 := wantP_suf h7
      have hgu := hL.ge hs
      have h0 : lo ≤ u.at_ := hg u (List.mem_cons_self ..)
      obtain ⟨k1, k2, k3⟩ := ht _ _ _ u.at_ (q1.trans hs) (hgu.suf q1) h3
      have q2 := k1.trans q1
      unfold pairP at h5
      split at h5
      · rename_i hse
        obtain ⟨v, s3, rfl⟩ := seesB_cons hse
        obtain ⟨z, r5, g1, g2⟩ := PR.bind_ok.1 h5
        cases g2
        have q3 := (List.suffix_cons v s3).trans q2
        obtain ⟨k4, k5, k6⟩ := ht _ _ _ u.at_ (q3.trans hs) (hgu.suf q3) g1
        exact ⟨q4.trans (k4.trans q3), wb_node hs hg (by omega) (by omega) ⟨k2, k5, trivial⟩, hgu.suf (q4.trans (k4.trans q3))⟩
      · split at h5
        · rename_i hse
          obtain ⟨v, s3, rfl⟩ := seesB_cons hse
          obtain ⟨z, r5, g1, g2⟩ := PR.bind_ok.1 h5
          cases g2
          have q3 := (List.suffix_cons v s3).trans q2
          obtain ⟨k4, k5, k6⟩ := ht _ _ _ u.at_ (q3.trans hs) (hgu.suf q3) g1
          exact ⟨q4.trans (k4.trans q3), wb_node hs hg (by omega) (by omega) ⟨k2, k5, trivial⟩, hgu.suf (q4.trans (k4.trans q3))⟩
        · cases h5
          exact ⟨q4.trans q2, k2.mono h0, k3.suf q4⟩
 omit hL in
theorem arrowP_le (s : List Tok) : (arrowP s == 0) = false → 2 ≤ arrowP s ∧ arrowP s ≤ 17 := by
  unfold arrowP
  intro h
  split
  · omega
  · rename_i h1
    split
    · omega
    · rename_i h2
      rw [if_neg h1, if_neg h2] at h
      cases h
theorem afterL_gd (hd : Gd L pd) (ht : Gd L pt) : ∀ (n : Nat) (x : T) (s : List Tok) (y : T) (r : List Tok) (lo : Int), s <:+ L → x.wb L lo → Ge x.at_ s → afterL pd pt n x s = .ok y r → r <:+ s ∧ y.wb L lo ∧ Ge y.at_ r
  | 0, x, s, y, r, lo, hs, hx, hg, h => by cases h; exact ⟨List.suffix_refl _, hx, hg⟩
  | n + 1, x, s, y, r, lo, hs, hx, hg, h => by
    simp only [afterL] at h
    split at h
    · rename_i hse
      obtain ⟨t, s2, rfl⟩ := seesB_cons hse
      obtain ⟨z, r1, h1, h2⟩ := PR.bind_ok.1 h
      have hs2 : s2 <:+ L := (List.suffix_cons _ _).trans hs
      obtain ⟨k1, k2, k3⟩ := hd _ _ _ x.at_ hs2 hg.tail h1
      obtain ⟨k4, k5⟩ := afterL_gd hd ht n _ _ _ _ lo (k1.trans hs2) (wb_on hx k2 (by omega) (by omega)) (hg.tail.suf k1) h2
      exact ⟨k4.trans (k1.trans (List.suffix_cons _ _)), k5⟩
    · split at h
      · obtain ⟨z, r1, h1, h2⟩ := PR.bind_ok.1 h
        obtain ⟨k1, k2, k3⟩ := atomP_gd hL ht _ _ _ x.at_ hs hg h1
        obtain ⟨k4, k5⟩ := afterL_gd hd ht n _ _ _ _ lo (k1.trans hs) (wb_on hx k2 (by omega) (by omega)) (hg.suf k1) h2
        exact ⟨k4.trans k1, k5⟩
      · cases ha : arrowP s == 0 with
        | true =>
          rw [ha] at h
          cases h
          exact ⟨List.suffix_refl _, hx, hg⟩
        | false =>
          rw [ha] at h
          obtain ⟨z, r1, h1, h2⟩ := PR.bind_ok.1 h
          cases h2
          obtain ⟨a1, a2⟩ := arrowP_le s ha
          obtain ⟨k1, k2, k3⟩ := ht _ _ _ x.at_ ((List.tail_suffix _).trans hs) (hg.suf (List.tail_suffix _)) h1
          have q := k1.trans (List.tail_suffix s)
          exact ⟨q, wb_on hx k2 a1 a2, hg.suf q⟩
theorem lamP_gd (ht : Gd L pt) {d : Int} (hd : 2 ≤ d) (hd' : d ≤ 17) {g : List UInt8} : Gd L (lamP pt d g) := by
  intro s t r lo hs hg h
  obtain ⟨ns, r1, h1, h2⟩ := PR.bind_ok.1 h
  obtain ⟨_, r2, h3, h4⟩ := PR.bind_ok.1 h2
  obtain ⟨x, r3, h5, h6⟩ := PR.bind_ok.1 h4
  cases h6
  have q0 := List.tail_suffix s
  have q1 := (namesP_suf h1).trans q0
  have q2 := (wantP_suf h3).trans q1
  have hne : ∃ t s2, s = t :: s2 := by
    cases s with
    | nil => have := namesP_short _ _ _ h1; simp at this
    | cons t s2 => exact ⟨t, s2, rfl⟩
  obtain ⟨u, s2, rfl⟩ := hne
  obtain ⟨k1, k2, k3⟩ := ht _ _ _ u.at_ (q2.trans hs) ((hL.ge hs).suf q2) h5
  exact ⟨k1.trans q2, wb_node hs hg hd hd' ⟨k2, trivial⟩, (hL.ge hs).suf (k1.trans q2)⟩
theorem pisP_gd (hd : Gd L pd) (ht : Gd L pt) : Gd L (pisP pd pt) := by
  intro s t r lo hs hg h
  unfold pisP at h
  split at h
  · rename_i o x c r0
    obtain ⟨a, r1, h1, h2⟩ := PR.bind_ok.1 h
    obtain ⟨_, r2, h3, h4⟩ := PR.bind_ok.1 h2
    have q0 : r0 <:+ (o :: x :: c :: r0) := ⟨[o, x, c], rfl⟩
    have qx : (x :: c :: r0) <:+ L := (List.suffix_cons _ _).trans hs
    have hgo := hL.ge hs
    obtain ⟨k1, k2, k3⟩ := ht _ _ _ o.at_ (q0.trans hs) (hgo.suf q0) h1
    have q1 := k1.trans q0
    have q2 := (wantP_suf h3).trans q1
    cases ha : arrowP r2 == 0 with
    | true =>
      rw [ha] at h4
      obtain ⟨k4, k5⟩ := afterL_gd hL hd ht _ _ _ _ _ lo (q2.trans hs) (wb_node (d := 9) (n := bs []) (ks := [.mk 1 x.text [] [] x.at_, a]) (ns := []) hs hg (by omega) (by omega) ⟨wb_name qx hgo.tail, k2, trivial⟩) (hgo.suf q2) h4
      exact ⟨k4.trans q2, k5⟩
    | false =>
      rw [ha] at h4
      obtain ⟨b, r3, h5, h6⟩ := PR.bind_ok.1 h4
      cases h6
      obtain ⟨a1, a2⟩ := arrowP_le r2 ha
      have q3 := (List.tail_suffix r2).trans q2
      obtain ⟨k4, k5, k6⟩ := ht _ _ _ o.at_ (q3.trans hs) (hgo.suf q3) h5
      exact ⟨k4.trans q3, wb_node hs hg a1 a2 ⟨k2, k5, trivial⟩, hgo.suf (k4.trans q3)⟩
  · cases h
theorem termBody_gd (hd : Gd L pd) (ht : Gd L pt) : Gd L (termBody pd pt) := by
  intro s t r lo hs hg h
  unfold termBody at h
  split at h
  · exact lamP_gd hL ht (by omega) (by omega) _ _ _ _ hs hg h
  · split at h
    · exact lamP_gd hL ht (by omega) (by omega) _ _ _ _ hs hg h
    · split at h
      · exact pisP_gd hL hd ht _ _ _ _ hs hg h
      · obtain ⟨x, r1, h1, h2⟩ := PR.bind_ok.1 h
        obtain ⟨k1, k2, k3⟩ := atomP_gd hL ht _ _ _ lo hs hg h1
        obtain ⟨k4, k5⟩ := afterL_gd hL hd ht _ _ _ _ _ lo (k1.trans hs) k2 k3 h2
        exact ⟨k4.trans k1, k5⟩
theorem termP_gd : ∀ d, Gd L (termP d)
  | 0 => fun _ _ _ _ _ _ h => (nomatch h)
  | d + 1 => termBody_gd hL (dimP_gd hL d) (termP_gd d)
end
end Go.Abs
