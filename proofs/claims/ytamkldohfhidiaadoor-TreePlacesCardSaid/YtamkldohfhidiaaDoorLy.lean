import Derived.Test.YtamkldohfhidiaaDoorLz
import Derived.Test.YtamkldohfhidiaaDoorW19
namespace Go.Abs

/-! ### Rows of declarations -/

theorem declsL_fuel : ∀ (n n' : Nat) (ks : List T) (s : List Tok), s.length < n → s.length < n' → declsL n ks s = declsL n' ks s
  | 0, _, _, _, h, _ => by omega
  | _ + 1, 0, _, _, _, h => by omega
  | n + 1, n' + 1, ks, s, h, h' => by
    cases s with
    | nil => rfl
    | cons t s =>
      simp only [declsL]
      split
      · rfl
      · cases e : declP (t :: s) with
        | err q g => rfl
        | ok d r =>
          rw [PR.ok_bind, PR.ok_bind]
          have := declP_short _ _ _ e
          exact declsL_fuel n n' _ _ (by omega) (by omega)
theorem declsL_acc : ∀ (n : Nat) (ks : List T) (s : List Tok), declsL n ks s = (declsL n [] s).bind fun ds r => .ok (ks ++ ds) r
  | 0, ks, s => by simp [declsL, PR.ok_bind]
  | n + 1, ks, s => by
    cases s with
    | nil => rfl
    | cons t s =>
      simp only [declsL]
      split
      · simp [PR.ok_bind]
      · cases e : declP (t :: s) with
        | err q g => rfl
        | ok d r =>
          rw [PR.ok_bind, PR.ok_bind]
          rw [declsL_acc n (ks ++ [d]) r, declsL_acc n ([] ++ [d]) r]
          cases declsL n [] r with
          | err q g => rfl
          | ok ds r2 => simp [PR.ok_bind]
theorem declsL_nt {X : List Tok} {k : Int} : ∀ (n : Nat) (ks : List T), Nt X k (T.shs k) (declsL n ks) (declsL n (T.shs k ks))
  | 0, ks => NtG.ok ks rfl
  | n + 1, ks => by
    intro s hs _
    obtain ⟨t, r, rfl⟩ := hs.ne
    simp only [declsL, List.map_cons, Tok.sh]
    by_cases hk : (t.kind == 0) = true
    · rw [if_pos hk, if_pos hk]
      exact ⟨rfl, hs, List.suffix_refl _⟩
    · rw [if_neg hk, if_neg hk]
      have := NtG.bind (g2 := T.shs k) (declP_nt (X := X) (k := k)) (f := fun d r => declsL n (ks ++ [d]) r) (f' := fun d r => declsL n (T.shs k ks ++ [d]) r) (fun d => by
        have h2 := declsL_nt (X := X) (k := k) n (ks ++ [d])
        simp only [T.shs_append, T.shs] at h2
        exact h2) (t :: r) hs trivial
      exact this
/-- What a row of declarations leaves begins with the end. -/
theorem declsL_end : ∀ (n : Nat) (ks ds : List T) (s r : List Tok), s.length < n → declsL n ks s = .ok ds r → ∃ e q, r = e :: q ∧ e.kind = 0
  | 0, _, _, _, _, h, _ => by omega
  | n + 1, ks, ds, s, r, h, hh => by
    cases s with
    | nil => cases hh
    | cons t s =>
      simp only [declsL] at hh
      split at hh
      · rename_i hk
        cases hh
        exact ⟨t, s, rfl, eq_of_beq hk⟩
      · obtain ⟨d, r1, h1, h2⟩ := PR.bind_ok.1 hh
        have := declP_short _ _ _ h1
        exact declsL_end n _ _ _ _ (by omega) h2
/-- What stands behind a row of declarations is read on. -/
theorem declsL_app {E E' : List Tok} (hE : EndTok E) : ∀ (m : Nat) (l : List Tok) (n n' : Nat) (ks ds : List T) (r : List Tok), l.length ≤ m → (∀ t ∈ l, t.kind ≠ 0) → (l ++ E).length < n → (l ++ E').length < n' → declsL n ks (l ++ E) = .ok ds r →
    r = E ∧ declsL n' ks (l ++ E') = declsL n' ds E' := by
  intro m
  induction m with
  | zero =>
    intro l n n' ks ds r hl _ hn hn' h
    have := List.eq_nil_of_length_eq_zero (Nat.le_zero.1 hl)
    subst this
    obtain ⟨e, Y, rfl, hk, _⟩ := hE
    obtain ⟨n, rfl⟩ : ∃ k, n = k + 1 := ⟨n - 1, by omega⟩
    simp only [List.nil_append, declsL, hk, beq_self_eq_true, if_true] at h
    cases h
    exact ⟨rfl, rfl⟩
  | succ m ih =>
    intro l n n' ks ds r hl hkk hn hn' h
    cases l with
    | nil => exact ih [] n n' ks ds r (Nat.zero_le _) (fun _ h => (nomatch h)) hn hn' h
    | cons t l =>
      have hk : ¬ (t.kind == 0) = true := by
        have := hkk t (List.mem_cons_self ..)
        simpa using this
      obtain ⟨n, rfl⟩ : ∃ k, n = k + 1 := ⟨n - 1, by omega⟩
      obtain ⟨n', rfl⟩ : ∃ k, n' = k + 1 := ⟨n' - 1, by omega⟩
      simp only [List.cons_append, declsL] at h
      rw [if_neg hk] at h
      obtain ⟨d, r1, h1, h2⟩ := PR.bind_ok.1 h
      have hlv := declP_nt (X := E) (k := 0) (t :: l ++ E) ⟨hE, t :: l, rfl⟩ trivial
      have h1' : declP (t :: l ++ E) = .ok d r1 := h1
      rw [h1'] at hlv
      obtain ⟨_, ⟨_, p, rfl⟩, hsf⟩ := hlv
      have hsh := declP_short _ _ _ h1'
      have hp : p <:+ t :: l := by
        obtain ⟨q, e1, e2⟩ := suf_split (l := t :: l) (E := E) hsf (by simp)
        have := List.append_cancel_right e1
        subst this
        exact e2
      have hpl : p.length ≤ m := by
        simp only [List.length_append, List.length_cons] at hsh hl
        omega
      obtain ⟨p2, e1, e2⟩ := (declP_sim (E := E) (E' := E') _ _ _ h1').2 (t :: l) rfl (by simp)
      have := List.append_cancel_right e1
      subst this
      have e2 : declP (t :: (l ++ E')) = .ok d (p ++ E') := e2.elim id (fun hh => hh.1.elim)
      have e3 : declsL (n' + 1) ks (t :: l ++ E') = declsL n' (ks ++ [d]) (p ++ E') := by
        simp only [List.cons_append, declsL]
        rw [if_neg hk, e2, PR.ok_bind]
      have hlen1 : (p ++ E).length < n := by
        simp only [List.length_append, List.length_cons] at hsh hn ⊢
        omega
      have hlen2 : (p ++ E').length < n' := by
        simp only [List.length_append, List.length_cons] at hsh hn' ⊢
        omega
      obtain ⟨h3, h4⟩ := ih p n n' (ks ++ [d]) ds r hpl (fun t ht => hkk t (hp.subset ht)) hlen1 hlen2 h2
      rw [e3]
      refine ⟨h3, h4.trans ?_⟩
      simp only [List.length_append] at hlen2
      exact declsL_fuel _ _ _ _ (by omega) (by omega)

/-! ### Trees that are alike -/

theorem eqb_self (x : ByteArray) : (x.toList == x.toList) = true := by simp
theorem strsP_self : ∀ l : List ByteArray, strsP l l = true
  | [] => rfl
  | a :: l => by simp only [strsP, eqb_self, strsP_self l, Bool.and_self]
mutual
theorem sameP_self (w : Bool) : ∀ t : T, sameP w t t = true
  | .mk k n ks ns p => by simp only [sameP, beq_self_eq_true, Bool.or_true, strsP_self, samesP_self w ks, Bool.and_self]
theorem samesP_self (w : Bool) : ∀ l : List T, samesP w l l = true
  | [] => by simp only [samesP]
  | t :: l => by simp only [samesP, sameP_self w t, samesP_self w l, Bool.and_self]
end
mutual
theorem sameP_sh (k : Int) : ∀ t : T, sameP false t (t.sh k) = true ∧ sameP false (t.sh k) t = true
  | .mk d n ks ns p => by
    obtain ⟨h1, h2⟩ := samesP_sh k ks
    simp only [T.sh, sameP, beq_self_eq_true, Bool.not_false, Bool.true_or, strsP_self, h1, h2, Bool.and_self, and_self]
theorem samesP_sh (k : Int) : ∀ l : List T, samesP false l (T.shs k l) = true ∧ samesP false (T.shs k l) l = true
  | [] => by simp only [T.shs, samesP, and_self]
  | t :: l => by
    obtain ⟨h1, h2⟩ := sameP_sh k t
    obtain ⟨h3, h4⟩ := samesP_sh k l
    simp only [T.shs, samesP, h1, h2, h3, h4, Bool.and_self, and_self]
end

/-! ### TreeFiles -/

theorem scan_files {l u : List UInt8} {ts0 : List Tok} (hl : l.length + 1 + u.length ≤ 65536) (hu : utfBad l 0 = none) (hs : scanFrom l 0 = (ts0, none)) :
    scanP (l ++ 10 :: u) = match scanP u with
      | .ok us => .ok (ts0 ++ shl ((l.length + 1 : Nat) : Int) us)
      | .bad p e => .bad (p + ((l.length + 1 : Nat) : Int)) e := by
  have hlen : (l ++ 10 :: u).length = l.length + 1 + u.length := by simp; omega
  have h1 := utfBad_app u _ l 0 (Nat.le_refl _)
  rw [hu] at h1
  simp only [Nat.zero_add] at h1
  rw [utfBad_ascii 10 (by decide), show l.length + 1 = 0 + (l.length + 1) from by omega, utfBad_sh (l.length + 1) _ _ _ (Nat.le_refl _)] at h1
  have h2 := scanFrom_app l u 0 ts0 hs
  rw [Nat.zero_add, scanFrom_blank 10 (by decide), show l.length + 1 = 0 + (l.length + 1) from by omega, scanFrom_sh] at h2
  cases hub : utfBad u 0 with
  | some p =>
    rw [hub] at h1
    rw [scanP_utf (by omega) h1, scanP_utf (by omega) hub]
    simp
  | none =>
    rw [hub] at h1
    cases hf : scanFrom u 0 with
    | mk us e =>
      rw [hf] at h2
      cases e with
      | some p =>
        rw [scanP_form (by omega) h1 h2, scanP_form (by omega) hub hf]
        simp
      | none =>
        have e1 : scanP u = .ok (us ++ [endT u]) := scanP_parts.2 ⟨by omega, hub, us, hf, rfl⟩
        have e2 := scanP_parts.2 ⟨show (l ++ 10 :: u).length ≤ 65536 by omega, h1, _, h2, rfl⟩
        rw [e1, e2]
        simp only [shl, List.map_append, List.append_assoc, List.map_cons, List.map_nil]
        have he : endT (l ++ 10 :: u) = (endT u).sh ((l.length + 1 : Nat) : Int) := by
          simp only [endT, Tok.sh, hlen]
          congr 1
          push_cast
          omega
        rw [he]

def Top.sh {α : Type} (g : α → α) (k : Int) : Top α → Top α
  | .ok x => .ok (g x)
  | .bad p e => .bad (p + k) e

theorem toks_kind {l : List UInt8} {ts0 : List Tok} {p : Option Nat} (hs : scanFrom l 0 = (ts0, p)) : ∀ t ∈ ts0, t.kind ≠ 0 := by
  intro t ht
  have := (scanFrom_toks l 0).1.kind t (by rw [hs]; exact ht)
  omega

/-- The declarations of two files. -/
theorem files_law {l u : List UInt8} {as' : List T} (hl : l.length + u.length < 65536) (h1 : readTop (declsL rounds []) l = .ok as') :
    readTop (declsL rounds []) (l ++ 10 :: u) = match readTop (declsL rounds []) u with
      | .ok bs' => .ok (as' ++ T.shs ((l.length + 1 : Nat) : Int) bs')
      | .bad p e => .bad (p + ((l.length + 1 : Nat) : Int)) e := by
  generalize hk : ((l.length + 1 : Nat) : Int) = k
  unfold readTop at h1
  cases hsl : scanP l with
  | bad p e =>
    rw [hsl] at h1
    cases h1
  | ok ts =>
    rw [hsl] at h1
    simp only at h1
    obtain ⟨hl1, hu1, ts0, hf1, rfl⟩ := scanP_parts.1 hsl
    have hsc := scan_files (u := u) (by omega) hu1 hf1
    rw [hk] at hsc
    have hlen1 : ts0.length ≤ 65536 := by
      obtain ⟨ts1, e1, e2, e3⟩ := scanP_ok hsl
      have := List.append_cancel_right e1
      subst this
      omega
    -- the first file
    cases hd : declsL rounds [] (ts0 ++ [endT l] ++ [endT l, endT l]) with
    | err q g =>
      rw [hd] at h1
      cases h1
    | ok ds r =>
      rw [hd] at h1
      have hds : ds = as' := by
        unfold restTop at h1
        split at h1
        · rename_i hh
          cases hh
        · rename_i hh
          cases hh
          split at h1
          · cases h1; rfl
          · cases h1
        · cases h1
      subst hds
      rw [List.append_assoc] at hd
      unfold readTop
      rw [hsc]
      cases hsu : scanP u with
      | bad p e => rfl
      | ok us =>
        simp only
        obtain ⟨us0, hus, hul1, hul2⟩ := scanP_ok hsu
        have hlen2 : us.length ≤ 65537 := by rw [hus]; simp; omega
        have hend : endT (l ++ 10 :: u) = (endT u).sh k := by
          simp only [endT, Tok.sh]
          congr 1
          rw [← hk]
          simp
          omega
        have happ := (declsL_app (E := [endT l, endT l, endT l]) (E' := shl k (us ++ [endT u, endT u])) (endT_end l _) _ ts0 rounds rounds [] ds r (Nat.le_refl _) (toks_kind hf1) (by unfold rounds; simp; omega) (by unfold rounds; simp; omega) hd).2
        have e1 : ts0 ++ shl k us ++ [endT (l ++ 10 :: u), endT (l ++ 10 :: u)] = ts0 ++ shl k (us ++ [endT u, endT u]) := by
          rw [hend]
          simp [shl]
        rw [e1, happ, declsL_acc]
        have hnt := declsL_nt (X := [endT u, endT u, endT u]) (k := k) rounds [] (us ++ [endT u, endT u]) (toks_lv hsu) trivial
        have e0 : T.shs k [] = [] := by simp only [T.shs]
        rw [e0] at hnt
        cases hd2 : declsL rounds [] (us ++ [endT u, endT u]) with
        | err q g =>
          rw [hd2] at hnt
          rw [hnt.1]
          rfl
        | ok bs' r2 =>
          rw [hd2] at hnt
          rw [hnt.1, PR.ok_bind]
          obtain ⟨t, r3, rfl⟩ := hnt.2.1.ne
          by_cases hkk : (t.kind == 0) = true
          · have q1 : restTop (PR.ok (ds ++ T.shs k bs') (t.sh k :: shl k r3)) = .ok (ds ++ T.shs k bs') := if_pos hkk
            have q2 : restTop (PR.ok bs' (t :: r3)) = .ok bs' := if_pos hkk
            rw [q2]
            exact q1
          · have q1 : restTop (PR.ok (ds ++ T.shs k bs') (t.sh k :: shl k r3)) = .bad (t.at_ + k) 61 := if_neg hkk
            have q2 : restTop (PR.ok bs' (t :: r3)) = .bad t.at_ 61 := if_neg hkk
            rw [q2]
            exact q1

/-! ### TreePlaces -/

theorem toks_sd {l : List UInt8} {ts0 : List Tok} {p : Option Nat} (hs : scanFrom l 0 = (ts0, p)) : (ts0 ++ [endT l]).Pairwise (fun x y => x.at_ < y.at_) ∧ ∀ t ∈ ts0 ++ [endT l], 0 ≤ t.at_ ∧ t.at_ ≤ l.length := by
  have h := (scanFrom_toks l 0).1
  rw [hs] at h
  refine ⟨List.pairwise_append.2 ⟨h.up, List.pairwise_singleton .., fun x hx y hy => ?_⟩, fun t ht => ?_⟩
  · have := h.lo x hx
    simp only [List.mem_singleton] at hy
    subst hy
    simp only [endT]
    omega
  · rcases List.mem_append.1 ht with ht | ht
    · have := h.lo t ht
      omega
    · simp only [List.mem_singleton] at ht
      subst ht
      simp only [endT]
      omega
theorem begins_of {L : List Tok} (hL : L.Pairwise fun x y => x.at_ < y.at_) {u : Tok} (hu : u ∈ L) : beginsP L u.at_ = some u.text := by
  unfold beginsP
  induction L with
  | nil => cases hu
  | cons t L ih =>
    obtain ⟨h1, h2⟩ := List.pairwise_cons.1 hL
    rw [List.find?_cons]
    rcases List.mem_cons.1 hu with rfl | hu
    · simp
    · have := h1 u hu
      have e : (t.at_ == u.at_) = false := by
        simp
        omega
      rw [e]
      exact ih h2 hu
mutual
theorem within_of {L : List Tok} (hL : L.Pairwise fun x y => x.at_ < y.at_) : ∀ (t : T) (lo : Int), t.wb L lo → withinP L t lo = true
  | .mk k n ks ns a, lo, h => by
    simp only [T.wb] at h
    obtain ⟨h1, ⟨u, h2, rfl, h3⟩, h4, h5, h6⟩ := h
    have e1 : decide (u.at_ < lo) = false := by simp; omega
    have e2 : decide (k < 1) = false := by simp; omega
    have e3 : decide (k > 17) = false := by simp; omega
    have e4 : ((k == 1) && !(u.text.toList == n.toList)) = false := by
      by_cases hk : k = 1
      · rw [h3 hk]
        simp
      · have : (k == 1) = false := by simpa using hk
        rw [this]
        rfl
    simp only [withinP, begins_of hL h2, e1, e2, e3, e4, withins_of hL ks u.at_ h6]
    rfl
theorem withins_of {L : List Tok} (hL : L.Pairwise fun x y => x.at_ < y.at_) : ∀ (ts : List T) (lo : Int), T.wbs L lo ts → withinsP L ts lo = true
  | [], _, _ => by simp only [withinsP]
  | t :: ts, lo, h => by
    simp only [T.wbs] at h
    simp only [withinsP, within_of hL t lo h.1, withins_of hL ts lo h.2, Bool.and_self]
end
mutual
theorem wb_sub {L L' : List Tok} (hs : ∀ t ∈ L, t ∈ L') : ∀ (t : T) (lo : Int), t.wb L lo → t.wb L' lo
  | .mk k n ks ns a, lo, h => by
    simp only [T.wb] at h ⊢
    obtain ⟨h1, ⟨u, h2, h3⟩, h4, h5, h6⟩ := h
    exact ⟨h1, ⟨u, hs u h2, h3⟩, h4, h5, wbs_sub hs ks a h6⟩
theorem wbs_sub {L L' : List Tok} (hs : ∀ t ∈ L, t ∈ L') : ∀ (ts : List T) (lo : Int), T.wbs L lo ts → T.wbs L' lo ts
  | [], _, h => h
  | t :: ts, lo, h => by
    simp only [T.wbs] at h ⊢
    exact ⟨wb_sub hs t lo h.1, wbs_sub hs ts lo h.2⟩
end

/-- Where a reading that is refused gives up. -/
theorem bad_place {α : Type} {pr : List Tok → PR α} {k : Int} {g : α → α} (hn : ∀ X, Nt X k g pr pr) {l : List UInt8} {p e : Int} (h : readTop pr l = .bad p e) : 0 ≤ p ∧ p ≤ l.length := by
  unfold readTop at h
  cases hs : scanP l with
  | bad q f =>
    rw [hs] at h
    cases h
    unfold scanP at hs
    split at hs
    · cases hs
      omega
    · split at hs
      · rename_i q hq
        cases hs
        have := utfBad_le _ _ _ _ (Nat.le_refl _) hq
        omega
      · split at hs
        · cases hs
        · rename_i ts q hw
          cases hs
          have := (scanFrom_toks l 0).2 q (by unfold scanFrom; rw [Nat.zero_add, hw])
          omega
  | ok ts =>
    rw [hs] at h
    simp only at h
    obtain ⟨hl1, hu1, ts0, hf1, rfl⟩ := scanP_parts.1 hs
    have hin : ∀ t ∈ ts0 ++ [endT l] ++ [endT l, endT l], 0 ≤ t.at_ ∧ t.at_ ≤ l.length := by
      intro t ht
      refine (toks_sd hf1).2 t ?_
      simp only [List.mem_append, List.mem_cons, List.not_mem_nil, or_false, or_self] at ht ⊢
      exact ht.elim id .inr
    have hlv := hn _ _ (toks_lv hs) trivial
    cases hp : pr (ts0 ++ [endT l] ++ [endT l, endT l]) with
    | err q f =>
      rw [hp] at hlv h
      cases h
      obtain ⟨_, t, ht, rfl⟩ := hlv
      exact hin t ht
    | ok x r =>
      rw [hp] at hlv h
      obtain ⟨t, r2, rfl⟩ := hlv.2.1.ne
      have ht : t ∈ ts0 ++ [endT l] ++ [endT l, endT l] := hlv.2.2.subset (List.mem_cons_self ..)
      simp only [restTop] at h
      split at h
      · cases h
      · cases h
        exact hin t ht

/-- What is left of a term that is all of a text. -/
theorem term_all {l : List UInt8} {a : T} (h : readTop (termP 200) l = .ok a) : l.length ≤ 65536 ∧ utfBad l 0 = none ∧ ∃ ts0, scanFrom l 0 = (ts0, none) ∧ ts0 ≠ [] ∧ scanP l = .ok (ts0 ++ [endT l]) ∧ termP 200 (ts0 ++ [endT l, endT l, endT l]) = .ok a [endT l, endT l, endT l] := by
  unfold readTop at h
  cases hs : scanP l with
  | bad q f =>
    rw [hs] at h
    cases h
  | ok ts =>
    rw [hs] at h
    simp only at h
    obtain ⟨hl1, hu1, ts0, hf1, rfl⟩ := scanP_parts.1 hs
    have hlv := termP_nt (k := 0) 200 _ (toks_lv hs) trivial
    cases hp : termP 200 (ts0 ++ [endT l] ++ [endT l, endT l]) with
    | err q f =>
      rw [hp] at h
      cases h
    | ok x r =>
      rw [hp] at hlv h
      obtain ⟨_, ⟨_, p, rfl⟩, hsf⟩ := hlv
      have hsh := termP_short _ _ _ _ hp
      rw [List.append_assoc] at hsf hp
      obtain ⟨q, e1, hpt⟩ := suf_split (l := ts0) (E := [endT l] ++ [endT l, endT l]) hsf (by simp)
      have e1' : p ++ [endT l, endT l, endT l] = q ++ [endT l, endT l, endT l] := e1
      have := List.append_cancel_right e1'
      subst this
      have hp0 : p = [] := by
        cases p with
        | nil => rfl
        | cons t p =>
          exfalso
          simp only [List.cons_append, restTop] at h
          have := toks_kind hf1 t (hpt.subset (List.mem_cons_self ..))
          rw [if_neg (by simpa using this)] at h
          cases h
      subst hp0
      simp only [List.nil_append, restTop] at h
      have hk : ((endT l).kind == 0) = true := rfl
      rw [if_pos hk] at h
      cases h
      refine ⟨hl1, hu1, ts0, hf1, ?_, rfl, hp⟩
      rintro rfl
      simp at hsh

/-- The parts of a term begin where they are said to. -/
theorem places_law {l : List UInt8} {a : T} (h : readTop (termP 200) l = .ok a) : ∃ ts, scanP l = .ok ts ∧ 2 ≤ ts.length ∧ withinP ts a 0 = true := by
  obtain ⟨_, _, ts0, hf, hne, hs, hp⟩ := term_all h
  obtain ⟨h1, h2⟩ := toks_sd hf
  refine ⟨_, hs, ?_, ?_⟩
  · cases ts0 with
    | nil => exact (hne rfl).elim
    | cons t ts => simp
  · have hsd : Sd (ts0 ++ [endT l, endT l, endT l]) := by
      have e : ts0 ++ [endT l, endT l, endT l] = ts0 ++ [endT l] ++ [endT l, endT l] := by simp
      rw [e]
      refine List.pairwise_append.2 ⟨h1.imp (fun h => Int.le_of_lt h), ?_, fun x hx y hy => ?_⟩
      · simp
      · have := (h2 x hx).2
        simp only [List.mem_cons, List.not_mem_nil, or_false, or_self] at hy
        subst hy
        simp only [endT]
        exact this
    have hg := (termP_gd hsd 200 _ _ _ 0 (List.suffix_refl _) (fun t ht => by
      refine (h2 t ?_).1
      simp only [List.mem_append, List.mem_cons, List.not_mem_nil, or_false, or_self] at ht ⊢
      exact ht) hp).2.1
    refine within_of h1 a 0 (wb_sub (fun t ht => ?_) a 0 hg)
    simp only [List.mem_append, List.mem_cons, List.not_mem_nil, or_false, or_self] at ht ⊢
    exact ht

end Go.Abs
