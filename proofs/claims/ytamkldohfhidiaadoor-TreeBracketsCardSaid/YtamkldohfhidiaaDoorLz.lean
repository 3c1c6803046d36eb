import Derived.Test.YtamkldohfhidiaaDoorW18
import Derived.Test.YtamkldohfhidiaaDoorLw
namespace Go.Abs

/-! ### What the scanner gives -/

theorem scanP_parts {l : List UInt8} {ts : List Tok} : scanP l = .ok ts ↔ l.length ≤ 65536 ∧ utfBad l 0 = none ∧ ∃ ts0, scanFrom l 0 = (ts0, none) ∧ ts = ts0 ++ [endT l] := by
  unfold scanP scanFrom
  simp only [Nat.zero_add]
  constructor
  · intro h
    split at h
    · cases h
    · rename_i h0
      split at h
      · cases h
      · rename_i hu
        split at h
        · rename_i ts0 hw
          cases h
          exact ⟨by omega, hu, ts0, hw, rfl⟩
        · cases h
  · rintro ⟨h0, hu, ts0, hw, rfl⟩
    rw [if_neg (by omega), hu, hw]
    rfl
theorem scanP_big {l : List UInt8} (h : 65536 < l.length) : scanP l = .bad 0 3 := by
  unfold scanP
  rw [if_pos h]
theorem scanP_utf {l : List UInt8} {p : Nat} (h0 : l.length ≤ 65536) (h : utfBad l 0 = some p) : scanP l = .bad p 60 := by
  unfold scanP
  rw [if_neg (by omega), h]
theorem scanP_form {l : List UInt8} {p : Nat} {ts : List Tok} (h0 : l.length ≤ 65536) (hu : utfBad l 0 = none) (h : scanFrom l 0 = (ts, some p)) : scanP l = .bad p 61 := by
  unfold scanFrom at h
  simp only [Nat.zero_add] at h
  unfold scanP
  rw [if_neg (by omega), hu, h]

theorem utfBad_le : ∀ (m : Nat) (l : List UInt8) (a p : Nat), l.length ≤ m → utfBad l a = some p → a ≤ p ∧ p ≤ a + l.length
  | 0, l, a, p, h, hh => by
    have := List.eq_nil_of_length_eq_zero (Nat.le_zero.1 h)
    subst this
    rw [utfBad_nil'] at hh
    cases hh
  | m + 1, l, a, p, h, hh => by
    by_cases h0 : l = []
    · subst h0
      rw [utfBad_nil'] at hh
      cases hh
    · rw [utfBad_step' _ h0] at hh
      split at hh
      · cases hh
        omega
      · have h1 := decL_pos l
        have h2 := decL_le l h0
        have := utfBad_le m _ _ _ (by rw [List.length_drop]; omega) hh
        rw [List.length_drop] at this
        omega
/-- Tokens of a text: where they are, what they are. -/
structure TokOk (a b : Nat) (ts : List Tok) : Prop where
  up : ts.Pairwise fun x y => x.at_ < y.at_
  lo : ∀ t ∈ ts, (a : Int) ≤ t.at_ ∧ t.at_ < b
  kind : ∀ t ∈ ts, t.kind = 1 ∧ (t.text.toList == (bs [58]).toList) = false ∨ t.kind = 2
theorem nameT_head {l : List UInt8} (h : 0 < nameT true l) : ∃ c r, l = c :: r ∧ letterI c.toNat = true := by
  cases l with
  | nil => simp [nameT] at h
  | cons c r =>
    refine ⟨c, r, rfl, ?_⟩
    simp only [nameT, Bool.not_true, Bool.false_and, Bool.or_false] at h
    cases hc : letterI c.toNat with
    | true => rfl
    | false => rw [hc] at h; simp at h
theorem oneP_kind {l : List UInt8} {k : Int} {n : Nat} (h : oneP l = some (k, n)) : k = 1 ∧ ((bsL (l.take n)).toList == (bs [58]).toList) = false ∨ k = 2 := by
  unfold oneP at h
  split at h
  · rename_i h0
    cases h
    refine .inl ⟨rfl, ?_⟩
    obtain ⟨c, r, rfl, hc⟩ := nameT_head h0
    rw [Lib.toList_data, Lib.toList_data]
    obtain ⟨n, hn⟩ : ∃ n, nameT true (c :: r) = n + 1 := ⟨nameT true (c :: r) - 1, by omega⟩
    rw [hn]
    show ((c :: r).take (n + 1) == [58]) = false
    have : c ≠ 58 := by
      rintro rfl
      revert hc
      decide
    simp only [List.take_succ_cons]
    cases h : (c :: r.take n == [58]) with
    | false => rfl
    | true =>
      simp at h
      exact (this h.1).elim
  · split at h
    · cases h
      exact .inr rfl
    · cases h
theorem scanW_toks : ∀ (m : Nat) (l : List UInt8) (a : Nat), l.length ≤ m → TokOk a (a + l.length) (scanW l a).1 ∧ ∀ p, (scanW l a).2 = some p → a ≤ p ∧ p ≤ a + l.length
  | 0, l, a, h => by
    have := List.eq_nil_of_length_eq_zero (Nat.le_zero.1 h)
    subst this
    rw [scanW_nil]
    exact ⟨⟨List.Pairwise.nil, fun _ h => (nomatch h), fun _ h => (nomatch h)⟩, fun _ h => (nomatch h)⟩
  | m + 1, l, a, h => by
    by_cases h0 : l = []
    · subst h0
      rw [scanW_nil]
      exact ⟨⟨List.Pairwise.nil, fun _ h => (nomatch h), fun _ h => (nomatch h)⟩, fun _ h => (nomatch h)⟩
    · cases h1 : oneP l with
      | none =>
        rw [scanW_none _ h0 h1]
        exact ⟨⟨List.Pairwise.nil, fun _ h => (nomatch h), fun _ h => (nomatch h)⟩, fun p hp => by cases hp; omega⟩
      | some p =>
        obtain ⟨k, n⟩ := p
        obtain ⟨hn0, hnl⟩ := oneP_pos h1
        rw [scanW_some _ h0 h1]
        have hpl := pastT_le false (l.drop n)
        rw [List.length_drop] at hpl
        obtain ⟨⟨i1, i2, i3⟩, i4⟩ := scanW_toks m (l.drop (n + pastT false (l.drop n))) (a + (n + pastT false (l.drop n))) (by rw [List.length_drop]; omega)
        rw [List.length_drop] at i2 i4
        refine ⟨⟨List.pairwise_cons.2 ⟨fun t ht => ?_, i1⟩, fun t ht => ?_, fun t ht => ?_⟩, fun p hp => ?_⟩
        · have := i2 t ht
          simp only
          omega
        · rcases List.mem_cons.1 ht with rfl | ht
          · simp only
            omega
          · have := i2 t ht
            omega
        · rcases List.mem_cons.1 ht with rfl | ht
          · exact oneP_kind h1
          · exact i3 t ht
        · have := i4 p hp
          omega
theorem scanFrom_toks (l : List UInt8) (a : Nat) : TokOk a (a + l.length) (scanFrom l a).1 ∧ ∀ p, (scanFrom l a).2 = some p → a ≤ p ∧ p ≤ a + l.length := by
  unfold scanFrom
  have hpl := pastT_le false l
  obtain ⟨⟨i1, i2, i3⟩, i4⟩ := scanW_toks _ (l.drop (pastT false l)) (a + pastT false l) (Nat.le_refl _)
  rw [List.length_drop] at i2 i4
  exact ⟨⟨i1, fun t ht => by have := i2 t ht; omega, i3⟩, fun p hp => by have := i4 p hp; omega⟩

/-! ### Ends -/

theorem bs_toList (c : List UInt8) : (bs c).toList = c := by rw [Lib.toList_data]
theorem sees_text {c : List UInt8} {t : Tok} {X : List Tok} (h : seesB (bs c) (t :: X) = true) : t.kind = 2 ∧ t.text.toList = c := by
  simp only [seesB, Bool.and_eq_true] at h
  have h2 := eq_of_beq h.2
  rw [bs_toList c] at h2
  exact ⟨eq_of_beq h.1, h2⟩
theorem stop_sign {c : List UInt8} {t : Tok} {X : List Tok} (h : seesB (bs c) (t :: X) = true) (hc : c = [61] ∨ c = [59] ∨ c = [41]) : Stop (t :: X) := by
  obtain ⟨h1, h2⟩ := sees_text h
  refine ⟨⟨t, X, rfl, ?_⟩, ?_, ?_⟩
  · rw [h2, bs_toList]
    rcases hc with rfl | rfl | rfl <;> decide
  · show (t.kind == 1) = false
    rw [h1]
    rfl
  · intro x hx
    show (t.kind == 2 && (t.text.toList == (bs x).toList)) = false
    rw [h1, h2, bs_toList]
    simp only [List.mem_cons, List.not_mem_nil, or_false] at hx
    rcases hc with rfl | rfl | rfl <;> rcases hx with rfl | rfl | rfl | rfl | rfl | rfl | rfl | rfl | rfl | rfl | rfl | rfl | rfl | rfl | rfl <;> decide
theorem stop_end {e : Tok} {X : List Tok} (hk : e.kind = 0) (ht : (e.text.toList == (bs [58]).toList) = false) : Stop (e :: X) := by
  refine ⟨⟨e, X, rfl, ht⟩, ?_, ?_⟩
  · show (e.kind == 1) = false
    rw [hk]
    rfl
  · intro x _
    show (e.kind == 2 && _) = false
    rw [hk]
    rfl
theorem stop_endT (l : List UInt8) (X : List Tok) : Stop (endT l :: X) := stop_end rfl (by rw [Lib.toList_data, Lib.toList_data]; rfl)
theorem termP_suf {d : Nat} {s r : List Tok} {t : T} (h : termP d s = .ok t r) : r <:+ s := (termP_self (X := False) (stop_endT [] []) (stop_endT [] []) d s t r h).1

/-- A declaration hangs on its own tokens alone. -/
theorem declP_sim {E E' : List Tok} : Sim False E E' declP declP := by
  intro s d r h
  have hsh := declP_short _ _ _ h
  obtain ⟨x, r1, h1, g1⟩ := PR.bind_ok.1 h
  obtain ⟨_, r2, h2, g2⟩ := PR.bind_ok.1 g1
  obtain ⟨a, r3, h3, g3⟩ := PR.bind_ok.1 g2
  obtain ⟨_, r4, h4, g4⟩ := PR.bind_ok.1 g3
  obtain ⟨b, r5, h5, g5⟩ := PR.bind_ok.1 g4
  obtain ⟨_, r6, h6, g6⟩ := PR.bind_ok.1 g5
  cases g6
  have s1 := nameP_suf h1
  have s2 := wantP_suf h2
  have s3 := termP_suf h3
  have s4 := wantP_suf h4
  have s5 := termP_suf h5
  have s6 := wantP_suf h6
  refine ⟨s6.trans (s5.trans (s4.trans (s3.trans (s2.trans s1)))), fun l hl hlen => ?_⟩
  subst hl
  have n6 := s6.length_le
  have n5 := s5.length_le
  have n4 := s4.length_le
  have n3 := s3.length_le
  have n2 := s2.length_le
  obtain ⟨l1, rfl, _⟩ := suf_split s1 (by omega)
  obtain ⟨l2, rfl, _⟩ := suf_split s2 (by omega)
  obtain ⟨l3, rfl, m3⟩ := suf_split s3 (by omega)
  obtain ⟨l4, rfl, _⟩ := suf_split s4 (by omega)
  obtain ⟨l5, rfl, m5⟩ := suf_split s5 (by omega)
  obtain ⟨l6, rfl, _⟩ := suf_split s6 hlen
  refine ⟨l6, rfl, .inl ?_⟩
  -- the steps, ahead of the other end
  have k1 : nameP (l ++ E') = .ok x (l1 ++ E') := by
    obtain ⟨l', e1, e2⟩ := (nameP_sim (X := False) (E := E) (E' := E') _ _ _ h1).2 l rfl (by simp)
    have := List.append_cancel_right e1
    subst this
    exact e2.elim id (fun hh => hh.1.elim)
  have kw : ∀ {c : ByteArray} {u : Unit} {p q : List Tok}, wantP c (p ++ E) = .ok u (q ++ E) → wantP c (p ++ E') = .ok u (q ++ E') := by
    intro c u p q hh
    obtain ⟨l', e1, e2⟩ := (wantP_sim (X := False) (E := E) (E' := E') c _ _ _ hh).2 p rfl (by simp)
    have := List.append_cancel_right e1
    subst this
    exact e2.elim id (fun hh => hh.1.elim)
  have kt : ∀ {c : List UInt8} {u : Unit} {y : T} {p q q2 : List Tok}, (c = [61] ∨ c = [59] ∨ c = [41]) → q <:+ p → termP 200 (p ++ E) = .ok y (q ++ E) → wantP (bs c) (q ++ E) = .ok u (q2 ++ E) → termP 200 (p ++ E') = .ok y (q ++ E') := by
    intro c u y p q q2 hc hsf hh hw
    obtain ⟨pre, rfl⟩ := hsf
    have hq : ∃ t q', q = t :: q' ∧ seesB (bs c) (t :: q') = true := by
      have hw2 := hw
      unfold wantP at hw2
      split at hw2
      · rename_i hse
        cases q with
        | nil =>
          exfalso
          have := wantP_short _ _ _ _ hw
          simp only [List.nil_append, List.length_append] at this
          omega
        | cons t q' => exact ⟨t, q', rfl, hse⟩
      · cases hw2
    obtain ⟨t, q', rfl, hse⟩ := hq
    have e1 : Stop (t :: q' ++ E) := stop_sign (X := q' ++ E) hse hc
    have e2 : Stop (t :: q' ++ E') := stop_sign (X := q' ++ E') hse hc
    rw [List.append_assoc] at hh ⊢
    exact termP_stop_self e1 e2 hh
  have k2 := kw h2
  have k3 := kt (.inl rfl) m3 h3 h4
  have k4 := kw h4
  have k5 := kt (.inr (.inl rfl)) m5 h5 h6
  have k6 := kw h6
  have hat : atP (l ++ E') = atP (l ++ E) := by
    cases l with
    | nil =>
      exfalso
      simp at hsh
      omega
    | cons t l => rfl
  show (nameP (l ++ E')).bind _ = _
  rw [k1, PR.ok_bind, k2, PR.ok_bind, k3, PR.ok_bind, k4, PR.ok_bind, k5, PR.ok_bind, k6, PR.ok_bind, hat]

end Go.Abs
