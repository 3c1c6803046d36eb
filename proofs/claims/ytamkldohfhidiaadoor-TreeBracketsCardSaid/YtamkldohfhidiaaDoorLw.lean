import Derived.Test.YtamkldohfhidiaaDoorLx
import Derived.Test.YtamkldohfhidiaaDoorPg
namespace Go.Abs

/-! ### Texts one behind the other -/

theorem nameT_app : ∀ (b : Bool) (l r : List UInt8), nameT b (l ++ 10 :: r) = nameT b l
  | b, [], r => by
    have h1 : letterI ((10 : UInt8).toNat : Int) = false := by decide
    have h2 : digitI ((10 : UInt8).toNat : Int) = false := by decide
    simp only [List.nil_append, nameT, h1, h2, Bool.and_false, Bool.or_false, Bool.false_eq_true, if_false]
  | b, c :: l, r => by simp only [List.cons_append, nameT, nameT_app false l r]
theorem prefix_app {x : List UInt8} (hx : (10 : UInt8) ∉ x) : ∀ (l r : List UInt8), x.isPrefixOf (l ++ 10 :: r) = x.isPrefixOf l := by
  induction x with
  | nil => intro l r; simp
  | cons a x ih =>
    intro l r
    cases l with
    | nil =>
      have : a ≠ 10 := fun e => hx (by rw [e]; exact List.mem_cons_self ..)
      simp [List.isPrefixOf, this]
    | cons c l =>
      simp only [List.cons_append, List.isPrefixOf]
      rw [ih (fun h => hx (List.mem_cons_of_mem _ h))]
theorem find_app : ∀ (L : List (List UInt8)), (∀ x ∈ L, (10 : UInt8) ∉ x) → ∀ l r : List UInt8, L.find? (fun x => x.isPrefixOf (l ++ 10 :: r)) = L.find? (fun x => x.isPrefixOf l)
  | [], _, l, r => rfl
  | x :: L, h, l, r => by
    simp only [List.find?_cons]
    rw [prefix_app (h x (List.mem_cons_self ..)) l r, find_app L (fun y hy => h y (List.mem_cons_of_mem _ hy)) l r]
theorem oneP_app (l r : List UInt8) : oneP (l ++ 10 :: r) = oneP l := by
  unfold oneP
  rw [nameT_app, find_app signsL (by decide)]
theorem pastT_app : ∀ (b : Bool) (l r : List UInt8), pastT b (l ++ 10 :: r) = if pastT b l = l.length then l.length + pastT false (10 :: r) else pastT b l
  | false, [], r => by simp [pastT]
  | true, [], r => by
    simp only [List.nil_append, List.length_nil]
    simp [pastT]
  | true, c :: l, r => by
    have i1 := pastT_app false l r
    have i2 := pastT_app true l r
    generalize pastT false (10 :: r) = Q at i1 i2 ⊢
    simp only [List.cons_append, pastT, List.length_cons]
    rw [i1, i2]
    by_cases h : c.toNat = 10
    · simp only [if_pos h]
      by_cases h2 : pastT false l = l.length
      · rw [if_pos h2, if_pos (by omega)]
        omega
      · rw [if_neg h2, if_neg (by omega)]
    · simp only [if_neg h]
      by_cases h2 : pastT true l = l.length
      · rw [if_pos h2, if_pos (by omega)]
        omega
      · rw [if_neg h2, if_neg (by omega)]
  | false, c :: l, r => by
    have hp : [45, 45].isPrefixOf (c :: l ++ 10 :: r) = [45, 45].isPrefixOf (c :: l) := prefix_app (by decide) (c :: l) r
    have i1 := pastT_app false l r
    have i2 := pastT_app true l r
    generalize pastT false (10 :: r) = Q at i1 i2 ⊢
    simp only [List.cons_append, pastT, List.length_cons]
    rw [List.cons_append] at hp
    rw [hp, i1, i2]
    by_cases h : c.toNat = 32 ∨ c.toNat = 9 ∨ c.toNat = 10 ∨ c.toNat = 13
    · simp only [if_pos h]
      by_cases h2 : pastT false l = l.length
      · rw [if_pos h2, if_pos (by omega)]
        omega
      · rw [if_neg h2, if_neg (by omega)]
    · simp only [if_neg h]
      cases h3 : List.isPrefixOf [45, 45] (c :: l) with
      | false =>
        simp
      | true =>
        simp only [if_true]
        by_cases h2 : pastT true l = l.length
        · rw [if_pos h2, if_pos (by omega)]
          omega
        · rw [if_neg h2, if_neg (by omega)]

/-- The tokens from a place on, blanks ahead of them. -/
def scanFrom (l : List UInt8) (a : Nat) : List Tok × Option Nat := scanW (l.drop (pastT false l)) (a + pastT false l)

theorem scanW_step {l : List UInt8} (a : Nat) {k : Int} {n : Nat} (h0 : l ≠ []) (h : oneP l = some (k, n)) :
    scanW l a = (⟨k, bsL (l.take n), a⟩ :: (scanFrom (l.drop n) (a + n)).1, (scanFrom (l.drop n) (a + n)).2) := by
  rw [scanW_some a h0 h]
  unfold scanFrom
  rw [List.drop_drop, Nat.add_assoc]

/-- A text behind another one, a new line between. -/
theorem scanW_app (r : List UInt8) : ∀ (m : Nat) (l : List UInt8) (a : Nat) (ts : List Tok), l.length ≤ m → l ≠ [] → scanW l a = (ts, none) →
    scanW (l ++ 10 :: r) a = (ts ++ (scanFrom (10 :: r) (a + l.length)).1, (scanFrom (10 :: r) (a + l.length)).2)
  | 0, l, a, ts, hl, h0, h => by
    exact (h0 (List.eq_nil_of_length_eq_zero (by omega))).elim
  | m + 1, l, a, ts, hl, h0, h => by
    cases h1 : oneP l with
    | none =>
      rw [scanW_none a h0 h1] at h
      cases h
    | some p =>
      obtain ⟨k, n⟩ := p
      obtain ⟨hn0, hnl⟩ := oneP_pos h1
      have h0' : l ++ 10 :: r ≠ [] := by simp
      rw [scanW_step a h0 h1] at h
      rw [scanW_step a h0' (by rw [oneP_app]; exact h1)]
      have ht : (l ++ 10 :: r).take n = l.take n := List.take_append_of_le_length hnl
      have hd : (l ++ 10 :: r).drop n = l.drop n ++ 10 :: r := List.drop_append_of_le_length hnl
      rw [ht, hd]
      unfold scanFrom at h ⊢
      have hlen : (l.drop n).length = l.length - n := List.length_drop ..
      have hp := pastT_app false (l.drop n) r
      by_cases he : pastT false (l.drop n) = (l.drop n).length
      · rw [if_pos he] at hp
        rw [he, List.drop_length, scanW_nil] at h
        cases h
        rw [hp]
        have hd2 : (l.drop n ++ 10 :: r).drop ((l.drop n).length + pastT false (10 :: r)) = (10 :: r).drop (pastT false (10 :: r)) := by
          rw [← List.drop_drop, List.drop_left]
        rw [hd2]
        have hpos : a + n + ((l.drop n).length + pastT false (10 :: r)) = a + l.length + pastT false (10 :: r) := by omega
        rw [hpos]
        simp
      · rw [if_neg he] at hp
        rw [hp]
        have hle := pastT_le false (l.drop n)
        have hd2 : (l.drop n ++ 10 :: r).drop (pastT false (l.drop n)) = (l.drop n).drop (pastT false (l.drop n)) ++ 10 :: r := List.drop_append_of_le_length hle
        rw [hd2]
        have hne : (l.drop n).drop (pastT false (l.drop n)) ≠ [] := by
          intro e
          have := congrArg List.length e
          rw [List.length_drop] at this
          simp at this
          omega
        injection h with e1 e2
        have ih := scanW_app r m ((l.drop n).drop (pastT false (l.drop n))) (a + n + pastT false (l.drop n)) (scanW ((l.drop n).drop (pastT false (l.drop n))) (a + n + pastT false (l.drop n))).1 (by rw [List.length_drop]; omega) hne (Prod.ext rfl e2)
        rw [ih]
        have hpos : a + n + pastT false (l.drop n) + ((l.drop n).drop (pastT false (l.drop n))).length = a + l.length := by rw [List.length_drop]; omega
        rw [hpos, ← e1]
        rfl
theorem scanFrom_app (l r : List UInt8) (a : Nat) (ts : List Tok) (h : scanFrom l a = (ts, none)) :
    scanFrom (l ++ 10 :: r) a = (ts ++ (scanFrom (10 :: r) (a + l.length)).1, (scanFrom (10 :: r) (a + l.length)).2) := by
  have hp := pastT_app false l r
  have hle := pastT_le false l
  unfold scanFrom at h ⊢
  by_cases he : pastT false l = l.length
  · rw [if_pos he] at hp
    rw [he, List.drop_length, scanW_nil] at h
    cases h
    rw [hp, ← List.drop_drop, List.drop_left, ← Nat.add_assoc]
    simp
  · rw [if_neg he] at hp
    rw [hp, List.drop_append_of_le_length hle]
    have hne : l.drop (pastT false l) ≠ [] := by
      intro e
      have := congrArg List.length e
      rw [List.length_drop] at this
      simp at this
      omega
    rw [scanW_app r _ _ _ _ (Nat.le_refl _) hne h]
    have hpos : a + pastT false l + (l.drop (pastT false l)).length = a + l.length := by rw [List.length_drop]; omega
    rw [hpos]
    rfl
theorem scanFrom_blank (c : UInt8) (hc : c.toNat = 32 ∨ c.toNat = 9 ∨ c.toNat = 10 ∨ c.toNat = 13) (l : List UInt8) (a : Nat) : scanFrom (c :: l) a = scanFrom l (a + 1) := by
  unfold scanFrom
  simp only [pastT, if_pos hc, List.drop_succ_cons]
  rw [show a + (pastT false l + 1) = a + 1 + pastT false l from by omega]

/-- Further on. -/
theorem scanW_sh (k : Nat) : ∀ (m : Nat) (l : List UInt8) (a : Nat), l.length ≤ m → scanW l (a + k) = (shl k (scanW l a).1, (scanW l a).2.map (· + k))
  | 0, l, a, h => by
    have := List.eq_nil_of_length_eq_zero (Nat.le_zero.1 h)
    subst this
    rw [scanW_nil, scanW_nil]
    rfl
  | m + 1, l, a, h => by
    by_cases h0 : l = []
    · subst h0
      rw [scanW_nil, scanW_nil]
      rfl
    · cases h1 : oneP l with
      | none =>
        rw [scanW_none _ h0 h1, scanW_none _ h0 h1]
        rfl
      | some p =>
        obtain ⟨d, n⟩ := p
        obtain ⟨hn0, hnl⟩ := oneP_pos h1
        rw [scanW_some _ h0 h1, scanW_some _ h0 h1]
        have e : a + k + (n + pastT false (l.drop n)) = a + (n + pastT false (l.drop n)) + k := by omega
        rw [e, scanW_sh k m _ _ (by rw [List.length_drop]; omega)]
        simp [shl, Tok.sh]
theorem scanFrom_sh (k : Nat) (l : List UInt8) (a : Nat) : scanFrom l (a + k) = (shl k (scanFrom l a).1, (scanFrom l a).2.map (· + k)) := by
  unfold scanFrom
  rw [show a + k + pastT false l = a + pastT false l + k from by omega]
  exact scanW_sh k _ _ _ (Nat.le_refl _)

/-! ### Bytes that are a text -/

def badD (D : Nat × Nat) : Prop := D.1 = 65533 ∧ D.2 < 2
instance (D : Nat × Nat) : Decidable (badD D) := inferInstanceAs (Decidable (_ ∧ _))

theorem utfBad_nil' (a : Nat) : utfBad [] a = none := by rw [utfBad]; rfl
theorem utfBad_step' {l : List UInt8} (a : Nat) (h : l ≠ []) : utfBad l a = if badD (decL l) then some a else utfBad (l.drop (decL l).2) (a + (decL l).2) := by
  rw [utfBad, dif_neg h]
  rfl
theorem utfBad_sh (k : Nat) : ∀ (m : Nat) (l : List UInt8) (a : Nat), l.length ≤ m → utfBad l (a + k) = (utfBad l a).map (· + k)
  | 0, l, a, h => by
    have := List.eq_nil_of_length_eq_zero (Nat.le_zero.1 h)
    subst this
    rw [utfBad_nil', utfBad_nil']
    rfl
  | m + 1, l, a, h => by
    by_cases h0 : l = []
    · subst h0
      rw [utfBad_nil', utfBad_nil']
      rfl
    · rw [utfBad_step' _ h0, utfBad_step' _ h0]
      by_cases hb : badD (decL l)
      · rw [if_pos hb, if_pos hb]
        rfl
      · rw [if_neg hb, if_neg hb]
        have h1 := decL_pos l
        have h2 : 0 < l.length := by cases l with | nil => exact (h0 rfl).elim | cons a b => simp
        rw [show a + k + (decL l).2 = a + (decL l).2 + k from by omega]
        exact utfBad_sh k m _ _ (by rw [List.length_drop]; omega)

/-- A rune that is whole is the same whatever stands behind it. -/
theorem dec_stable {n n' b0 b1 b2 b3 c1 c2 c3 : Nat} (hn : n ≤ n') (h1 : 1 < n → c1 = b1) (h2 : 2 < n → c2 = b2) (h3 : 3 < n → c3 = b3) (h : ¬ badD (Lib.decodeN n b0 b1 b2 b3)) :
    Lib.decodeN n' b0 c1 c2 c3 = Lib.decodeN n b0 b1 b2 b3 := by
  unfold Lib.decodeN at h ⊢
  by_cases hA : b0 < 128
  · simp only [if_pos hA]
  · simp only [if_neg hA] at h ⊢
    by_cases hB : b0 / 32 = 6 ∧ (1 < n ∧ b1 / 64 = 2)
    · have e1 := h1 hB.2.1
      subst e1
      rw [if_pos hB, if_pos ⟨hB.1, by omega, hB.2.2⟩]
    · rw [if_neg hB] at h ⊢
      by_cases hC : b0 / 16 = 14 ∧ (1 < n ∧ b1 / 64 = 2) ∧ (2 < n ∧ b2 / 64 = 2)
      · have e1 := h1 hC.2.1.1
        have e2 := h2 hC.2.2.1
        subst e1 e2
        rw [if_pos hC, if_neg (by omega), if_pos ⟨hC.1, ⟨by omega, hC.2.1.2⟩, by omega, hC.2.2.2⟩]
      · rw [if_neg hC] at h ⊢
        by_cases hD : b0 / 8 = 30 ∧ (1 < n ∧ b1 / 64 = 2) ∧ (2 < n ∧ b2 / 64 = 2) ∧ (3 < n ∧ b3 / 64 = 2)
        · have e1 := h1 hD.2.1.1
          have e2 := h2 hD.2.2.1.1
          have e3 := h3 hD.2.2.2.1
          subst e1 e2 e3
          rw [if_pos hD, if_neg (by omega), if_neg (by omega), if_pos ⟨hD.1, ⟨by omega, hD.2.1.2⟩, ⟨by omega, hD.2.2.1.2⟩, by omega, hD.2.2.2.2⟩]
        · rw [if_neg hD] at h
          exact (h ⟨rfl, by decide⟩).elim
/-- One that is none is none, too, ahead of a new line. -/
theorem dec_bad {n n' b0 b1 b2 b3 c1 c2 c3 : Nat} (_hn : n ≤ n') (h1 : if 1 < n then c1 = b1 else c1 = 10) (h2 : if 2 < n then c2 = b2 else (n = 2 → c2 = 10)) (h3 : if 3 < n then c3 = b3 else (n = 3 → c3 = 10)) (_h0 : 1 ≤ n)
    (h : badD (Lib.decodeN n b0 b1 b2 b3)) : badD (Lib.decodeN n' b0 c1 c2 c3) := by
  unfold Lib.decodeN at h ⊢
  have k1 : c1 / 64 = 2 → 1 < n ∧ c1 = b1 := by
    intro hc
    split at h1
    · rename_i hh
      exact ⟨hh, h1⟩
    · omega
  have k2 : c1 / 64 = 2 → c2 / 64 = 2 → 2 < n ∧ c2 = b2 := by
    intro hc hc2
    have := (k1 hc).1
    split at h2
    · rename_i hh
      exact ⟨hh, h2⟩
    · have := h2 (by omega)
      omega
  have k3 : c1 / 64 = 2 → c2 / 64 = 2 → c3 / 64 = 2 → 3 < n ∧ c3 = b3 := by
    intro hc hc2 hc3
    have := (k2 hc hc2).1
    split at h3
    · rename_i hh
      exact ⟨hh, h3⟩
    · have := h3 (by omega)
      omega
  clear h1 h2 h3
  by_cases hA : b0 < 128
  · simp only [if_pos hA] at h ⊢
    exact h
  · simp only [if_neg hA] at h ⊢
    by_cases hB : b0 / 32 = 6 ∧ (1 < n' ∧ c1 / 64 = 2)
    · obtain ⟨e0, e1⟩ := k1 hB.2.2
      subst e1
      rw [if_pos ⟨hB.1, e0, hB.2.2⟩] at h
      rw [if_pos hB]
      exact h
    · rw [if_neg hB]
      by_cases hC : b0 / 16 = 14 ∧ (1 < n' ∧ c1 / 64 = 2) ∧ (2 < n' ∧ c2 / 64 = 2)
      · obtain ⟨e0, e1⟩ := k1 hC.2.1.2
        obtain ⟨f0, f1⟩ := k2 hC.2.1.2 hC.2.2.2
        subst e1 f1
        rw [if_neg (by omega), if_pos ⟨hC.1, ⟨e0, hC.2.1.2⟩, f0, hC.2.2.2⟩] at h
        rw [if_pos hC]
        exact h
      · rw [if_neg hC]
        by_cases hD : b0 / 8 = 30 ∧ (1 < n' ∧ c1 / 64 = 2) ∧ (2 < n' ∧ c2 / 64 = 2) ∧ (3 < n' ∧ c3 / 64 = 2)
        · obtain ⟨e0, e1⟩ := k1 hD.2.1.2
          obtain ⟨f0, f1⟩ := k2 hD.2.1.2 hD.2.2.1.2
          obtain ⟨g0, g1⟩ := k3 hD.2.1.2 hD.2.2.1.2 hD.2.2.2.2
          subst e1 f1 g1
          rw [if_neg (by omega), if_neg (by omega), if_pos ⟨hD.1, ⟨e0, hD.2.1.2⟩, ⟨f0, hD.2.2.1.2⟩, g0, hD.2.2.2.2⟩] at h
          rw [if_pos hD]
          exact h
        · rw [if_neg hD]
          exact ⟨rfl, by decide⟩

theorem getD_app {l r : List UInt8} {i : Nat} (h : i < l.length) : (l ++ r).getD i 0 = l.getD i 0 := by
  rw [List.getD_eq_getElem?_getD, List.getD_eq_getElem?_getD, List.getElem?_append_left h]
theorem decL_app {l : List UInt8} (h0 : l ≠ []) (h : ¬ badD (decL l)) (r : List UInt8) : decL (l ++ r) = decL l := by
  have h1 : 0 < l.length := by cases l with | nil => exact (h0 rfl).elim | cons a b => simp
  unfold decL at h ⊢
  rw [getD_app (i := 0) h1]
  exact dec_stable (by simp) (fun hh => by rw [getD_app hh]) (fun hh => by rw [getD_app hh]) (fun hh => by rw [getD_app hh]) h
theorem getD_nl {l r : List UInt8} {i : Nat} (h : i = l.length) : (l ++ 10 :: r).getD i 0 = 10 := by
  subst h
  rw [List.getD_eq_getElem?_getD, List.getElem?_append_right (Nat.le_refl _), Nat.sub_self]
  rfl
theorem decL_bad {l : List UInt8} (h0 : l ≠ []) (h : badD (decL l)) (r : List UInt8) : badD (decL (l ++ 10 :: r)) := by
  have h1 : 0 < l.length := by cases l with | nil => exact (h0 rfl).elim | cons a b => simp
  unfold decL at h ⊢
  rw [getD_app (i := 0) h1]
  refine dec_bad (by simp) ?_ ?_ ?_ h1 h
  · split
    · rename_i hh
      rw [getD_app hh]
    · rw [getD_nl (by omega)]
      rfl
  · split
    · rename_i hh
      rw [getD_app hh]
    · intro hh
      rw [getD_nl hh.symm]
      rfl
  · split
    · rename_i hh
      rw [getD_app hh]
    · intro hh
      rw [getD_nl hh.symm]
      rfl

theorem utfBad_app (r : List UInt8) : ∀ (m : Nat) (l : List UInt8) (a : Nat), l.length ≤ m → utfBad (l ++ 10 :: r) a = match utfBad l a with | some p => some p | none => utfBad (10 :: r) (a + l.length)
  | 0, l, a, h => by
    have := List.eq_nil_of_length_eq_zero (Nat.le_zero.1 h)
    subst this
    rw [utfBad_nil']
    rfl
  | m + 1, l, a, h => by
    by_cases h0 : l = []
    · subst h0
      rw [utfBad_nil']
      rfl
    · have h0' : l ++ 10 :: r ≠ [] := by simp
      rw [utfBad_step' a h0, utfBad_step' a h0']
      by_cases hb : badD (decL l)
      · rw [if_pos hb, if_pos (decL_bad h0 hb r)]
      · rw [decL_app h0 hb, if_neg hb, if_neg hb]
        have h1 := decL_pos l
        have h2 := decL_le l h0
        have h3 : 0 < l.length := by cases l with | nil => exact (h0 rfl).elim | cons a b => simp
        rw [List.drop_append_of_le_length h2, utfBad_app r m _ _ (by rw [List.length_drop]; omega)]
        have hpos : a + (decL l).2 + (l.drop (decL l).2).length = a + l.length := by rw [List.length_drop]; omega
        rw [hpos]
theorem utfBad_ascii (c : UInt8) (hc : c.toNat < 128) (l : List UInt8) (a : Nat) : utfBad (c :: l) a = utfBad l (a + 1) := by
  have e : decL (c :: l) = (c.toNat, 1) := by
    unfold decL Lib.decodeN
    have : (c :: l).getD 0 0 = c := rfl
    rw [this, if_pos hc]
  have hb : ¬ badD (decL (c :: l)) := by
    rw [e]
    unfold badD
    simp only
    omega
  rw [utfBad_step' a (by simp), if_neg hb, e]
  rfl

end Go.Abs
