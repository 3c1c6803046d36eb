import Derived.Test.YtamkldohfhidiaaDoorPc
namespace Go.Abs

/-! ### What is read further on is the same, further on -/

def Tok.sh (k : Int) (t : Tok) : Tok := ⟨t.kind, t.text, t.at_ + k⟩
mutual
def T.sh (k : Int) : T → T
  | .mk d n ks ns a => .mk d n (T.shs k ks) ns (a + k)
def T.shs (k : Int) : List T → List T
  | [] => []
  | t :: ts => T.sh k t :: T.shs k ts
end
theorem T.shs_append (k : Int) : ∀ a b : List T, T.shs k (a ++ b) = T.shs k a ++ T.shs k b
  | [], b => by simp only [T.shs, List.nil_append]
  | t :: ts, b => by simp only [List.cons_append, T.shs, T.shs_append k ts b]
theorem T.shs_map (k : Int) : ∀ a : List T, T.shs k a = a.map (T.sh k)
  | [] => by simp only [T.shs, List.map_nil]
  | t :: ts => by simp only [List.map_cons, T.shs, T.shs_map k ts]
theorem T.sh_at (k : Int) (t : T) : (t.sh k).at_ = t.at_ + k := by
  cases t
  simp only [T.sh, T.at_]

/-- An end. -/
def EndTok (X : List Tok) : Prop := ∃ e Y, X = e :: Y ∧ e.kind = 0 ∧ (e.text.toList == (bs [58]).toList) = false
/-- Tokens ahead of an end. -/
def Lv (X s : List Tok) : Prop := EndTok X ∧ ∃ p, s = p ++ X
theorem Lv.ne {X s : List Tok} (h : Lv X s) : ∃ t r, s = t :: r := by
  obtain ⟨⟨e, Y, rfl, _⟩, p, rfl⟩ := h
  cases p with
  | nil => exact ⟨e, Y, rfl⟩
  | cons t p => exact ⟨t, p ++ e :: Y, rfl⟩
theorem Lv.tail' {X : List Tok} {t : Tok} {s : List Tok} (h : Lv X (t :: s)) (hk : t.kind ≠ 0 ∨ (t.text.toList == (bs [58]).toList) = true) : Lv X s := by
  obtain ⟨⟨e, Y, rfl, h2, h3⟩, p, h1⟩ := h
  cases p with
  | nil =>
    cases h1
    rcases hk with hk | hk
    · exact (hk h2).elim
    · rw [h3] at hk
      cases hk
  | cons u p =>
    cases h1
    exact ⟨⟨e, Y, rfl, h2, h3⟩, p, rfl⟩

section
variable {α β γ : Type} {X : List Tok} {k : Int} {G : List Tok → Prop}
abbrev shl (k : Int) (s : List Tok) : List Tok := s.map (Tok.sh k)

def NtG (X : List Tok) (G : List Tok → Prop) (k : Int) (g : α → α) (p p' : List Tok → PR α) : Prop := ∀ s, Lv X s → G s → match p s with
  | .ok a r => p' (shl k s) = .ok (g a) (shl k r) ∧ Lv X r ∧ r <:+ s
  | .err q e => p' (shl k s) = .err (q + k) e ∧ ∃ t ∈ s, t.at_ = q
abbrev Nt (X : List Tok) (k : Int) (g : α → α) (p p' : List Tok → PR α) : Prop := NtG X (fun _ => True) k g p p'

theorem NtG.weak {g : α → α} {p p' : List Tok → PR α} (h : Nt X k g p p') : NtG X G k g p p' := fun s hs _ => h s hs trivial
theorem NtG.bind {g : α → α} {g2 : β → β} {p p' : List Tok → PR α} {f f' : α → List Tok → PR β} (h : NtG X G k g p p') (hf : ∀ a, Nt X k g2 (f a) (f' (g a))) : NtG X G k g2 (fun s => (p s).bind f) (fun s => (p' s).bind f') := by
  intro s hs hG
  have h1 := h s hs hG
  show match (p s).bind f with | .ok a r => (p' (shl k s)).bind f' = .ok (g2 a) (shl k r) ∧ Lv X r ∧ r <:+ s | .err q e => (p' (shl k s)).bind f' = .err (q + k) e ∧ ∃ t ∈ s, t.at_ = q
  cases e : p s with
  | err q er =>
    rw [e] at h1
    rw [PR.err_bind]
    obtain ⟨h1, h2⟩ := h1
    simp only [h1, PR.err_bind]
    exact ⟨trivial, h2⟩
  | ok a r =>
    rw [e] at h1
    obtain ⟨h1, h2, h3⟩ := h1
    rw [PR.ok_bind, h1, PR.ok_bind]
    have h4 := hf a r h2 trivial
    cases e2 : f a r with
    | err q er =>
      rw [e2] at h4
      obtain ⟨h4, t, h5, h6⟩ := h4
      exact ⟨h4, t, h3.subset h5, h6⟩
    | ok b r2 =>
      rw [e2] at h4
      exact ⟨h4.1, h4.2.1, h4.2.2.trans h3⟩
theorem NtG.ok {g : α → α} (a : α) {b : α} (hb : b = g a) : NtG X G k g (fun s => .ok a s) (fun s => .ok b s) := by
  subst hb
  exact fun s hs _ => ⟨rfl, hs, List.suffix_refl _⟩
theorem atP_sh {s : List Tok} (h : Lv X s) : atP (shl k s) = atP s + k := by
  obtain ⟨t, r, rfl⟩ := h.ne
  rfl
theorem NtG.fail {g : α → α} {e : Int} : NtG X G k g (failP e) (failP e) := by
  intro s hs _
  refine ⟨?_, ?_⟩
  · simp only [failP, atP_sh hs]
  · obtain ⟨t, r, rfl⟩ := hs.ne
    exact ⟨t, List.mem_cons_self .., rfl⟩
theorem NtG.dep {g : α → α} {c : List Tok → γ} {p p' : γ → List Tok → PR α} (hc : ∀ s, c (shl k s) = c s) (h : ∀ v, NtG X (fun s => G s ∧ c s = v) k g (p v) (p' v)) : NtG X G k g (fun s => p (c s) s) (fun s => p' (c s) s) := by
  intro s hs hG
  have h1 := h (c s) s hs ⟨hG, rfl⟩
  have e : (fun s => p' (c s) s) (shl k s) = p' (c s) (shl k s) := by simp only [hc]
  rw [e]
  exact h1
theorem NtG.ite {g : α → α} {c : List Tok → Bool} {p p' q q' : List Tok → PR α} (hc : ∀ s, c (shl k s) = c s) (h : NtG X (fun s => G s ∧ c s = true) k g p p') (h' : NtG X (fun s => G s ∧ c s = false) k g q q') :
    NtG X G k g (fun s => if c s then p s else q s) (fun s => if c s then p' s else q' s) := by
  refine NtG.dep (p := fun b s => if b then p s else q s) (p' := fun b s => if b then p' s else q' s) hc (fun b => ?_)
  cases b with
  | true => simpa using h
  | false => simpa using h'
theorem NtG.at {g : α → α} {p p' : Int → List Tok → PR α} (h : ∀ v, NtG X G k g (p v) (p' (v + k))) : NtG X G k g (fun s => p (atP s) s) (fun s => p' (atP s) s) := by
  intro s hs hG
  have h1 := h (atP s) s hs hG
  have e : (fun s => p' (atP s) s) (shl k s) = p' (atP s + k) (shl k s) := by simp only [atP_sh hs]
  rw [e]
  exact h1
theorem NtG.tail {g : α → α} {p p' : List Tok → PR α} (hG : ∀ t r, G (t :: r) → t.kind ≠ 0) (h : Nt X k g p p') : NtG X G k g (fun s => p s.tail) (fun s => p' s.tail) := by
  intro s hs hg
  obtain ⟨t, r, rfl⟩ := hs.ne
  have h1 := h r (hs.tail' (.inl (hG t r hg))) trivial
  simp only [List.tail_cons, List.map_cons]
  cases e : p r with
  | ok a r2 =>
    rw [e] at h1
    exact ⟨h1.1, h1.2.1, h1.2.2.trans (List.suffix_cons _ _)⟩
  | err q er =>
    rw [e] at h1
    obtain ⟨h1, u, h2, h3⟩ := h1
    exact ⟨h1, u, List.mem_cons_of_mem _ h2, h3⟩
theorem NtG.tok {g : α → α} {f f' : Tok → List Tok → PR α} (hG : ∀ t r, G (t :: r) → t.kind ≠ 0 ∨ (t.text.toList == (bs [58]).toList) = true) (h : ∀ t, NtG X (fun s => G (t :: s)) k g (f t) (f' (t.sh k))) : NtG X G k g (tokK f) (tokK f') := by
  intro s hs hg
  obtain ⟨t, r, rfl⟩ := hs.ne
  have h1 := h t r (hs.tail' (hG t r hg)) hg
  simp only [tokK, List.map_cons]
  cases e : f t r with
  | ok a r2 =>
    rw [e] at h1
    exact ⟨h1.1, h1.2.1, h1.2.2.trans (List.suffix_cons _ _)⟩
  | err q er =>
    rw [e] at h1
    obtain ⟨h1, u, h2, h3⟩ := h1
    exact ⟨h1, u, List.mem_cons_of_mem _ h2, h3⟩

theorem sees_sh (x : ByteArray) (s : List Tok) : seesB x (shl k s) = seesB x s := by
  cases s <;> rfl
theorem name_sh (s : List Tok) : isName (shl k s) = isName s := by
  cases s <;> rfl
theorem arrow_sh (s : List Tok) : arrowP (shl k s) = arrowP s := by
  unfold arrowP
  rw [sees_sh, sees_sh]
theorem binds_sh (s : List Tok) : bindsP (shl k s) = bindsP s := by
  match s with
  | [] => rfl
  | [_] => rfl
  | [_, _] => rfl
  | a :: b :: c :: r => rfl
theorem sees_ne {x : ByteArray} {t : Tok} {r : List Tok} (h : seesB x (t :: r) = true) : t.kind ≠ 0 := by
  intro e
  simp [seesB, e] at h
theorem name_ne {t : Tok} {r : List Tok} (h : isName (t :: r) = true) : t.kind ≠ 0 := by
  intro e
  simp [isName, e] at h
theorem arrow_ne {t : Tok} {r : List Tok} {v : Int} (h : arrowP (t :: r) = v) (hv : (v == 0) = false) : t.kind ≠ 0 := by
  subst h
  unfold arrowP at hv
  split at hv
  · rename_i h; exact sees_ne h
  · split at hv
    · rename_i h; exact sees_ne h
    · cases hv

theorem wantP_nt (x : ByteArray) : NtG X G k id (wantP x) (wantP x) :=
  NtG.ite (p := fun s => .ok () s.tail) (p' := fun s => .ok () s.tail) (q := failP 61) (q' := failP 61) (sees_sh x) (NtG.tail (p := fun s => .ok () s) (p' := fun s => .ok () s) (fun _t _r h => sees_ne h.2) (NtG.ok () rfl)) NtG.fail
theorem nameP_nt : NtG X G k id nameP nameP := by
  intro s hs _
  obtain ⟨t, r, rfl⟩ := hs.ne
  simp only [nameP, List.map_cons, Tok.sh]
  cases hk : t.kind == 1 with
  | true =>
    simp only [if_true]
    exact ⟨rfl, hs.tail' (.inl (fun e => by rw [e] at hk; cases hk)), List.suffix_cons _ _⟩
  | false =>
    simp only [Bool.false_eq_true, if_false]
    exact ⟨trivial, t, List.mem_cons_self .., rfl⟩
theorem namesT_nt : ∀ {s : List Tok}, Lv X s → namesT (shl k s) = ((namesT s).1, shl k (namesT s).2) ∧ Lv X (namesT s).2
  | [], h => by obtain ⟨t, r, h⟩ := h.ne; cases h
  | t :: s, h => by
    simp only [namesT, List.map_cons, Tok.sh]
    cases hk : t.kind == 1 with
    | true =>
      obtain ⟨h1, h2⟩ := namesT_nt (h.tail' (.inl (fun e => by rw [e] at hk; cases hk)))
      simp only [if_true]
      rw [h1]
      exact ⟨rfl, h2⟩
    | false => exact ⟨rfl, h⟩
theorem namesP_nt : NtG X G k id namesP namesP := by
  refine NtG.bind nameP_nt fun x => ?_
  intro s hs _
  obtain ⟨h1, h2⟩ := namesT_nt (k := k) hs
  refine ⟨?_, h2, namesT_suf s⟩
  show PR.ok (x :: (namesT (shl k s)).1) (namesT (shl k s)).2 = _
  rw [h1]
  rfl

variable {pd pt : List Tok → PR T}
theorem meetL_nt (h : Nt X k (T.sh k) pd pd) : ∀ (n : Nat) (x : T), Nt X k (T.sh k) (meetL pd n x) (meetL pd n (x.sh k))
  | 0, x => NtG.ok x rfl
  | n + 1, x => NtG.ite (sees_sh _) (NtG.tail (p := fun s => (pd s).bind _) (p' := fun s => (pd s).bind _) (fun t r h => sees_ne h.2) (NtG.bind h fun y => by
      have := meetL_nt h n (.mk 15 (bs []) [x, y] [] x.at_)
      simp only [T.sh, T.shs, ← T.sh_at] at this
      exact this)) (NtG.ok x rfl)
theorem meetP_nt (h : Nt X k (T.sh k) pd pd) : Nt X k (T.sh k) (meetP pd) (meetP pd) := NtG.bind h fun x => meetL_nt h rounds x
theorem joinL_nt (h : Nt X k (T.sh k) pd pd) : ∀ (n : Nat) (x : T), Nt X k (T.sh k) (joinL pd n x) (joinL pd n (x.sh k))
  | 0, x => NtG.ok x rfl
  | n + 1, x => NtG.ite (sees_sh _) (NtG.tail (p := fun s => (meetP pd s).bind _) (p' := fun s => (meetP pd s).bind _) (fun t r h => sees_ne h.2) (NtG.bind (meetP_nt h) fun y => by
      have := joinL_nt h n (.mk 14 (bs []) [x, y] [] x.at_)
      simp only [T.sh, T.shs, ← T.sh_at] at this
      exact this)) (NtG.ok x rfl)
theorem joinP_nt (h : Nt X k (T.sh k) pd pd) : Nt X k (T.sh k) (joinP pd) (joinP pd) := NtG.bind (meetP_nt h) fun x => joinL_nt h rounds x
theorem dimBody_nt (h : Nt X k (T.sh k) pd pd) : Nt X k (T.sh k) (dimBody pd) (dimBody pd) := by
  rw [dimAt_eq]
  refine NtG.at (fun v => ?_)
  refine NtG.ite name_sh (NtG.bind nameP_nt fun x => NtG.ok _ (by simp only [T.sh, T.shs]; rfl)) ?_
  refine NtG.ite (c := fun s => seesB (bs [48]) s || seesB (bs [49]) s) (fun s => by simp only [sees_sh]) (NtG.tok (fun t r hh => .inl ?_) fun t => NtG.ok _ (by simp only [T.sh, T.shs]; rfl)) ?_
  · rcases Bool.or_eq_true_iff.1 hh.2 with h | h <;> exact sees_ne h
  refine NtG.ite (sees_sh _) (NtG.tail (p := fun s => (pd s).bind _) (p' := fun s => (pd s).bind _) (fun t r h => sees_ne h.2) (NtG.bind h fun x => NtG.ok _ (by simp only [T.sh, T.shs]))) ?_
  exact NtG.bind (wantP_nt _) fun _ => NtG.bind (joinP_nt h) fun x => NtG.bind (wantP_nt _) fun _ => NtG.ok x rfl
theorem dimP_nt : ∀ d, Nt X k (T.sh k) (dimP d) (dimP d)
  | 0 => NtG.fail
  | d + 1 => dimBody_nt (dimP_nt d)

theorem faceL_nt : ∀ (n : Nat) (ks : List T), Nt X k (T.shs k) (faceL n ks) (faceL n (T.shs k ks))
  | 0, ks => NtG.ok ks rfl
  | n + 1, ks => by
    rw [faceL_eq, faceL_eq]
    refine NtG.at (fun v => ?_)
    refine NtG.bind (wantP_nt _) fun _ => NtG.bind nameP_nt fun x => NtG.bind (wantP_nt _) fun _ => ?_
    refine NtG.ite (c := fun s => seesB (bs [48]) s || seesB (bs [49]) s) (fun s => by simp only [sees_sh]) (NtG.tok (fun t r hh => .inl ?_) fun u => ?_) NtG.fail
    · rcases Bool.or_eq_true_iff.1 hh.2 with h | h <;> exact sees_ne h
    have e : T.shs k ks ++ [.mk 13 x [] [u.text] (v + k)] = T.shs k (ks ++ [.mk 13 x [] [u.text] v]) := by simp only [T.shs_append, T.shs, T.sh]
    refine NtG.bind (wantP_nt _) fun _ => NtG.ite (sees_sh _) ?_ (NtG.ok _ e)
    have := faceL_nt n (ks ++ [.mk 13 x [] [u.text] v])
    rw [← e] at this
    exact this.weak
theorem faceP_nt : Nt X k (T.sh k) faceP faceP := by
  have e : faceP = fun s => faceAt (atP s) s := rfl
  rw [e]
  refine NtG.at (fun v => ?_)
  have h1 : Nt X k (T.shs k) _ _ := faceL_nt rounds []
  have e : T.shs k [] = [] := by simp only [T.shs]
  rw [e] at h1
  exact NtG.ite (sees_sh _) (NtG.tail (p := fun s => .ok _ s) (p' := fun s => .ok _ s) (fun t r h => sees_ne h.2) (NtG.ok _ (by simp only [T.sh, T.shs])))
    (NtG.bind (NtG.weak h1) fun ks => NtG.ok _ (by simp only [T.sh]))
theorem elemP_nt (h : Nt X k (T.sh k) pt pt) : Nt X k (T.sh k) (elemP pt) (elemP pt) := by
  have e : elemP = fun pt s => elemAt pt (atP s) s := rfl
  rw [e]
  refine NtG.at (fun v => ?_)
  exact NtG.bind faceP_nt fun e => NtG.ite (sees_sh _) (NtG.tail (p := fun s => (pt s).bind _) (p' := fun s => (pt s).bind _) (fun t r h => sees_ne h.2) (NtG.bind h fun y => NtG.ok _ (by simp only [T.sh, T.shs])))
    (NtG.ok _ (by simp only [T.sh, T.shs]))
theorem shs_empty (ks : List T) : (T.shs k ks).isEmpty = ks.isEmpty := by cases ks <;> rfl
theorem boxL_nt (h : Nt X k (T.sh k) pt pt) : ∀ (n : Nat) (ks : List T), Nt X k (T.shs k) (boxL pt n ks) (boxL pt n (T.shs k ks))
  | 0, ks => NtG.ok ks rfl
  | n + 1, ks => by
    refine NtG.ite (sees_sh _) (NtG.tail (p := fun s => .ok _ s) (p' := fun s => .ok _ s) (fun t r h => sees_ne h.2) (NtG.ok _ rfl)) ?_
    refine NtG.bind (g := id) ?_ fun _ => NtG.bind (elemP_nt h) fun e => ?_
    · rw [shs_empty]
      cases ks.isEmpty with
      | true => exact NtG.ok () rfl
      | false => exact wantP_nt _
    · have := boxL_nt h n (ks ++ [e])
      simp only [T.shs_append, T.shs] at this
      exact this
theorem boxAt_nt (h : Nt X k (T.sh k) pt pt) (v : Int) (hG : ∀ t r, G (t :: r) → t.kind ≠ 0) : NtG X G k (T.sh k) (boxAt pt v) (boxAt pt (v + k)) := by
  have h1 := boxL_nt h rounds []
  have e : T.shs k [] = [] := by simp only [T.shs]
  rw [e] at h1
  exact NtG.tail (p := fun s => (boxL pt rounds [] s).bind _) (p' := fun s => (boxL pt rounds [] s).bind _) hG (NtG.bind h1 fun ks => NtG.ok _ (by simp only [T.sh]))
theorem pairP_nt (h : Nt X k (T.sh k) pt pt) (p : Int) (x : T) : Nt X k (T.sh k) (pairP pt p x) (pairP pt (p + k) (x.sh k)) :=
  NtG.ite (sees_sh _) (NtG.tail (p := fun s => (pt s).bind _) (p' := fun s => (pt s).bind _) (fun t r h => sees_ne h.2) (NtG.bind h fun y => NtG.ok _ (by simp only [T.sh, T.shs])))
    (NtG.ite (sees_sh _) (NtG.tail (p := fun s => (pt s).bind _) (p' := fun s => (pt s).bind _) (fun t r h => sees_ne h.2) (NtG.bind h fun y => NtG.ok _ (by simp only [T.sh, T.shs]))) (NtG.ok _ rfl))
theorem atomP_nt (h : Nt X k (T.sh k) pt pt) : Nt X k (T.sh k) (atomP pt) (atomP pt) := by
  have e : atomP = fun pt s => atomAt pt (atP s) s := rfl
  rw [e]
  refine NtG.at (fun v => ?_)
  refine NtG.ite name_sh (NtG.bind nameP_nt fun x => NtG.ok _ (by simp only [T.sh, T.shs]; rfl)) ?_
  refine NtG.ite (sees_sh _) (boxAt_nt h v (fun t r h => sees_ne h.2)) ?_
  exact NtG.bind (wantP_nt _) fun _ => NtG.bind h fun x => NtG.bind (pairP_nt h v x) fun y => NtG.bind (wantP_nt _) fun _ => NtG.ok y rfl
theorem afterL_nt (hd : Nt X k (T.sh k) pd pd) (h : Nt X k (T.sh k) pt pt) : ∀ (n : Nat) (x : T), Nt X k (T.sh k) (afterL pd pt n x) (afterL pd pt n (x.sh k))
  | 0, x => NtG.ok x rfl
  | n + 1, x => by
    refine NtG.ite (sees_sh _) (NtG.tail (p := fun s => (pd s).bind _) (p' := fun s => (pd s).bind _) (fun t r h => sees_ne h.2) (NtG.bind hd fun y => ?_)) ?_
    · have := afterL_nt hd h n (.mk 7 (bs []) [x, y] [] x.at_)
      simp only [T.sh, T.shs, ← T.sh_at] at this
      exact this
    refine NtG.ite (c := fun s => isName s || (seesB (bs [40]) s || seesB (bs [91]) s)) (fun s => by simp only [sees_sh, name_sh]) (NtG.bind (NtG.weak (atomP_nt h)) fun y => ?_) ?_
    · have := afterL_nt hd h n (.mk 6 (bs []) [x, y] [] x.at_)
      simp only [T.sh, T.shs, ← T.sh_at] at this
      exact this
    refine NtG.dep (c := arrowP) (p := fun v s => if v == 0 then .ok x s else (pt s.tail).bind fun y r => .ok (.mk v (bs []) [x, y] [] x.at_) r) (p' := fun v s => if v == 0 then .ok (x.sh k) s else (pt s.tail).bind fun y r => .ok (.mk v (bs []) [x.sh k, y] [] (x.sh k).at_) r)
      arrow_sh (fun v => ?_)
    cases hv : v == 0 with
    | true => exact NtG.ok x rfl
    | false => exact NtG.tail (p := fun s => (pt s).bind _) (p' := fun s => (pt s).bind _) (fun t r h => arrow_ne h.2 hv) (NtG.bind h fun y => NtG.ok _ (by simp only [T.sh, T.shs, T.sh_at]))
theorem lamAt_nt (h : Nt X k (T.sh k) pt pt) (d : Int) (sign : List UInt8) (v : Int) (hG : ∀ t r, G (t :: r) → t.kind ≠ 0) : NtG X G k (T.sh k) (lamAt pt d sign v) (lamAt pt d sign (v + k)) :=
  NtG.tail (p := fun s => (namesP s).bind _) (p' := fun s => (namesP s).bind _) hG (NtG.bind namesP_nt fun ns => NtG.bind (wantP_nt _) fun _ => NtG.bind h fun x => NtG.ok _ (by simp only [T.sh, T.shs, id]))
def pisKn (n : Nat) (pd pt : List Tok → PR T) (o x : Tok) (r : List Tok) : PR T := (pt r).bind fun a r => (wantP (bs [41]) r).bind fun _ r =>
    if arrowP r == 0 then afterL pd pt n (.mk 9 (bs []) [.mk 1 x.text [] [] x.at_, a] [] o.at_) r
    else (pt r.tail).bind fun b r' => .ok (.mk (arrowP r) (bs []) [a, b] [x.text] o.at_) r'
theorem pisKn_nt (hd : Nt X k (T.sh k) pd pd) (h : Nt X k (T.sh k) pt pt) (n : Nat) (o x : Tok) : Nt X k (T.sh k) (pisKn n pd pt o x) (pisKn n pd pt (o.sh k) (x.sh k)) := by
  refine NtG.bind h fun a => NtG.bind (wantP_nt _) fun _ => ?_
  refine NtG.dep (c := arrowP) (p := fun v s => if v == 0 then afterL pd pt n (.mk 9 (bs []) [.mk 1 x.text [] [] x.at_, a] [] o.at_) s else (pt s.tail).bind fun b r' => .ok (.mk v (bs []) [a, b] [x.text] o.at_) r')
    (p' := fun v s => if v == 0 then afterL pd pt n (.mk 9 (bs []) [.mk 1 (x.sh k).text [] [] (x.sh k).at_, a.sh k] [] (o.sh k).at_) s else (pt s.tail).bind fun b r' => .ok (.mk v (bs []) [a.sh k, b] [(x.sh k).text] (o.sh k).at_) r') arrow_sh (fun v => ?_)
  cases hv : v == 0 with
  | true =>
    have := afterL_nt hd h n (.mk 9 (bs []) [.mk 1 x.text [] [] x.at_, a] [] o.at_)
    simp only [T.sh, T.shs] at this
    exact this.weak
  | false => exact NtG.tail (p := fun s => (pt s).bind _) (p' := fun s => (pt s).bind _) (fun t r h => arrow_ne h.2 hv) (NtG.bind h fun y => NtG.ok _ (by simp only [T.sh, T.shs, Tok.sh]))
theorem pisP_nt (hd : Nt X k (T.sh k) pd pd) (h : Nt X k (T.sh k) pt pt) (hG : ∀ s, G s → bindsP s = true) : NtG X G k (T.sh k) (pisP pd pt) (pisP pd pt) := by
  have hb : ∀ s, bindsP s = true → ∃ o x c r, s = o :: x :: c :: r ∧ seesB (bs [40]) [o] = true ∧ (x.kind == 1) = true ∧ (c.text.toList == (bs [58]).toList) = true := by
    intro s hs
    unfold bindsP at hs
    split at hs
    · rename_i a b c r
      simp only [Bool.and_eq_true] at hs
      exact ⟨a, b, c, r, rfl, hs.1, hs.2.1, hs.2.2⟩
    · cases hs
  rw [pisP_eq]
  refine NtG.tok (fun t r hh => ?_) fun o => NtG.tok (fun t r hh => ?_) fun x => NtG.tok (fun t r hh => ?_) fun c => ?_
  · obtain ⟨_, _, _, _, e, h1, _⟩ := hb _ (hG _ hh)
    cases e
    exact .inl (sees_ne h1)
  · obtain ⟨_, _, _, _, e, _, h1, _⟩ := hb _ (hG _ hh)
    cases e
    exact .inl (fun e => by rw [e] at h1; cases h1)
  · obtain ⟨_, _, _, _, e, _, _, h1⟩ := hb _ (hG _ hh)
    cases e
    exact .inr h1
  exact NtG.weak (pisKn_nt hd h rounds o x)
theorem termBody_nt (hd : Nt X k (T.sh k) pd pd) (h : Nt X k (T.sh k) pt pt) : Nt X k (T.sh k) (termBody pd pt) (termBody pd pt) := by
  have e : termBody = fun pd pt s => termAt pd pt (atP s) s := rfl
  rw [e]
  refine NtG.at (fun v => ?_)
  refine NtG.ite (sees_sh _) (lamAt_nt h 2 _ v (fun t r h => sees_ne h.2)) ?_
  refine NtG.ite (sees_sh _) (lamAt_nt h 3 _ v (fun t r h => sees_ne h.2)) ?_
  refine NtG.ite binds_sh (pisP_nt hd h (fun s hs => hs.2)) ?_
  exact NtG.bind (NtG.weak (atomP_nt h)) fun x => afterL_nt hd h _ x
theorem termP_nt : ∀ d, Nt X k (T.sh k) (termP d) (termP d)
  | 0 => NtG.fail
  | d + 1 => termBody_nt (dimP_nt d) (termP_nt d)
def declAt (v : Int) (s : List Tok) : PR T := (nameP s).bind fun x r => (wantP (bs [58]) r).bind fun _ r => (termP 200 r).bind fun a r => (wantP (bs [61]) r).bind fun _ r =>
  (termP 200 r).bind fun b r => (wantP (bs [59]) r).bind fun _ r => .ok (.mk 18 x [a, b] [] v) r
theorem declP_nt : Nt X k (T.sh k) declP declP := by
  have e : declP = fun s => declAt (atP s) s := rfl
  rw [e]
  refine NtG.at (fun v => ?_)
  exact NtG.bind nameP_nt fun x => NtG.bind (wantP_nt _) fun _ => NtG.bind (termP_nt 200) fun a => NtG.bind (wantP_nt _) fun _ => NtG.bind (termP_nt 200) fun b => NtG.bind (wantP_nt _) fun _ => NtG.ok _ (by simp only [T.sh, T.shs, id])
end
end Go.Abs
