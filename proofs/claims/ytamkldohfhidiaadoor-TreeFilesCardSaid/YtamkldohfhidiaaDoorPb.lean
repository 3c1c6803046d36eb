import Derived.Test.YtamkldohfhidiaaDoorPa
namespace Go.Abs

/-! ### What is read hangs only on the tokens that are taken, and on where they end -/

/-- Tokens with which nothing that is read goes on. -/
structure Stop (E : List Tok) : Prop where
  hd : ∃ t r, E = t :: r ∧ (t.text.toList == (bs [58]).toList) = false
  nn : isName E = false
  ns : ∀ x ∈ ([[64], [40], [91], [45, 62], [42], [47, 92], [92, 47], [44], [58], [93], [49], [48], [126], [92], [60]] : List (List UInt8)), seesB (bs x) E = false

theorem Stop.ne {E : List Tok} (h : Stop E) : 0 < E.length := by
  obtain ⟨t, r, rfl, _⟩ := h.hd
  simp

section
variable {α β γ : Type} {X : Prop} {E E' : List Tok}

theorem suf_split {l E r : List Tok} (h : r <:+ l ++ E) (hl : E.length ≤ r.length) : ∃ l2, r = l2 ++ E ∧ l2 <:+ l := by
  obtain ⟨pre, h⟩ := h
  rcases List.append_eq_append_iff.1 h with ⟨c, h1, h2⟩ | ⟨c, h1, h2⟩
  · exact ⟨c, h2, ⟨pre, h1.symm⟩⟩
  · have := congrArg List.length h2
    rw [List.length_append] at this
    have hc : c = [] := List.eq_nil_of_length_eq_zero (by omega)
    subst hc
    exact ⟨[], by simpa using h2.symm, List.nil_suffix⟩

def Sim (X : Prop) (E E' : List Tok) (p p' : List Tok → PR α) : Prop := ∀ s a r, p s = .ok a r → r <:+ s ∧ ∀ l, s = l ++ E → E.length ≤ r.length →
  ∃ l2, r = l2 ++ E ∧ (p' (l ++ E') = .ok a (l2 ++ E') ∨ X ∧ ∃ q, p' (l ++ E') = .err q 62)

theorem Sim.bind {p p' : List Tok → PR α} {f f' : α → List Tok → PR β} (h : Sim X E E' p p') (hf : ∀ a, Sim X E E' (f a) (f' a)) : Sim X E E' (fun s => (p s).bind f) (fun s => (p' s).bind f') := by
  intro s b r hr
  obtain ⟨a, r1, h1, h2⟩ := PR.bind_ok.1 hr
  obtain ⟨s1, k1⟩ := h s a r1 h1
  obtain ⟨s2, k2⟩ := hf a r1 b r h2
  refine ⟨s2.trans s1, fun l hl hlen => ?_⟩
  obtain ⟨l1, e1, o1⟩ := k1 l hl (Nat.le_trans hlen s2.length_le)
  obtain ⟨l2, e2, o2⟩ := k2 l1 e1 hlen
  refine ⟨l2, e2, ?_⟩
  rcases o1 with o1 | ⟨hX, q, o1⟩
  · show (p' (l ++ E')).bind f' = _ ∨ X ∧ ∃ q, (p' (l ++ E')).bind f' = _
    rw [o1, PR.ok_bind]
    exact o2
  · exact .inr ⟨hX, q, by show (p' (l ++ E')).bind f' = _; rw [o1, PR.err_bind]⟩

theorem Sim.ok (a : α) : Sim X E E' (fun s => .ok a s) (fun s => .ok a s) := by
  intro s b r h
  cases h
  exact ⟨List.suffix_refl _, fun l hl _ => ⟨l, hl, .inl rfl⟩⟩
theorem Sim.bad {e q : Int} {p' : List Tok → PR α} : Sim X E E' (fun _ => .err q e) p' := fun _ _ _ h => (nomatch h)
theorem Sim.fail {e : Int} {p' : List Tok → PR α} : Sim X E E' (failP e) p' := fun _ _ _ h => (nomatch h)

theorem Sim.dep {c : List Tok → γ} {p p' : γ → List Tok → PR α} (hc : ∀ l, c (l ++ E) = c (l ++ E')) (h : ∀ v, Sim X E E' (p v) (p' v)) : Sim X E E' (fun s => p (c s) s) (fun s => p' (c s) s) := by
  intro s a r hr
  obtain ⟨h1, h2⟩ := h (c s) s a r hr
  refine ⟨h1, fun l hl hlen => ?_⟩
  obtain ⟨l2, e2, o2⟩ := h2 l hl hlen
  refine ⟨l2, e2, ?_⟩
  show p' (c (l ++ E')) (l ++ E') = _ ∨ X ∧ ∃ q, p' (c (l ++ E')) (l ++ E') = _
  rw [← hc, ← hl]
  rw [hl] at o2 ⊢
  exact o2
theorem Sim.ite {c : List Tok → Bool} {p p' q q' : List Tok → PR α} (hc : ∀ l, c (l ++ E) = c (l ++ E')) (h : Sim X E E' p p') (h' : Sim X E E' q q') :
    Sim X E E' (fun s => if c s then p s else q s) (fun s => if c s then p' s else q' s) := by
  refine Sim.dep (p := fun b s => if b then p s else q s) (p' := fun b s => if b then p' s else q' s) hc (fun b => ?_)
  cases b with
  | true => simpa using h
  | false => simpa using h'
/-- The place of what comes. -/
theorem Sim.at {p p' : Int → List Tok → PR α} (h : ∀ v, Sim X E E' (p v) (p' v)) (hs : Short fun s => p (atP s) s) : Sim X E E' (fun s => p (atP s) s) (fun s => p' (atP s) s) := by
  intro s a r hr
  obtain ⟨h1, h2⟩ := h (atP s) s a r hr
  refine ⟨h1, fun l hl hlen => ?_⟩
  obtain ⟨l2, e2, o2⟩ := h2 l hl hlen
  refine ⟨l2, e2, ?_⟩
  have hsh := hs s a r hr
  cases l with
  | nil =>
    exfalso
    rw [hl] at hsh
    simp at hsh
    omega
  | cons t l =>
    have e : atP (t :: l ++ E') = atP s := by rw [hl]; rfl
    show p' (atP (t :: l ++ E')) (t :: l ++ E') = _ ∨ X ∧ ∃ q, p' (atP (t :: l ++ E')) (t :: l ++ E') = _
    rw [e]
    exact o2
theorem Sim.tail {p p' : List Tok → PR α} (_hE : 0 < E.length) (h : Sim X E E' p p') : Sim X E E' (fun s => p s.tail) (fun s => p' s.tail) := by
  intro s a r hr
  obtain ⟨h1, h2⟩ := h s.tail a r hr
  refine ⟨h1.trans (List.tail_suffix _), fun l hl hlen => ?_⟩
  cases l with
  | nil =>
    exfalso
    have := h1.length_le
    rw [hl] at this
    simp at this
    omega
  | cons t l =>
    subst hl
    exact h2 l rfl hlen
/-- The token that comes is taken. -/
def tokK (f : Tok → List Tok → PR α) : List Tok → PR α
  | t :: r => f t r
  | [] => .err 0 0
theorem Sim.tok {f f' : Tok → List Tok → PR α} (_hE : 0 < E.length) (h : ∀ t, Sim X E E' (f t) (f' t)) : Sim X E E' (tokK f) (tokK f') := by
  intro s a r hr
  cases s with
  | nil => cases hr
  | cons t s =>
    obtain ⟨h1, h2⟩ := h t s a r hr
    refine ⟨h1.trans (List.suffix_cons _ _), fun l hl hlen => ?_⟩
    cases l with
    | nil =>
      exfalso
      have := h1.length_le
      have e := congrArg List.length hl
      simp at e
      omega
    | cons u l =>
      simp only [List.cons_append, List.cons.injEq] at hl
      obtain ⟨rfl, rfl⟩ := hl
      exact h2 l rfl hlen

theorem agree_sees {x : ByteArray} (h : seesB x E = false) (h' : seesB x E' = false) (l : List Tok) : seesB x (l ++ E) = seesB x (l ++ E') := by
  cases l with
  | nil => exact h.trans h'.symm
  | cons t l => rfl
theorem agree_name (h : isName E = false) (h' : isName E' = false) (l : List Tok) : isName (l ++ E) = isName (l ++ E') := by
  cases l with
  | nil => exact h.trans h'.symm
  | cons t l => rfl

theorem wantP_sim (x : ByteArray) : Sim X E E' (wantP x) (wantP x) := by
  intro s a r h
  unfold wantP at h
  split at h
  · rename_i hs
    obtain ⟨t, s2, rfl⟩ := seesB_cons hs
    cases h
    refine ⟨List.suffix_cons _ _, fun l hl hlen => ?_⟩
    cases l with
    | nil =>
      exfalso
      have e := congrArg List.length hl
      simp at e hlen
      omega
    | cons u l =>
      simp only [List.cons_append, List.cons.injEq] at hl
      obtain ⟨rfl, rfl⟩ := hl
      refine ⟨l, rfl, .inl ?_⟩
      have : seesB x (t :: (l ++ E')) = true := hs
      simp only [wantP, List.cons_append, this, if_true, List.tail_cons]
  · cases h
theorem nameP_sim : Sim X E E' nameP nameP := by
  intro s a r h
  cases s with
  | nil => cases h
  | cons t s2 =>
    simp only [nameP] at h
    split at h
    · rename_i hk
      cases h
      refine ⟨List.suffix_cons _ _, fun l hl hlen => ?_⟩
      cases l with
      | nil =>
        exfalso
        have e := congrArg List.length hl
        simp at e
        omega
      | cons u l =>
        simp only [List.cons_append, List.cons.injEq] at hl
        obtain ⟨rfl, rfl⟩ := hl
        refine ⟨l, rfl, .inl ?_⟩
        simp only [nameP, List.cons_append, hk, if_true]
    · cases h
theorem namesT_suf : ∀ s : List Tok, (namesT s).2 <:+ s
  | [] => List.suffix_refl _
  | t :: s => by
    simp only [namesT]
    split
    · exact (namesT_suf s).trans (List.suffix_cons _ _)
    · exact List.suffix_refl _
theorem namesT_sim (h : isName E = false) (h' : isName E' = false) : ∀ l : List Tok, ∃ n l2, namesT (l ++ E) = (n, l2 ++ E) ∧ namesT (l ++ E') = (n, l2 ++ E')
  | [] => by
    have key : ∀ E : List Tok, isName E = false → namesT E = ([], E) := by
      intro E h
      cases E with
      | nil => rfl
      | cons t r =>
        have h : (t.kind == 1) = false := h
        simp only [namesT, h, Bool.false_eq_true, if_false]
    exact ⟨[], [], by simpa using key E h, by simpa using key E' h'⟩
  | t :: l => by
    obtain ⟨n, l2, h1, h2⟩ := namesT_sim h h' l
    simp only [List.cons_append, namesT, h1, h2]
    cases t.kind == 1 with
    | true => exact ⟨_, l2, rfl, rfl⟩
    | false => exact ⟨[], t :: l, rfl, rfl⟩
theorem namesP_sim (h : Stop E) (h' : Stop E') : Sim X E E' namesP namesP := by
  refine Sim.bind nameP_sim (fun x => ?_)
  intro s a r hr
  cases hr
  refine ⟨namesT_suf s, fun l hl _ => ?_⟩
  obtain ⟨n, l2, h1, h2⟩ := namesT_sim h.nn h'.nn l
  subst hl
  rw [h1]
  refine ⟨l2, rfl, .inl ?_⟩
  show PR.ok (x :: (namesT (l ++ E')).1) (namesT (l ++ E')).2 = _
  rw [h2]

end

section
variable {X : Prop} {E E' : List Tok} (hE : Stop E) (hE' : Stop E') {pd pd' pt pt' : List Tok → PR T}
 include hE hE'

theorem stop_sees {x : List UInt8} (hx : x ∈ ([[64], [40], [91], [45, 62], [42], [47, 92], [92, 47], [44], [58], [93], [49], [48], [126], [92], [60]] : List (List UInt8))) (l : List Tok) : seesB (bs x) (l ++ E) = seesB (bs x) (l ++ E') :=
  agree_sees (hE.ns x hx) (hE'.ns x hx) l
theorem stop_name (l : List Tok) : isName (l ++ E) = isName (l ++ E') := agree_name hE.nn hE'.nn l
theorem stop_arrow (l : List Tok) : arrowP (l ++ E) = arrowP (l ++ E') := by
  unfold arrowP
  rw [stop_sees hE hE' (x := [45, 62]) (by simp) l, stop_sees hE hE' (x := [42]) (by simp) l]
theorem stop_binds (l : List Tok) : bindsP (l ++ E) = bindsP (l ++ E') := by
  obtain ⟨t, r, rfl, h1⟩ := hE.hd
  obtain ⟨t', r', rfl, h1'⟩ := hE'.hd
  have n1 : (t.kind == 1) = false := hE.nn
  have n2 : (t'.kind == 1) = false := hE'.nn
  have s1 : seesB (bs [40]) [t] = false := hE.ns [40] (by simp)
  have s2 : seesB (bs [40]) [t'] = false := hE'.ns [40] (by simp)
  match l with
  | [] => 
    simp only [List.nil_append]
    have e1 : bindsP (t :: r) = false := by
      unfold bindsP
      split
      · rename_i heq
        cases heq
        rw [s1]
        rfl
      · rfl
    have e2 : bindsP (t' :: r') = false := by
      unfold bindsP
      split
      · rename_i heq
        cases heq
        rw [s2]
        rfl
      · rfl
    rw [e1, e2]
  | [a] =>
    simp only [List.cons_append, List.nil_append]
    have e1 : bindsP (a :: t :: r) = false := by
      unfold bindsP
      split
      · rename_i heq
        cases heq
        simp [n1]
      · rfl
    have e2 : bindsP (a :: t' :: r') = false := by
      unfold bindsP
      split
      · rename_i heq
        cases heq
        simp [n2]
      · rfl
    rw [e1, e2]
  | [a, b] =>
    simp only [List.cons_append, List.nil_append, bindsP, h1, h1', Bool.and_false]
  | a :: b :: c :: l => rfl

theorem meetL_sim (h : Sim X E E' pd pd') : ∀ (n : Nat) (x : T), Sim X E E' (meetL pd n x) (meetL pd' n x)
  | 0, x => Sim.ok x
  | n + 1, x => Sim.ite (stop_sees hE hE' (by simp)) (Sim.tail (p := fun s => (pd s).bind _) (p' := fun s => (pd' s).bind _) hE.ne (Sim.bind h fun y => meetL_sim h n _)) (Sim.ok x)
theorem meetP_sim (h : Sim X E E' pd pd') : Sim X E E' (meetP pd) (meetP pd') := Sim.bind h fun x => meetL_sim hE hE' h rounds x
theorem joinL_sim (h : Sim X E E' pd pd') : ∀ (n : Nat) (x : T), Sim X E E' (joinL pd n x) (joinL pd' n x)
  | 0, x => Sim.ok x
  | n + 1, x => Sim.ite (stop_sees hE hE' (by simp)) (Sim.tail (p := fun s => (meetP pd s).bind _) (p' := fun s => (meetP pd' s).bind _) hE.ne (Sim.bind (meetP_sim hE hE' h) fun y => joinL_sim h n _)) (Sim.ok x)
theorem joinP_sim (h : Sim X E E' pd pd') : Sim X E E' (joinP pd) (joinP pd') := Sim.bind (meetP_sim hE hE' h) fun x => joinL_sim hE hE' h rounds x

end

/-- The same, at a place. -/
def dimAt (pd : List Tok → PR T) (v : Int) (s : List Tok) : PR T :=
  if isName s then (nameP s).bind fun x r => .ok (.mk 1 x [] [] v) r
  else if seesB (bs [48]) s || seesB (bs [49]) s then tokK (fun t r => .ok (.mk 17 t.text [] [] v) r) s
  else if seesB (bs [126]) s then (pd s.tail).bind fun x r => .ok (.mk 16 (bs []) [x] [] v) r
  else (wantP (bs [40]) s).bind fun _ r => (joinP pd r).bind fun x r => (wantP (bs [41]) r).bind fun _ r => .ok x r
theorem dimAt_eq (pd : List Tok → PR T) : dimBody pd = fun s => dimAt pd (atP s) s := by
  funext s
  cases s <;> rfl

section
variable {X : Prop} {E E' : List Tok} (hE : Stop E) (hE' : Stop E') {pd pd' pt pt' : List Tok → PR T}
 include hE hE'

theorem dimBody_sim (hs : Short pd) (h : Sim X E E' pd pd') : Sim X E E' (dimBody pd) (dimBody pd') := by
  have hsh := dimBody_short hs
  rw [dimAt_eq] at hsh ⊢
  rw [dimAt_eq]
  refine Sim.at (fun v => ?_) hsh
  refine Sim.ite (stop_name hE hE') (Sim.bind nameP_sim fun x => Sim.ok _) ?_
  refine Sim.ite (c := fun s => seesB (bs [48]) s || seesB (bs [49]) s) (fun l => by simp only [stop_sees hE hE' (x := [48]) (by simp) l, stop_sees hE hE' (x := [49]) (by simp) l]) (Sim.tok hE.ne fun t => Sim.ok _) ?_
  refine Sim.ite (stop_sees hE hE' (by simp)) (Sim.tail (p := fun s => (pd s).bind _) (p' := fun s => (pd' s).bind _) hE.ne (Sim.bind h fun x => Sim.ok _)) ?_
  exact Sim.bind (wantP_sim _) fun _ => Sim.bind (joinP_sim hE hE' h) fun x => Sim.bind (wantP_sim _) fun _ => Sim.ok x
theorem dimP_self : ∀ d, Sim X E E' (dimP d) (dimP d)
  | 0 => Sim.fail
  | d + 1 => dimBody_sim hE hE' (dimP_short d) (dimP_self d)
theorem dimP_sim (hX : X) : ∀ d d', Sim X E E' (dimP d) (dimP d')
  | 0, _ => Sim.fail
  | d + 1, 0 => by
    intro s a r h
    obtain ⟨h1, h2⟩ := dimP_self (X := X) hE hE' (d + 1) s a r h
    refine ⟨h1, fun l hl hlen => ?_⟩
    obtain ⟨l2, h3, _⟩ := h2 l hl hlen
    exact ⟨l2, h3, .inr ⟨hX, _, rfl⟩⟩
  | d + 1, d' + 1 => dimBody_sim hE hE' (dimP_short d) (dimP_sim hX d d')

end
end Go.Abs
