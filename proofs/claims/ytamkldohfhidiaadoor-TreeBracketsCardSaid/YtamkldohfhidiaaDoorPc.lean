import Derived.Test.YtamkldohfhidiaaDoorPb
namespace Go.Abs

section
variable {X : Prop} {E E' : List Tok} (hE : Stop E) (hE' : Stop E') {pd pd' pt pt' : List Tok → PR T}
 include hE hE'

def faceStep (rec : List T → List Tok → PR (List T)) (ks : List T) (v : Int) (s : List Tok) : PR (List T) :=
  (wantP (bs [40]) s).bind fun _ r => (nameP r).bind fun x r => (wantP (bs [61]) r).bind fun _ r =>
    if seesB (bs [48]) r || seesB (bs [49]) r then tokK (fun u r => (wantP (bs [41]) r).bind fun _ r => if seesB (bs [40]) r then rec (ks ++ [.mk 13 x [] [u.text] v]) r else .ok (ks ++ [.mk 13 x [] [u.text] v]) r) r
    else failP 61 r
 omit hE hE' in
theorem faceL_eq (n : Nat) (ks : List T) : faceL (n + 1) ks = fun s => faceStep (faceL n) ks (atP s) s := by
  funext s
  unfold faceL faceStep
  refine congrArg _ (funext fun _ => funext fun r => congrArg _ (funext fun x => funext fun r => congrArg _ (funext fun _ => funext fun r => ?_)))
  split
  · cases r <;> rfl
  · rfl
theorem faceL_sim : ∀ (n : Nat) (ks : List T), Sim X E E' (faceL n ks) (faceL n ks)
  | 0, ks => Sim.ok ks
  | n + 1, ks => by
    have hsh : Short (faceL (n + 1) ks) := fun s x r h => faceL_short n ks s x r h
    rw [faceL_eq] at hsh ⊢
    refine Sim.at (fun v => ?_) hsh
    refine Sim.bind (wantP_sim _) fun _ => Sim.bind nameP_sim fun x => Sim.bind (wantP_sim _) fun _ => ?_
    refine Sim.ite (c := fun s => seesB (bs [48]) s || seesB (bs [49]) s) (fun l => by simp only [stop_sees hE hE' (x := [48]) (by simp) l, stop_sees hE hE' (x := [49]) (by simp) l]) (Sim.tok hE.ne fun u => ?_) Sim.fail
    exact Sim.bind (wantP_sim _) fun _ => Sim.ite (stop_sees hE hE' (by simp)) (faceL_sim n _) (Sim.ok _)
def faceAt (v : Int) (s : List Tok) : PR T := if seesB (bs [49]) s then .ok (.mk 12 (bs []) [] [] v) s.tail else (faceL rounds [] s).bind fun ks r => .ok (.mk 12 (bs []) ks [] v) r
theorem faceP_sim : Sim X E E' faceP faceP := by
  have hsh := faceP_short
  have e : faceP = fun s => faceAt (atP s) s := rfl
  rw [e] at hsh ⊢
  refine Sim.at (fun v => ?_) hsh
  exact Sim.ite (stop_sees hE hE' (by simp)) (Sim.tail (p := fun s => .ok _ s) (p' := fun s => .ok _ s) hE.ne (Sim.ok _)) (Sim.bind (faceL_sim hE hE' _ _) fun ks => Sim.ok _)
def elemAt (pt : List Tok → PR T) (v : Int) (s : List Tok) : PR T := (faceP s).bind fun e r =>
  if seesB (bs [45, 62]) r then (pt r.tail).bind fun y r => .ok (.mk 11 (bs []) [e, y] [] v) r else .ok (.mk 11 (bs []) [e] [] v) r
theorem elemP_sim (ht : Short pt) (h : Sim X E E' pt pt') : Sim X E E' (elemP pt) (elemP pt') := by
  have hsh := elemP_short ht
  have e : elemP = fun pt s => elemAt pt (atP s) s := rfl
  rw [e] at hsh ⊢
  refine Sim.at (fun v => ?_) hsh
  exact Sim.bind (faceP_sim hE hE') fun e => Sim.ite (stop_sees hE hE' (by simp)) (Sim.tail (p := fun s => (pt s).bind _) (p' := fun s => (pt' s).bind _) hE.ne (Sim.bind h fun y => Sim.ok _)) (Sim.ok _)
theorem boxL_sim (ht : Short pt) (h : Sim X E E' pt pt') : ∀ (n : Nat) (ks : List T), Sim X E E' (boxL pt n ks) (boxL pt' n ks)
  | 0, ks => Sim.ok ks
  | n + 1, ks => by
    refine Sim.ite (stop_sees hE hE' (by simp)) (Sim.tail (p := fun s => .ok _ s) (p' := fun s => .ok _ s) hE.ne (Sim.ok _)) ?_
    refine Sim.bind ?_ fun _ => Sim.bind (elemP_sim hE hE' ht h) fun e => boxL_sim ht h n _
    cases ks.isEmpty with
    | true => exact Sim.ok ()
    | false => exact wantP_sim _
def boxAt (pt : List Tok → PR T) (v : Int) (s : List Tok) : PR T := (boxL pt rounds [] s.tail).bind fun ks r => .ok (.mk 10 (bs []) ks [] v) r
theorem boxAt_sim (ht : Short pt) (h : Sim X E E' pt pt') (v : Int) : Sim X E E' (boxAt pt v) (boxAt pt' v) :=
  Sim.tail (p := fun s => (boxL pt rounds [] s).bind _) (p' := fun s => (boxL pt' rounds [] s).bind _) hE.ne (Sim.bind (boxL_sim hE hE' ht h _ _) fun _ks => Sim.ok _)
theorem pairP_sim (h : Sim X E E' pt pt') (p : Int) (x : T) : Sim X E E' (pairP pt p x) (pairP pt' p x) :=
  Sim.ite (stop_sees hE hE' (by simp)) (Sim.tail (p := fun s => (pt s).bind _) (p' := fun s => (pt' s).bind _) hE.ne (Sim.bind h fun y => Sim.ok _))
    (Sim.ite (stop_sees hE hE' (by simp)) (Sim.tail (p := fun s => (pt s).bind _) (p' := fun s => (pt' s).bind _) hE.ne (Sim.bind h fun y => Sim.ok _)) (Sim.ok _))
def atomAt (pt : List Tok → PR T) (v : Int) (s : List Tok) : PR T :=
  if isName s then (nameP s).bind fun x r => .ok (.mk 1 x [] [] v) r
  else if seesB (bs [91]) s then boxAt pt v s
  else (wantP (bs [40]) s).bind fun _ r => (pt r).bind fun x r => (pairP pt v x r).bind fun x r => (wantP (bs [41]) r).bind fun _ r => .ok x r
theorem atomP_sim (ht : Short pt) (h : Sim X E E' pt pt') : Sim X E E' (atomP pt) (atomP pt') := by
  have hsh := atomP_short ht
  have e : atomP = fun pt s => atomAt pt (atP s) s := rfl
  rw [e] at hsh ⊢
  refine Sim.at (fun v => ?_) hsh
  refine Sim.ite (stop_name hE hE') (Sim.bind nameP_sim fun x => Sim.ok _) ?_
  refine Sim.ite (stop_sees hE hE' (by simp)) (boxAt_sim hE hE' ht h v) ?_
  exact Sim.bind (wantP_sim _) fun _ => Sim.bind h fun x => Sim.bind (pairP_sim hE hE' h v x) fun y => Sim.bind (wantP_sim _) fun _ => Sim.ok y
theorem afterL_sim (hd : Sim X E E' pd pd') (ht : Short pt) (h : Sim X E E' pt pt') : ∀ (n : Nat) (x : T), Sim X E E' (afterL pd pt n x) (afterL pd' pt' n x)
  | 0, x => Sim.ok x
  | n + 1, x => by
    refine Sim.ite (stop_sees hE hE' (by simp)) (Sim.tail (p := fun s => (pd s).bind _) (p' := fun s => (pd' s).bind _) hE.ne (Sim.bind hd fun y => afterL_sim hd ht h n _)) ?_
    refine Sim.ite (c := fun s => isName s || (seesB (bs [40]) s || seesB (bs [91]) s)) (fun l => by simp only [stop_name hE hE', stop_sees hE hE' (x := [40]) (by simp) l, stop_sees hE hE' (x := [91]) (by simp) l])
      (Sim.bind (atomP_sim hE hE' ht h) fun y => afterL_sim hd ht h n _) ?_
    refine Sim.dep (c := arrowP) (p := fun v s => if v == 0 then .ok x s else (pt s.tail).bind fun y r => .ok (.mk v (bs []) [x, y] [] x.at_) r) (p' := fun v s => if v == 0 then .ok x s else (pt' s.tail).bind fun y r => .ok (.mk v (bs []) [x, y] [] x.at_) r)
      (stop_arrow hE hE') (fun v => ?_)
    cases v == 0 with
    | true => exact Sim.ok x
    | false => exact Sim.tail (p := fun s => (pt s).bind _) (p' := fun s => (pt' s).bind _) hE.ne (Sim.bind h fun y => Sim.ok _)
def lamAt (pt : List Tok → PR T) (k : Int) (sign : List UInt8) (v : Int) (s : List Tok) : PR T :=
  (namesP s.tail).bind fun ns r => (wantP (bs sign) r).bind fun _ r => (pt r).bind fun x r => .ok (.mk k (bs []) [x] ns v) r
theorem lamAt_sim (h : Sim X E E' pt pt') (k : Int) (sign : List UInt8) (v : Int) : Sim X E E' (lamAt pt k sign v) (lamAt pt' k sign v) :=
  Sim.tail (p := fun s => (namesP s).bind _) (p' := fun s => (namesP s).bind _) hE.ne (Sim.bind (namesP_sim hE hE') fun _ns => Sim.bind (wantP_sim _) fun _ => Sim.bind h fun _x => Sim.ok _)
def pisK (pd pt : List Tok → PR T) (o x : Tok) (r : List Tok) : PR T := (pt r).bind fun a r => (wantP (bs [41]) r).bind fun _ r =>
    if arrowP r == 0 then afterL pd pt rounds (.mk 9 (bs []) [.mk 1 x.text [] [] x.at_, a] [] o.at_) r
    else (pt r.tail).bind fun b r' => .ok (.mk (arrowP r) (bs []) [a, b] [x.text] o.at_) r'
 omit hE hE' in
theorem pisP_eq (pd pt : List Tok → PR T) : pisP pd pt = tokK fun o => tokK fun x => tokK fun _ => pisK pd pt o x := by
  funext s
  match s with
  | [] => rfl
  | [_] => rfl
  | [_, _] => rfl
  | o :: x :: c :: r => rfl
theorem pisP_sim (hd : Sim X E E' pd pd') (ht : Short pt) (h : Sim X E E' pt pt') : Sim X E E' (pisP pd pt) (pisP pd' pt') := by
  rw [pisP_eq, pisP_eq]
  refine Sim.tok hE.ne fun o => Sim.tok hE.ne fun x => Sim.tok hE.ne fun _ => ?_
  refine Sim.bind h fun a => Sim.bind (wantP_sim _) fun _ => ?_
  refine Sim.dep (c := arrowP) (p := fun v s => if v == 0 then afterL pd pt rounds (.mk 9 (bs []) [.mk 1 x.text [] [] x.at_, a] [] o.at_) s else (pt s.tail).bind fun b r' => .ok (.mk v (bs []) [a, b] [x.text] o.at_) r')
    (p' := fun v s => if v == 0 then afterL pd' pt' rounds (.mk 9 (bs []) [.mk 1 x.text [] [] x.at_, a] [] o.at_) s else (pt' s.tail).bind fun b r' => .ok (.mk v (bs []) [a, b] [x.text] o.at_) r') (stop_arrow hE hE') (fun v => ?_)
  cases v == 0 with
  | true => exact afterL_sim hE hE' hd ht h _ _
  | false => exact Sim.tail (p := fun s => (pt s).bind _) (p' := fun s => (pt' s).bind _) hE.ne (Sim.bind h fun y => Sim.ok _)
def termAt (pd pt : List Tok → PR T) (v : Int) (s : List Tok) : PR T :=
  if seesB (bs [92]) s then lamAt pt 2 [46] v s
  else if seesB (bs [60]) s then lamAt pt 3 [62] v s
  else if bindsP s then pisP pd pt s
  else (atomP pt s).bind fun x r => afterL pd pt rounds x r
theorem termBody_sim (hsd : Short pd) (hd : Sim X E E' pd pd') (ht : Short pt) (h : Sim X E E' pt pt') : Sim X E E' (termBody pd pt) (termBody pd' pt') := by
  have hsh := termBody_short hsd ht
  have e : termBody = fun pd pt s => termAt pd pt (atP s) s := rfl
  rw [e] at hsh ⊢
  refine Sim.at (fun v => ?_) hsh
  refine Sim.ite (stop_sees hE hE' (by simp)) (lamAt_sim hE hE' h 2 _ v) ?_
  refine Sim.ite (stop_sees hE hE' (by simp)) (lamAt_sim hE hE' h 3 _ v) ?_
  refine Sim.ite (stop_binds hE hE') (pisP_sim hE hE' hd ht h) ?_
  exact Sim.bind (atomP_sim hE hE' ht h) fun x => afterL_sim hE hE' hd ht h _ x
theorem termP_self : ∀ d, Sim X E E' (termP d) (termP d)
  | 0 => Sim.fail
  | d + 1 => termBody_sim hE hE' (dimP_short d) (dimP_self hE hE' d) (termP_short d) (termP_self d)
theorem termP_sim (hX : X) : ∀ d d', Sim X E E' (termP d) (termP d')
  | 0, _ => Sim.fail
  | d + 1, 0 => by
    intro s a r h
    obtain ⟨h1, h2⟩ := termP_self (X := X) hE hE' (d + 1) s a r h
    refine ⟨h1, fun l hl hlen => ?_⟩
    obtain ⟨l2, h3, _⟩ := h2 l hl hlen
    exact ⟨l2, h3, .inr ⟨hX, _, rfl⟩⟩
  | d + 1, d' + 1 => termBody_sim hE hE' (dimP_short d) (dimP_sim hE hE' hX d d') (termP_short d) (termP_sim hX d d')

 omit hE hE' in
theorem sim_nil {p p' : List Tok → PR T} (hs : Sim X E E' p p') {l : List Tok} {t : T} (h : p (l ++ E) = .ok t E) : p' (l ++ E') = .ok t E' ∨ X ∧ ∃ q, p' (l ++ E') = .err q 62 := by
  obtain ⟨_, h2⟩ := hs _ _ _ h
  obtain ⟨l2, h3, h4⟩ := h2 l rfl (Nat.le_refl _)
  have : l2 = [] := by
    have := congrArg List.length h3
    simp at this
    exact this
  subst this
  exact h4
end

section
variable {E E' : List Tok} (hE : Stop E) (hE' : Stop E')
 include hE hE'
/-- What is read up to a place where it may stop is read the same ahead of any other such place, if it is not too deep. -/
theorem termP_stop {d d' : Nat} {l : List Tok} {t : T} (h : termP d (l ++ E) = .ok t E) : termP d' (l ++ E') = .ok t E' ∨ ∃ q, termP d' (l ++ E') = .err q 62 :=
  (sim_nil (termP_sim (X := True) hE hE' trivial d d') h).imp id (fun h => h.2)
theorem termP_stop_self {d : Nat} {l : List Tok} {t : T} (h : termP d (l ++ E) = .ok t E) : termP d (l ++ E') = .ok t E' :=
  (sim_nil (termP_self (X := False) hE hE' d) h).elim id (fun h => h.1.elim)
end
end Go.Abs
