import Derived.Test.YtamkldohfhidiaaDoorPe
namespace Go.Abs

/-! ### A refusal has a number -/

section
variable {α β γ : Type} {pd pt : List Tok → PR T}
def Ec (p : List Tok → PR α) : Prop := ∀ s q g, p s = .err q g → g = 61 ∨ g = 62
theorem Ec.bind {p : List Tok → PR α} {f : α → List Tok → PR β} (h : Ec p) (hf : ∀ a, Ec (f a)) : Ec fun s => (p s).bind f := by
  intro s q g hh
  have hh : (p s).bind f = .err q g := hh
  cases e : p s with
  | ok a r =>
    rw [e, PR.ok_bind] at hh
    exact hf a _ _ _ hh
  | err q2 g2 =>
    rw [e, PR.err_bind] at hh
    cases hh
    exact h _ _ _ e
theorem Ec.ok (a : α) : Ec fun s => .ok a s := fun _ _ _ h => (nomatch h)
theorem Ec.fail {e : Int} (he : e = 61 ∨ e = 62) : Ec (failP e : List Tok → PR α) := fun _ _ _ h => by cases h; exact he
theorem Ec.tail {p : List Tok → PR α} (h : Ec p) : Ec fun s => p s.tail := fun s => h s.tail
theorem Ec.dep {c : List Tok → γ} {p : γ → List Tok → PR α} (h : ∀ v, Ec (p v)) : Ec fun s => p (c s) s := fun s => h (c s) s
theorem Ec.ite {c : List Tok → Bool} {p q : List Tok → PR α} (h : Ec p) (h' : Ec q) : Ec fun s => if c s then p s else q s := by
  intro s x g hh
  have hh : (if c s then p s else q s) = .err x g := hh
  split at hh
  · exact h _ _ _ hh
  · exact h' _ _ _ hh
theorem Ec.iteTok {c : List Tok → Bool} {f : Tok → List Tok → PR α} {q : List Tok → PR α} (hc : ∀ s, c s = true → ∃ t r, s = t :: r) (h : ∀ t, Ec (f t)) (h' : Ec q) : Ec fun s => if c s then tokK f s else q s := by
  intro s x g hh
  have hh : (if c s then tokK f s else q s) = .err x g := hh
  split at hh
  · rename_i hcs
    obtain ⟨t, r, rfl⟩ := hc s hcs
    exact h t _ _ _ hh
  · exact h' _ _ _ hh
theorem wantP_ec (x : ByteArray) : Ec (wantP x) := by
  intro s q g h
  unfold wantP at h
  split at h
  · cases h
  · cases h
    exact .inl rfl
theorem nameP_ec : Ec nameP := by
  intro s q g h
  unfold nameP at h
  split at h
  · split at h
    · cases h
    · cases h
      exact .inl rfl
  · cases h
    exact .inl rfl
theorem namesP_ec : Ec namesP := Ec.bind nameP_ec fun _x => fun _ _ _ h => (nomatch h)
theorem meetL_ec (h : Ec pd) : ∀ (n : Nat) (x : T), Ec (meetL pd n x)
  | 0, x => Ec.ok x
  | n + 1, x => Ec.ite (Ec.tail (p := fun s => (pd s).bind _) (Ec.bind h fun _y => meetL_ec h n _)) (Ec.ok x)
theorem meetP_ec (h : Ec pd) : Ec (meetP pd) := Ec.bind h fun x => meetL_ec h rounds x
theorem joinL_ec (h : Ec pd) : ∀ (n : Nat) (x : T), Ec (joinL pd n x)
  | 0, x => Ec.ok x
  | n + 1, x => Ec.ite (Ec.tail (p := fun s => (meetP pd s).bind _) (Ec.bind (meetP_ec h) fun _y => joinL_ec h n _)) (Ec.ok x)
theorem joinP_ec (h : Ec pd) : Ec (joinP pd) := Ec.bind (meetP_ec h) fun x => joinL_ec h rounds x
theorem or_cons {x y : ByteArray} (s : List Tok) (h : (seesB x s || seesB y s) = true) : ∃ t r, s = t :: r := by
  rcases Bool.or_eq_true_iff.1 h with h | h <;> exact seesB_cons h
theorem dimBody_ec (h : Ec pd) : Ec (dimBody pd) := by
  rw [dimAt_eq]
  refine Ec.dep (fun v => ?_)
  refine Ec.ite (Ec.bind nameP_ec fun x => Ec.ok _) ?_
  refine Ec.iteTok (c := fun s => seesB (bs [48]) s || seesB (bs [49]) s) (fun s => or_cons s) (fun t => Ec.ok _) ?_
  refine Ec.ite (Ec.tail (p := fun s => (pd s).bind _) (Ec.bind h fun x => Ec.ok _)) ?_
  exact Ec.bind (wantP_ec _) fun _ => Ec.bind (joinP_ec h) fun x => Ec.bind (wantP_ec _) fun _ => Ec.ok x
theorem dimP_ec : ∀ d, Ec (dimP d)
  | 0 => Ec.fail (by decide)
  | d + 1 => dimBody_ec (dimP_ec d)
theorem faceL_ec : ∀ (n : Nat) (ks : List T), Ec (faceL n ks)
  | 0, ks => Ec.ok ks
  | n + 1, ks => by
    rw [faceL_eq]
    refine Ec.dep (fun v => ?_)
    refine Ec.bind (wantP_ec _) fun _ => Ec.bind nameP_ec fun x => Ec.bind (wantP_ec _) fun _ => ?_
    refine Ec.iteTok (c := fun s => seesB (bs [48]) s || seesB (bs [49]) s) (fun s => or_cons s) (fun u => ?_) (Ec.fail (by decide))
    exact Ec.bind (wantP_ec _) fun _ => Ec.ite (faceL_ec n _) (Ec.ok _)
theorem faceP_ec : Ec faceP := by
  have e : faceP = fun s => faceAt (atP s) s := rfl
  rw [e]
  refine Ec.dep (fun v => ?_)
  exact Ec.ite (Ec.tail (p := fun s => .ok _ s) (Ec.ok _)) (Ec.bind (faceL_ec _ _) fun ks => Ec.ok _)
theorem elemP_ec (h : Ec pt) : Ec (elemP pt) := by
  have e : elemP = fun pt s => elemAt pt (atP s) s := rfl
  rw [e]
  refine Ec.dep (fun v => ?_)
  exact Ec.bind faceP_ec fun e => Ec.ite (Ec.tail (p := fun s => (pt s).bind _) (Ec.bind h fun y => Ec.ok _)) (Ec.ok _)
theorem boxL_ec (h : Ec pt) : ∀ (n : Nat) (ks : List T), Ec (boxL pt n ks)
  | 0, ks => Ec.ok ks
  | n + 1, ks => by
    refine Ec.ite (Ec.tail (p := fun s => .ok _ s) (Ec.ok _)) ?_
    refine Ec.bind ?_ fun _ => Ec.bind (elemP_ec h) fun e => boxL_ec h n _
    cases ks.isEmpty with
    | true => exact Ec.ok ()
    | false => exact wantP_ec _
theorem boxAt_ec (h : Ec pt) (v : Int) : Ec (boxAt pt v) := Ec.tail (p := fun s => (boxL pt rounds [] s).bind _) (Ec.bind (boxL_ec h _ _) fun _ks => Ec.ok _)
theorem pairP_ec (h : Ec pt) (p : Int) (x : T) : Ec (pairP pt p x) :=
  Ec.ite (Ec.tail (p := fun s => (pt s).bind _) (Ec.bind h fun _y => Ec.ok _)) (Ec.ite (Ec.tail (p := fun s => (pt s).bind _) (Ec.bind h fun _y => Ec.ok _)) (Ec.ok _))
theorem atomP_ec (h : Ec pt) : Ec (atomP pt) := by
  have e : atomP = fun pt s => atomAt pt (atP s) s := rfl
  rw [e]
  refine Ec.dep (fun v => ?_)
  refine Ec.ite (Ec.bind nameP_ec fun x => Ec.ok _) ?_
  refine Ec.ite (boxAt_ec h v) ?_
  exact Ec.bind (wantP_ec _) fun _ => Ec.bind h fun x => Ec.bind (pairP_ec h v x) fun y => Ec.bind (wantP_ec _) fun _ => Ec.ok y
theorem afterL_ec (hd : Ec pd) (h : Ec pt) : ∀ (n : Nat) (x : T), Ec (afterL pd pt n x)
  | 0, x => Ec.ok x
  | n + 1, x => by
    refine Ec.ite (Ec.tail (p := fun s => (pd s).bind _) (Ec.bind hd fun y => afterL_ec hd h n _)) ?_
    refine Ec.ite (Ec.bind (atomP_ec h) fun y => afterL_ec hd h n _) ?_
    refine Ec.dep (c := arrowP) (p := fun v s => if v == 0 then .ok x s else (pt s.tail).bind fun y r => .ok (.mk v (bs []) [x, y] [] x.at_) r) (fun v => ?_)
    cases v == 0 with
    | true => exact Ec.ok x
    | false => exact Ec.tail (p := fun s => (pt s).bind _) (Ec.bind h fun y => Ec.ok _)
theorem lamAt_ec (h : Ec pt) (k : Int) (sign : List UInt8) (v : Int) : Ec (lamAt pt k sign v) :=
  Ec.tail (p := fun s => (namesP s).bind _) (Ec.bind namesP_ec fun _ns => Ec.bind (wantP_ec _) fun _ => Ec.bind h fun _x => Ec.ok _)
theorem pisKn_ec (hd : Ec pd) (h : Ec pt) (n : Nat) (o x : Tok) : Ec (pisKn n pd pt o x) := by
  refine Ec.bind h fun a => Ec.bind (wantP_ec _) fun _ => ?_
  refine Ec.dep (c := arrowP) (p := fun v s => if v == 0 then afterL pd pt n (.mk 9 (bs []) [.mk 1 x.text [] [] x.at_, a] [] o.at_) s else (pt s.tail).bind fun b r' => .ok (.mk v (bs []) [a, b] [x.text] o.at_) r') (fun v => ?_)
  cases v == 0 with
  | true => exact afterL_ec hd h _ _
  | false => exact Ec.tail (p := fun s => (pt s).bind _) (Ec.bind h fun y => Ec.ok _)
theorem termBody_ec (hd : Ec pd) (h : Ec pt) : Ec (termBody pd pt) := by
  have e : termBody = fun pd pt s => termAt pd pt (atP s) s := rfl
  rw [e]
  refine Ec.dep (fun v => ?_)
  refine Ec.ite (lamAt_ec h 2 _ v) (Ec.ite (lamAt_ec h 3 _ v) ?_)
  intro s q g hh
  have hh : (if bindsP s then pisP pd pt s else (atomP pt s).bind fun x r => afterL pd pt rounds x r) = .err q g := hh
  split at hh
  · rename_i hb
    unfold bindsP at hb
    split at hb
    · exact pisKn_ec hd h rounds _ _ _ _ _ hh
    · cases hb
  · exact Ec.bind (atomP_ec h) (fun x => afterL_ec hd h _ x) _ _ _ hh
theorem termP_ec : ∀ d, Ec (termP d)
  | 0 => Ec.fail (by decide)
  | d + 1 => termBody_ec (dimP_ec d) (termP_ec d)
theorem declP_ec : Ec declP := by
  have e : declP = fun s => declAt (atP s) s := rfl
  rw [e]
  refine Ec.dep (fun v => ?_)
  exact Ec.bind nameP_ec fun x => Ec.bind (wantP_ec _) fun _ => Ec.bind (termP_ec 200) fun a => Ec.bind (wantP_ec _) fun _ => Ec.bind (termP_ec 200) fun b => Ec.bind (wantP_ec _) fun _ => Ec.ok _
end
end Go.Abs
