import Derived.Test.YtamkldohfhidiaaDoorTab
import Derived.Test.YtamkldohfhidiaaDoorPa
import Derived.Test.YtamkldohfhidiaaDoorAbs3
namespace Go.Proofs.YtamkldohfhidiaaDoor
open Go Go.Abs

theorem mixed : Tryd.prog.follows .mixedOrders = true := by kernel_rfl

def tokC (t : Tok) : List AV := [.val (.int .i64 t.kind), .val (.string t.text), .val (.int .i64 t.at_)]
/-- The reader, at so many tokens ahead of the end. -/
def rd (toks : List Tok) (f : Bool) (s : List Tok) : Box := .cells [.d (.sl 3 (toks.map tokC) f), .d (.val (.int .i64 ((toks.length : Int) - s.length)))]
def strsC (l : List ByteArray) : List (List AV) := l.map fun x => [.val (.string x)]
def wrongA (p e : Int) : AV := .ifc 79 (.agg [.val (.int .i64 p), .val (.int .i64 e)])

structure Suf (toks s : List Tok) : Prop where
  suf : s <:+ toks
  small : toks.length < 1000000
  last : ∃ p e, toks = p ++ [e] ∧ e.kind = 0 ∧ (e.text.toList == (bs [58]).toList) = false

theorem Suf.tail {toks : List Tok} {t : Tok} {s : List Tok} (h : Suf toks (t :: s)) : Suf toks s := ⟨(List.suffix_cons t s).trans h.suf, h.small, h.last⟩
/-- Behind a token that is not the end there is one more. -/
theorem Suf.more' {toks : List Tok} {t : Tok} {s : List Tok} (h : Suf toks (t :: s)) (hk : t.kind ≠ 0 ∨ (t.text.toList == (bs [58]).toList) = true) : ∃ u r, s = u :: r := by
  cases s with
  | cons u r => exact ⟨u, r, rfl⟩
  | nil =>
    exfalso
    obtain ⟨p, e, h1, h2, h4⟩ := h.last
    obtain ⟨q, h3⟩ := h.suf
    rw [h1] at h3
    have := congrArg List.getLast? h3
    simp at this
    subst this
    rcases hk with hk | hk
    · exact hk h2
    · rw [h4] at hk
      cases hk
theorem Suf.more {toks : List Tok} {t : Tok} {s : List Tok} (h : Suf toks (t :: s)) (hk : t.kind ≠ 0) : ∃ u r, s = u :: r := h.more' (.inl hk)
/-- There is something to be read. -/
def Live (toks s : List Tok) : Prop := Suf toks s ∧ ∃ t r, s = t :: r
theorem Suf.live {toks : List Tok} {t : Tok} {s : List Tok} (h : Suf toks (t :: s)) (hk : t.kind ≠ 0) : Live toks s := ⟨h.tail, h.more hk⟩
theorem Suf.le {toks s : List Tok} (h : Suf toks s) : s.length ≤ toks.length := h.suf.length_le
theorem Suf.at {toks : List Tok} {t : Tok} {s : List Tok} (h : Suf toks (t :: s)) : (toks.map tokC)[((toks.length : Int) - ((t :: s).length : Nat)).toNat]? = some (tokC t) := by
  obtain ⟨pre, rfl⟩ := h.suf
  have e : (((pre ++ t :: s).length : Int) - ((t :: s).length : Nat)).toNat = pre.length := by simp
  rw [e, List.getElem?_map, List.getElem?_append_right (Nat.le_refl _), Nat.sub_self]
  rfl
theorem wrap_in {a : Int} (h1 : -4611686018427387904 ≤ a) (h2 : a ≤ 4611686018427387904) : IntKind.i64.wrap a = a := IntWalk.i64_in _ (by omega)
theorem Suf.next {toks : List Tok} {t : Tok} {s : List Tok} (h : Suf toks (t :: s)) : IntKind.i64.wrap ((toks.length : Int) - ((t :: s).length : Nat) + 1) = (toks.length : Int) - (s.length : Nat) := by
  have h1 := h.le
  have h2 := h.small
  simp only [List.length_cons] at h1 ⊢
  rw [wrap_in (by omega) (by omega)]
  omega

/-- What a reading function comes to. -/
def PRout {α : Type} (toks : List Tok) (f : Bool) (val : α → SV) (r : PR α) (out : Out) (b : List Box) : Prop :=
  match r with
  | .ok a s => (out = .ret (val a) ∧ b = [rd toks f s]) ∧ Live toks s
  | .err p e => out = .panic (wrongA p e) ∧ ∃ s, b = [rd toks f s]

/-- What a reading function comes to, told in more words. -/
def PRle {α : Type} (toks : List Tok) (f : Bool) (val : α → SV) (r : PR α) (out : Out) (b : List Box) : Prop :=
  match r with
  | .ok a s => ((∃ y, out = .ret y ∧ SLe y (val a)) ∧ b = [rd toks f s]) ∧ Live toks s
  | .err p e => out = .panic (wrongA p e) ∧ ∃ s, b = [rd toks f s]

variable {G : Glob} {toks s : List Tok} {f : Bool} {t : Tok}

theorem PRle.weak {α : Type} {val : α → SV} {r : PR α} {g : FuncId} {args : List SV} {bx : List Box} (h : ACalls Tryd.prog G g args bx (PRle toks f val r)) : ACalls Tryd.prog G g args bx (PRout toks f val r) := by
  refine ACalls.weak h ?_ ?_
  · intro x b hx
    cases r with
    | ok a s =>
      obtain ⟨⟨⟨y, h1, h2⟩, h3⟩, h4⟩ := hx
      cases h1
      exact ⟨_, _, h2, BxLe.refl _, ⟨rfl, h3⟩, h4⟩
    | err p e =>
      obtain ⟨h1, _⟩ := hx
      cases h1
  · intro x b hx
    cases r with
    | ok a s =>
      obtain ⟨⟨⟨y, h1, h2⟩, h3⟩, h4⟩ := hx
      cases h1
    | err p e => exact hx

theorem now_any (h : Suf toks (t :: s)) : ACalls Tryd.prog G 27 [.ptr 0 0] [rd toks f (t :: s)] fun out b => out = .ret (.d (.agg (tokC t))) ∧ b = [rd toks f (t :: s)] := by
  have hl := h.le
  refine ACalls.body tab_ok Tryd.func27 rfl rfl ?_
  repeat (first
    | refine AW.seq ?_
    | refine AW.reg ?_
    | refine Reg.opS tab_ok (hint := []) rfl rfl rfl rfl rfl trivial ?_
    | refine Reg.opN tab_ok (hint := []) rfl rfl rfl rfl trivial ?_
    | refine Reg.nil ?_
    | refine thenA_normal ?_
    | refine AW.condT rfl ?_
    | refine AW.condF rfl ?_
    | refine AW.skip ?_
    | refine AW.block ?_
    | refine AW.exit ?_
    | refine AW.ret ?_
    | refine thenA_exit ?_
    | refine thenA_ret ?_
    | refine blockA_normal ?_
    | refine blockA_hit ?_
    | refine blockA_miss rfl ?_
    | refine blockA_ret ?_
    | refine Reg.panic rfl rfl rfl rfl ?_
    | refine thenA_panic ?_
    | refine blockA_panic ?_)
  refine AW.draw [10] [0, 1, 2, 3, 4, 5, 6, 7, 8, 9, 10] mixed ⟨rfl, rfl, rfl, rfl, by decide⟩ ?_
  iterate 8 refine RegD.pureS tab_ok (hint := []) rfl rfl rfl rfl rfl rfl trivial ?_
  refine RegD.pureS tab_ok (hint := tokC t) rfl rfl rfl rfl rfl rfl ⟨rfl, by omega, h.at⟩ ?_
  iterate 1 refine RegD.pureS tab_ok (hint := []) rfl rfl rfl rfl rfl rfl trivial ?_
  refine RegD.effS tab_ok (hint := []) [] rfl rfl rfl rfl rfl rfl rfl trivial Stable.nil ?_
  refine RegD.nil ?_
  repeat (first
    | refine AW.seq ?_
    | refine AW.reg ?_
    | refine Reg.opS tab_ok (hint := []) rfl rfl rfl rfl rfl trivial ?_
    | refine Reg.opN tab_ok (hint := []) rfl rfl rfl rfl trivial ?_
    | refine Reg.nil ?_
    | refine thenA_normal ?_
    | refine AW.condT rfl ?_
    | refine AW.condF rfl ?_
    | refine AW.skip ?_
    | refine AW.block ?_
    | refine AW.exit ?_
    | refine AW.ret ?_
    | refine thenA_exit ?_
    | refine thenA_ret ?_
    | refine blockA_normal ?_
    | refine blockA_hit ?_
    | refine blockA_miss rfl ?_
    | refine blockA_ret ?_
    | refine Reg.panic rfl rfl rfl rfl ?_
    | refine thenA_panic ?_
    | refine blockA_panic ?_)
  exact ⟨_, rfl, rfl, rfl, rfl, rfl⟩

theorem callable27 : Callable Tryd.prog 27 := ⟨_, Tryd.func27, rfl, rfl⟩

theorem sees_any (x : ByteArray) (h : Suf toks (t :: s)) : ACalls Tryd.prog G 48 [.ptr 0 0, .d (.val (.string x))] [rd toks f (t :: s)] fun out b => out = .ret (.d (.val (.bool (seesB x (t :: s))))) ∧ b = [rd toks f (t :: s)] := by
  unfold seesB
  refine ACalls.body tab_ok Tryd.func48 rfl rfl ?_
  repeat (first
    | refine AW.seq ?_
    | refine AW.reg ?_
    | refine Reg.opS tab_ok (hint := []) rfl rfl rfl rfl rfl trivial ?_
    | refine Reg.opN tab_ok (hint := []) rfl rfl rfl rfl trivial ?_
    | refine Reg.nil ?_
    | refine thenA_normal ?_
    | refine AW.condT rfl ?_
    | refine AW.condF rfl ?_
    | refine AW.skip ?_
    | refine AW.block ?_
    | refine AW.exit ?_
    | refine AW.ret ?_
    | refine thenA_exit ?_
    | refine thenA_ret ?_
    | refine blockA_normal ?_
    | refine blockA_hit ?_
    | refine blockA_miss rfl ?_
    | refine blockA_ret ?_
    | refine Reg.panic rfl rfl rfl rfl ?_
    | refine thenA_panic ?_
    | refine blockA_panic ?_)
  refine Reg.call tab_ok [0] (now_any h) callable27 rfl (.inl rfl) rfl rfl rfl (by decide) rfl rfl ?_
  rintro out bx1 ⟨rfl, rfl⟩
  refine after1 rfl rfl rfl rfl rfl ?_
  iterate 3 refine Reg.opS tab_ok (hint := []) rfl rfl rfl rfl rfl trivial ?_
  cases hk : (t.kind == 2) with
  | false =>
    iterate 5 refine Reg.ifN rfl rfl rfl rfl rfl rfl rfl rfl ?_
    repeat (first
      | refine AW.seq ?_
      | refine AW.reg ?_
      | refine Reg.opS tab_ok (hint := []) rfl rfl rfl rfl rfl trivial ?_
      | refine Reg.opN tab_ok (hint := []) rfl rfl rfl rfl trivial ?_
      | refine Reg.nil ?_
      | refine thenA_normal ?_
      | refine AW.condT rfl ?_
      | refine AW.condF rfl ?_
      | refine AW.skip ?_
      | refine AW.block ?_
      | refine AW.exit ?_
      | refine AW.ret ?_
      | refine thenA_exit ?_
      | refine thenA_ret ?_
      | refine blockA_normal ?_
      | refine blockA_hit ?_
      | refine blockA_miss rfl ?_
      | refine blockA_ret ?_
      | refine Reg.panic rfl rfl rfl rfl ?_
      | refine thenA_panic ?_
      | refine blockA_panic ?_)
    exact ⟨_, rfl, rfl, rfl, by simp [hk], rfl⟩
  | true =>
    iterate 1 refine Reg.ifS tab_ok (hint := []) rfl rfl rfl rfl rfl rfl rfl rfl rfl trivial ?_
    refine Reg.call tab_ok [0] (now_any h) callable27 rfl (.inr ⟨_, _, _, _, _, rfl, rfl, rfl, rfl, rfl⟩) rfl rfl rfl (by decide) rfl rfl ?_
    rintro out bx1 ⟨rfl, rfl⟩
    refine after1 rfl rfl rfl rfl rfl ?_
    iterate 3 refine Reg.ifS tab_ok (hint := []) rfl rfl rfl rfl rfl rfl rfl rfl rfl trivial ?_
    repeat (first
      | refine AW.seq ?_
      | refine AW.reg ?_
      | refine Reg.opS tab_ok (hint := []) rfl rfl rfl rfl rfl trivial ?_
      | refine Reg.opN tab_ok (hint := []) rfl rfl rfl rfl trivial ?_
      | refine Reg.nil ?_
      | refine thenA_normal ?_
      | refine AW.condT rfl ?_
      | refine AW.condF rfl ?_
      | refine AW.skip ?_
      | refine AW.block ?_
      | refine AW.exit ?_
      | refine AW.ret ?_
      | refine thenA_exit ?_
      | refine thenA_ret ?_
      | refine blockA_normal ?_
      | refine blockA_hit ?_
      | refine blockA_miss rfl ?_
      | refine blockA_ret ?_
      | refine Reg.panic rfl rfl rfl rfl ?_
      | refine thenA_panic ?_
      | refine blockA_panic ?_)
    exact ⟨_, rfl, rfl, rfl, by simp [hk], rfl⟩

theorem callable48 : Callable Tryd.prog 48 := ⟨_, Tryd.func48, rfl, rfl⟩

theorem fail_any (e : Int) (h : Suf toks (t :: s)) : ACalls Tryd.prog G 46 [.ptr 0 0, .d (.val (.int .i64 e))] [rd toks f (t :: s)] fun out b => out = .panic (wrongA t.at_ e) ∧ b = [rd toks f (t :: s)] := by
  refine ACalls.body tab_ok Tryd.func46 rfl rfl ?_
  repeat (first
    | refine AW.seq ?_
    | refine AW.reg ?_
    | refine Reg.opS tab_ok (hint := []) rfl rfl rfl rfl rfl trivial ?_
    | refine Reg.opN tab_ok (hint := []) rfl rfl rfl rfl trivial ?_
    | refine Reg.nil ?_
    | refine thenA_normal ?_
    | refine AW.condT rfl ?_
    | refine AW.condF rfl ?_
    | refine AW.skip ?_
    | refine AW.block ?_
    | refine AW.exit ?_
    | refine AW.ret ?_
    | refine thenA_exit ?_
    | refine thenA_ret ?_
    | refine blockA_normal ?_
    | refine blockA_hit ?_
    | refine blockA_miss rfl ?_
    | refine blockA_ret ?_
    | refine Reg.panic rfl rfl rfl rfl ?_
    | refine thenA_panic ?_
    | refine blockA_panic ?_)
  refine Reg.call tab_ok [0] (now_any h) callable27 rfl (.inl rfl) rfl rfl rfl (by decide) rfl rfl ?_
  rintro out bx1 ⟨rfl, rfl⟩
  refine after1 rfl rfl rfl rfl rfl ?_
  repeat (first
    | refine AW.seq ?_
    | refine AW.reg ?_
    | refine Reg.opS tab_ok (hint := []) rfl rfl rfl rfl rfl trivial ?_
    | refine Reg.opN tab_ok (hint := []) rfl rfl rfl rfl trivial ?_
    | refine Reg.nil ?_
    | refine thenA_normal ?_
    | refine AW.condT rfl ?_
    | refine AW.condF rfl ?_
    | refine AW.skip ?_
    | refine AW.block ?_
    | refine AW.exit ?_
    | refine AW.ret ?_
    | refine thenA_exit ?_
    | refine thenA_ret ?_
    | refine blockA_normal ?_
    | refine blockA_hit ?_
    | refine blockA_miss rfl ?_
    | refine blockA_ret ?_
    | refine Reg.panic rfl rfl rfl rfl ?_
    | refine thenA_panic ?_
    | refine blockA_panic ?_)
  exact ⟨rfl, rfl, rfl⟩

theorem callable46 : Callable Tryd.prog 46 := ⟨_, Tryd.func46, rfl, rfl⟩

/-- Gives up, if a level is too deep. -/
theorem deep_ok (l : Int) (hl : l ≤ 200) : ACalls Tryd.prog G 47 [.ptr 0 0, .d (.val (.int .i64 l))] [rd toks f s] fun out b => out = .ret (.tup []) ∧ b = [rd toks f s] := by
  have hd : decide (l > 200) = false := by simp; omega
  refine ACalls.body tab_ok Tryd.func47 rfl rfl ?_
  repeat (first
    | refine AW.seq ?_
    | refine AW.reg ?_
    | refine Reg.opS tab_ok (hint := []) rfl rfl rfl rfl rfl trivial ?_
    | refine Reg.opN tab_ok (hint := []) rfl rfl rfl rfl trivial ?_
    | refine Reg.nil ?_
    | refine thenA_normal ?_
    | refine AW.condT rfl ?_
    | refine AW.condF rfl ?_
    | refine AW.skip ?_
    | refine AW.block ?_
    | refine AW.exit ?_
    | refine AW.ret ?_
    | refine thenA_exit ?_
    | refine thenA_ret ?_
    | refine blockA_normal ?_
    | refine blockA_hit ?_
    | refine blockA_miss rfl ?_
    | refine blockA_ret ?_
    | refine Reg.panic rfl rfl rfl rfl ?_
    | refine thenA_panic ?_
    | refine blockA_panic ?_)
  refine AW.cond rfl (fun hh => ?_) (fun _ => ?_)
  · rw [hd] at hh
    cases hh
  · repeat (first
      | refine AW.seq ?_
      | refine AW.reg ?_
      | refine Reg.opS tab_ok (hint := []) rfl rfl rfl rfl rfl trivial ?_
      | refine Reg.opN tab_ok (hint := []) rfl rfl rfl rfl trivial ?_
      | refine Reg.nil ?_
      | refine thenA_normal ?_
      | refine AW.condT rfl ?_
      | refine AW.condF rfl ?_
      | refine AW.skip ?_
      | refine AW.block ?_
      | refine AW.exit ?_
      | refine AW.ret ?_
      | refine thenA_exit ?_
      | refine thenA_ret ?_
      | refine blockA_normal ?_
      | refine blockA_hit ?_
      | refine blockA_miss rfl ?_
      | refine blockA_ret ?_
      | refine Reg.panic rfl rfl rfl rfl ?_
      | refine thenA_panic ?_
      | refine blockA_panic ?_)
    exact ⟨_, rfl, rfl, rfl, rfl, rfl⟩
theorem deep_no (l : Int) (hl : 200 < l) (h : Suf toks (t :: s)) : ACalls Tryd.prog G 47 [.ptr 0 0, .d (.val (.int .i64 l))] [rd toks f (t :: s)] fun out b => out = .panic (wrongA t.at_ 62) ∧ b = [rd toks f (t :: s)] := by
  have hd : decide (l > 200) = true := by simp; omega
  refine ACalls.body tab_ok Tryd.func47 rfl rfl ?_
  repeat (first
    | refine AW.seq ?_
    | refine AW.reg ?_
    | refine Reg.opS tab_ok (hint := []) rfl rfl rfl rfl rfl trivial ?_
    | refine Reg.opN tab_ok (hint := []) rfl rfl rfl rfl trivial ?_
    | refine Reg.nil ?_
    | refine thenA_normal ?_
    | refine AW.condT rfl ?_
    | refine AW.condF rfl ?_
    | refine AW.skip ?_
    | refine AW.block ?_
    | refine AW.exit ?_
    | refine AW.ret ?_
    | refine thenA_exit ?_
    | refine thenA_ret ?_
    | refine blockA_normal ?_
    | refine blockA_hit ?_
    | refine blockA_miss rfl ?_
    | refine blockA_ret ?_
    | refine Reg.panic rfl rfl rfl rfl ?_
    | refine thenA_panic ?_
    | refine blockA_panic ?_)
  refine AW.cond rfl (fun _ => ?_) (fun hh => ?_)
  · repeat (first
      | refine AW.seq ?_
      | refine AW.reg ?_
      | refine Reg.opS tab_ok (hint := []) rfl rfl rfl rfl rfl trivial ?_
      | refine Reg.opN tab_ok (hint := []) rfl rfl rfl rfl trivial ?_
      | refine Reg.nil ?_
      | refine thenA_normal ?_
      | refine AW.condT rfl ?_
      | refine AW.condF rfl ?_
      | refine AW.skip ?_
      | refine AW.block ?_
      | refine AW.exit ?_
      | refine AW.ret ?_
      | refine thenA_exit ?_
      | refine thenA_ret ?_
      | refine blockA_normal ?_
      | refine blockA_hit ?_
      | refine blockA_miss rfl ?_
      | refine blockA_ret ?_
      | refine Reg.panic rfl rfl rfl rfl ?_
      | refine thenA_panic ?_
      | refine blockA_panic ?_)
    refine Reg.call tab_ok [0] (fail_any 62 h) callable46 rfl (.inl rfl) rfl rfl rfl (by decide) rfl rfl ?_
    rintro out bx1 ⟨rfl, rfl⟩
    refine after1p rfl rfl rfl ?_
    repeat (first
      | refine AW.seq ?_
      | refine AW.reg ?_
      | refine Reg.opS tab_ok (hint := []) rfl rfl rfl rfl rfl trivial ?_
      | refine Reg.opN tab_ok (hint := []) rfl rfl rfl rfl trivial ?_
      | refine Reg.nil ?_
      | refine thenA_normal ?_
      | refine AW.condT rfl ?_
      | refine AW.condF rfl ?_
      | refine AW.skip ?_
      | refine AW.block ?_
      | refine AW.exit ?_
      | refine AW.ret ?_
      | refine thenA_exit ?_
      | refine thenA_ret ?_
      | refine blockA_normal ?_
      | refine blockA_hit ?_
      | refine blockA_miss rfl ?_
      | refine blockA_ret ?_
      | refine Reg.panic rfl rfl rfl rfl ?_
      | refine thenA_panic ?_
      | refine blockA_panic ?_)
    exact ⟨rfl, rfl, rfl⟩
  · rw [hd] at hh
    cases hh

theorem callable47 : Callable Tryd.prog 47 := ⟨_, Tryd.func47, rfl, rfl⟩

theorem take_any (h : Suf toks (t :: s)) : ACalls Tryd.prog G 52 [.ptr 0 0] [rd toks f (t :: s)] fun out b => out = .ret (.d (.agg (tokC t))) ∧ b = [rd toks f s] := by
  refine ACalls.body tab_ok Tryd.func52 rfl rfl ?_
  repeat (first
    | refine AW.seq ?_
    | refine AW.reg ?_
    | refine Reg.opS tab_ok (hint := []) rfl rfl rfl rfl rfl trivial ?_
    | refine Reg.opN tab_ok (hint := []) rfl rfl rfl rfl trivial ?_
    | refine Reg.nil ?_
    | refine thenA_normal ?_
    | refine AW.condT rfl ?_
    | refine AW.condF rfl ?_
    | refine AW.skip ?_
    | refine AW.block ?_
    | refine AW.exit ?_
    | refine AW.ret ?_
    | refine thenA_exit ?_
    | refine thenA_ret ?_
    | refine blockA_normal ?_
    | refine blockA_hit ?_
    | refine blockA_miss rfl ?_
    | refine blockA_ret ?_
    | refine Reg.panic rfl rfl rfl rfl ?_
    | refine thenA_panic ?_
    | refine blockA_panic ?_)
  refine Reg.call tab_ok [0] (now_any h) callable27 rfl (.inl rfl) rfl rfl rfl (by decide) rfl rfl ?_
  rintro out bx1 ⟨rfl, rfl⟩
  refine after1 rfl rfl rfl rfl rfl ?_
  repeat (first
    | refine AW.seq ?_
    | refine AW.reg ?_
    | refine Reg.opS tab_ok (hint := []) rfl rfl rfl rfl rfl trivial ?_
    | refine Reg.opN tab_ok (hint := []) rfl rfl rfl rfl trivial ?_
    | refine Reg.nil ?_
    | refine thenA_normal ?_
    | refine AW.condT rfl ?_
    | refine AW.condF rfl ?_
    | refine AW.skip ?_
    | refine AW.block ?_
    | refine AW.exit ?_
    | refine AW.ret ?_
    | refine thenA_exit ?_
    | refine thenA_ret ?_
    | refine blockA_normal ?_
    | refine blockA_hit ?_
    | refine blockA_miss rfl ?_
    | refine blockA_ret ?_
    | refine Reg.panic rfl rfl rfl rfl ?_
    | refine thenA_panic ?_
    | refine blockA_panic ?_)
  refine ⟨_, rfl, rfl, rfl, rfl, ?_⟩
  simp only [rd, ← h.next]
  rfl

theorem callable52 : Callable Tryd.prog 52 := ⟨_, Tryd.func52, rfl, rfl⟩

theorem sees_kind {x : ByteArray} (h : seesB x (t :: s) = true) : t.kind ≠ 0 := by
  intro e
  simp [seesB, e] at h

theorem want_any (x : ByteArray) (h : Suf toks (t :: s)) : ACalls Tryd.prog G 50 [.ptr 0 0, .d (.val (.string x))] [rd toks f (t :: s)] (PRout toks f (fun _ => .tup []) (wantP x (t :: s))) := by
  unfold wantP
  refine ACalls.body tab_ok Tryd.func50 rfl rfl ?_
  repeat (first
    | refine AW.seq ?_
    | refine AW.reg ?_
    | refine Reg.opS tab_ok (hint := []) rfl rfl rfl rfl rfl trivial ?_
    | refine Reg.opN tab_ok (hint := []) rfl rfl rfl rfl trivial ?_
    | refine Reg.nil ?_
    | refine thenA_normal ?_
    | refine AW.condT rfl ?_
    | refine AW.condF rfl ?_
    | refine AW.skip ?_
    | refine AW.block ?_
    | refine AW.exit ?_
    | refine AW.ret ?_
    | refine thenA_exit ?_
    | refine thenA_ret ?_
    | refine blockA_normal ?_
    | refine blockA_hit ?_
    | refine blockA_miss rfl ?_
    | refine blockA_ret ?_
    | refine Reg.panic rfl rfl rfl rfl ?_
    | refine thenA_panic ?_
    | refine blockA_panic ?_)
  refine Reg.call tab_ok [0] (sees_any x h) callable48 rfl (.inl rfl) rfl rfl rfl (by decide) rfl rfl ?_
  rintro out bx1 ⟨rfl, rfl⟩
  refine after1 rfl rfl rfl rfl rfl ?_
  repeat (first
    | refine AW.seq ?_
    | refine AW.reg ?_
    | refine Reg.opS tab_ok (hint := []) rfl rfl rfl rfl rfl trivial ?_
    | refine Reg.opN tab_ok (hint := []) rfl rfl rfl rfl trivial ?_
    | refine Reg.nil ?_
    | refine thenA_normal ?_
    | refine AW.condT rfl ?_
    | refine AW.condF rfl ?_
    | refine AW.skip ?_
    | refine AW.block ?_
    | refine AW.exit ?_
    | refine AW.ret ?_
    | refine thenA_exit ?_
    | refine thenA_ret ?_
    | refine blockA_normal ?_
    | refine blockA_hit ?_
    | refine blockA_miss rfl ?_
    | refine blockA_ret ?_
    | refine Reg.panic rfl rfl rfl rfl ?_
    | refine thenA_panic ?_
    | refine blockA_panic ?_)
  cases hs : seesB x (t :: s) with
  | false =>
    repeat (first
      | refine AW.seq ?_
      | refine AW.reg ?_
      | refine Reg.opS tab_ok (hint := []) rfl rfl rfl rfl rfl trivial ?_
      | refine Reg.opN tab_ok (hint := []) rfl rfl rfl rfl trivial ?_
      | refine Reg.nil ?_
      | refine thenA_normal ?_
      | refine AW.condT rfl ?_
      | refine AW.condF rfl ?_
      | refine AW.skip ?_
      | refine AW.block ?_
      | refine AW.exit ?_
      | refine AW.ret ?_
      | refine thenA_exit ?_
      | refine thenA_ret ?_
      | refine blockA_normal ?_
      | refine blockA_hit ?_
      | refine blockA_miss rfl ?_
      | refine blockA_ret ?_
      | refine Reg.panic rfl rfl rfl rfl ?_
      | refine thenA_panic ?_
      | refine blockA_panic ?_)
    refine Reg.call tab_ok [0] (fail_any 61 h) callable46 rfl (.inl rfl) rfl rfl rfl (by decide) rfl rfl ?_
    rintro out bx1 ⟨rfl, rfl⟩
    refine after1p rfl rfl rfl ?_
    repeat (first
      | refine AW.seq ?_
      | refine AW.reg ?_
      | refine Reg.opS tab_ok (hint := []) rfl rfl rfl rfl rfl trivial ?_
      | refine Reg.opN tab_ok (hint := []) rfl rfl rfl rfl trivial ?_
      | refine Reg.nil ?_
      | refine thenA_normal ?_
      | refine AW.condT rfl ?_
      | refine AW.condF rfl ?_
      | refine AW.skip ?_
      | refine AW.block ?_
      | refine AW.exit ?_
      | refine AW.ret ?_
      | refine thenA_exit ?_
      | refine thenA_ret ?_
      | refine blockA_normal ?_
      | refine blockA_hit ?_
      | refine blockA_miss rfl ?_
      | refine blockA_ret ?_
      | refine Reg.panic rfl rfl rfl rfl ?_
      | refine thenA_panic ?_
      | refine blockA_panic ?_)
    exact ⟨rfl, rfl, _, rfl⟩
  | true =>
    repeat (first
      | refine AW.seq ?_
      | refine AW.reg ?_
      | refine Reg.opS tab_ok (hint := []) rfl rfl rfl rfl rfl trivial ?_
      | refine Reg.opN tab_ok (hint := []) rfl rfl rfl rfl trivial ?_
      | refine Reg.nil ?_
      | refine thenA_normal ?_
      | refine AW.condT rfl ?_
      | refine AW.condF rfl ?_
      | refine AW.skip ?_
      | refine AW.block ?_
      | refine AW.exit ?_
      | refine AW.ret ?_
      | refine thenA_exit ?_
      | refine thenA_ret ?_
      | refine blockA_normal ?_
      | refine blockA_hit ?_
      | refine blockA_miss rfl ?_
      | refine blockA_ret ?_
      | refine Reg.panic rfl rfl rfl rfl ?_
      | refine thenA_panic ?_
      | refine blockA_panic ?_)
    refine ⟨_, rfl, rfl, rfl, ⟨rfl, ?_⟩, h.live (sees_kind hs)⟩
    simp only [List.tail_cons, rd, ← h.next]
    rfl

theorem callable50 : Callable Tryd.prog 50 := ⟨_, Tryd.func50, rfl, rfl⟩

theorem name_any (h : Suf toks (t :: s)) : ACalls Tryd.prog G 57 [.ptr 0 0] [rd toks f (t :: s)] (PRout toks f (fun x => .d (.val (.string x))) (nameP (t :: s))) := by
  unfold nameP
  refine ACalls.body tab_ok Tryd.func57 rfl rfl ?_
  repeat (first
    | refine AW.seq ?_
    | refine AW.reg ?_
    | refine Reg.opS tab_ok (hint := []) rfl rfl rfl rfl rfl trivial ?_
    | refine Reg.opN tab_ok (hint := []) rfl rfl rfl rfl trivial ?_
    | refine Reg.nil ?_
    | refine thenA_normal ?_
    | refine AW.condT rfl ?_
    | refine AW.condF rfl ?_
    | refine AW.skip ?_
    | refine AW.block ?_
    | refine AW.exit ?_
    | refine AW.ret ?_
    | refine thenA_exit ?_
    | refine thenA_ret ?_
    | refine blockA_normal ?_
    | refine blockA_hit ?_
    | refine blockA_miss rfl ?_
    | refine blockA_ret ?_
    | refine Reg.panic rfl rfl rfl rfl ?_
    | refine thenA_panic ?_
    | refine blockA_panic ?_)
  refine Reg.call tab_ok [0] (now_any h) callable27 rfl (.inl rfl) rfl rfl rfl (by decide) rfl rfl ?_
  rintro out bx1 ⟨rfl, rfl⟩
  refine after1 rfl rfl rfl rfl rfl ?_
  repeat (first
    | refine AW.seq ?_
    | refine AW.reg ?_
    | refine Reg.opS tab_ok (hint := []) rfl rfl rfl rfl rfl trivial ?_
    | refine Reg.opN tab_ok (hint := []) rfl rfl rfl rfl trivial ?_
    | refine Reg.nil ?_
    | refine thenA_normal ?_
    | refine AW.condT rfl ?_
    | refine AW.condF rfl ?_
    | refine AW.skip ?_
    | refine AW.block ?_
    | refine AW.exit ?_
    | refine AW.ret ?_
    | refine thenA_exit ?_
    | refine thenA_ret ?_
    | refine blockA_normal ?_
    | refine blockA_hit ?_
    | refine blockA_miss rfl ?_
    | refine blockA_ret ?_
    | refine Reg.panic rfl rfl rfl rfl ?_
    | refine thenA_panic ?_
    | refine blockA_panic ?_)
  cases hk : (t.kind == 1) with
  | false =>
    have hk2 : (t.kind != 1) = true := by simp [bne, hk]
    refine AW.cond rfl (fun _ => ?_) (fun hh => ?_)
    · repeat (first
        | refine AW.seq ?_
        | refine AW.reg ?_
        | refine Reg.opS tab_ok (hint := []) rfl rfl rfl rfl rfl trivial ?_
        | refine Reg.opN tab_ok (hint := []) rfl rfl rfl rfl trivial ?_
        | refine Reg.nil ?_
        | refine thenA_normal ?_
        | refine AW.condT rfl ?_
        | refine AW.condF rfl ?_
        | refine AW.skip ?_
        | refine AW.block ?_
        | refine AW.exit ?_
        | refine AW.ret ?_
        | refine thenA_exit ?_
        | refine thenA_ret ?_
        | refine blockA_normal ?_
        | refine blockA_hit ?_
        | refine blockA_miss rfl ?_
        | refine blockA_ret ?_
        | refine Reg.panic rfl rfl rfl rfl ?_
        | refine thenA_panic ?_
        | refine blockA_panic ?_)
      refine Reg.call tab_ok [0] (fail_any 61 h) callable46 rfl (.inl rfl) rfl rfl rfl (by decide) rfl rfl ?_
      rintro out bx1 ⟨rfl, rfl⟩
      refine after1p rfl rfl rfl ?_
      repeat (first
        | refine AW.seq ?_
        | refine AW.reg ?_
        | refine Reg.opS tab_ok (hint := []) rfl rfl rfl rfl rfl trivial ?_
        | refine Reg.opN tab_ok (hint := []) rfl rfl rfl rfl trivial ?_
        | refine Reg.nil ?_
        | refine thenA_normal ?_
        | refine AW.condT rfl ?_
        | refine AW.condF rfl ?_
        | refine AW.skip ?_
        | refine AW.block ?_
        | refine AW.exit ?_
        | refine AW.ret ?_
        | refine thenA_exit ?_
        | refine thenA_ret ?_
        | refine blockA_normal ?_
        | refine blockA_hit ?_
        | refine blockA_miss rfl ?_
        | refine blockA_ret ?_
        | refine Reg.panic rfl rfl rfl rfl ?_
        | refine thenA_panic ?_
        | refine blockA_panic ?_)
      refine ⟨rfl, ?_⟩
      simp only [hk]
      exact ⟨rfl, _, rfl⟩
    · rw [hk2] at hh
      cases hh
  | true =>
    have hk2 : (t.kind != 1) = false := by simp [bne, hk]
    refine AW.cond rfl (fun hh => ?_) (fun _ => ?_)
    · rw [hk2] at hh
      cases hh
    · repeat (first
        | refine AW.seq ?_
        | refine AW.reg ?_
        | refine Reg.opS tab_ok (hint := []) rfl rfl rfl rfl rfl trivial ?_
        | refine Reg.opN tab_ok (hint := []) rfl rfl rfl rfl trivial ?_
        | refine Reg.nil ?_
        | refine thenA_normal ?_
        | refine AW.condT rfl ?_
        | refine AW.condF rfl ?_
        | refine AW.skip ?_
        | refine AW.block ?_
        | refine AW.exit ?_
        | refine AW.ret ?_
        | refine thenA_exit ?_
        | refine thenA_ret ?_
        | refine blockA_normal ?_
        | refine blockA_hit ?_
        | refine blockA_miss rfl ?_
        | refine blockA_ret ?_
        | refine Reg.panic rfl rfl rfl rfl ?_
        | refine thenA_panic ?_
        | refine blockA_panic ?_)
      refine Reg.call tab_ok [0] (take_any h) callable52 rfl (.inl rfl) rfl rfl rfl (by decide) rfl rfl ?_
      rintro out bx1 ⟨rfl, rfl⟩
      refine after1 rfl rfl rfl rfl rfl ?_
      repeat (first
        | refine AW.seq ?_
        | refine AW.reg ?_
        | refine Reg.opS tab_ok (hint := []) rfl rfl rfl rfl rfl trivial ?_
        | refine Reg.opN tab_ok (hint := []) rfl rfl rfl rfl trivial ?_
        | refine Reg.nil ?_
        | refine thenA_normal ?_
        | refine AW.condT rfl ?_
        | refine AW.condF rfl ?_
        | refine AW.skip ?_
        | refine AW.block ?_
        | refine AW.exit ?_
        | refine AW.ret ?_
        | refine thenA_exit ?_
        | refine thenA_ret ?_
        | refine blockA_normal ?_
        | refine blockA_hit ?_
        | refine blockA_miss rfl ?_
        | refine blockA_ret ?_
        | refine Reg.panic rfl rfl rfl rfl ?_
        | refine thenA_panic ?_
        | refine blockA_panic ?_)
      refine ⟨_, rfl, rfl, rfl, ?_⟩
      simp only [hk, if_true]
      exact ⟨⟨rfl, rfl⟩, h.live (fun e => by rw [e] at hk; cases hk)⟩

theorem callable57 : Callable Tryd.prog 57 := ⟨_, Tryd.func57, rfl, rfl⟩

theorem of_any (k p : Int) (rows : List (List AV)) (fl : Bool) : ACalls Tryd.prog G 55 [.d (.val (.int .i64 k)), .d (.val (.int .i64 p)), .d (.sl 5 rows fl)] [] fun out b =>
    out = .ret (.d (.agg [.val (.int .i64 k), .val (.string ⟨#[]⟩), .sl 5 rows fl, .sl 1 [] true, .val (.int .i64 p)])) ∧ b = [] := by
  refine ACalls.body tab_ok Tryd.func55 rfl rfl ?_
  repeat (first
    | refine AW.seq ?_
    | refine AW.reg ?_
    | refine Reg.opS tab_ok (hint := []) rfl rfl rfl rfl rfl trivial ?_
    | refine Reg.opN tab_ok (hint := []) rfl rfl rfl rfl trivial ?_
    | refine Reg.nil ?_
    | refine thenA_normal ?_
    | refine AW.condT rfl ?_
    | refine AW.condF rfl ?_
    | refine AW.skip ?_
    | refine AW.block ?_
    | refine AW.exit ?_
    | refine AW.ret ?_
    | refine thenA_exit ?_
    | refine thenA_ret ?_
    | refine blockA_normal ?_
    | refine blockA_hit ?_
    | refine blockA_miss rfl ?_
    | refine blockA_ret ?_
    | refine Reg.panic rfl rfl rfl rfl ?_
    | refine thenA_panic ?_
    | refine blockA_panic ?_)
  exact ⟨_, rfl, rfl, rfl, rfl, rfl⟩

theorem callable55 : Callable Tryd.prog 55 := ⟨_, Tryd.func55, rfl, rfl⟩

theorem arrow_any (h : Suf toks (t :: s)) : ACalls Tryd.prog G 53 [.ptr 0 0] [rd toks f (t :: s)] fun out b => out = .ret (.d (.val (.int .i64 (arrowP (t :: s))))) ∧ b = [rd toks f (t :: s)] := by
  unfold arrowP
  refine ACalls.body tab_ok Tryd.func53 rfl rfl ?_
  repeat (first
    | refine AW.seq ?_
    | refine AW.reg ?_
    | refine Reg.opS tab_ok (hint := []) rfl rfl rfl rfl rfl trivial ?_
    | refine Reg.opN tab_ok (hint := []) rfl rfl rfl rfl trivial ?_
    | refine Reg.nil ?_
    | refine thenA_normal ?_
    | refine AW.condT rfl ?_
    | refine AW.condF rfl ?_
    | refine AW.skip ?_
    | refine AW.block ?_
    | refine AW.exit ?_
    | refine AW.ret ?_
    | refine thenA_exit ?_
    | refine thenA_ret ?_
    | refine blockA_normal ?_
    | refine blockA_hit ?_
    | refine blockA_miss rfl ?_
    | refine blockA_ret ?_
    | refine Reg.panic rfl rfl rfl rfl ?_
    | refine thenA_panic ?_
    | refine blockA_panic ?_)
  refine Reg.call tab_ok [0] (sees_any (bs [45, 62]) h) callable48 rfl (.inl rfl) rfl rfl rfl (by decide) rfl rfl ?_
  rintro out bx1 ⟨rfl, rfl⟩
  refine after1 rfl rfl rfl rfl rfl ?_
  repeat (first
    | refine AW.seq ?_
    | refine AW.reg ?_
    | refine Reg.opS tab_ok (hint := []) rfl rfl rfl rfl rfl trivial ?_
    | refine Reg.opN tab_ok (hint := []) rfl rfl rfl rfl trivial ?_
    | refine Reg.nil ?_
    | refine thenA_normal ?_
    | refine AW.condT rfl ?_
    | refine AW.condF rfl ?_
    | refine AW.skip ?_
    | refine AW.block ?_
    | refine AW.exit ?_
    | refine AW.ret ?_
    | refine thenA_exit ?_
    | refine thenA_ret ?_
    | refine blockA_normal ?_
    | refine blockA_hit ?_
    | refine blockA_miss rfl ?_
    | refine blockA_ret ?_
    | refine Reg.panic rfl rfl rfl rfl ?_
    | refine thenA_panic ?_
    | refine blockA_panic ?_)
  refine AW.cond rfl (fun hh => ?_) (fun hh => ?_)
  · rw [hh]
    repeat (first
      | refine AW.seq ?_
      | refine AW.reg ?_
      | refine Reg.opS tab_ok (hint := []) rfl rfl rfl rfl rfl trivial ?_
      | refine Reg.opN tab_ok (hint := []) rfl rfl rfl rfl trivial ?_
      | refine Reg.nil ?_
      | refine thenA_normal ?_
      | refine AW.condT rfl ?_
      | refine AW.condF rfl ?_
      | refine AW.skip ?_
      | refine AW.block ?_
      | refine AW.exit ?_
      | refine AW.ret ?_
      | refine thenA_exit ?_
      | refine thenA_ret ?_
      | refine blockA_normal ?_
      | refine blockA_hit ?_
      | refine blockA_miss rfl ?_
      | refine blockA_ret ?_
      | refine Reg.panic rfl rfl rfl rfl ?_
      | refine thenA_panic ?_
      | refine blockA_panic ?_)
    exact ⟨_, rfl, rfl, rfl, rfl, rfl⟩
  · rw [hh]
    repeat (first
      | refine AW.seq ?_
      | refine AW.reg ?_
      | refine Reg.opS tab_ok (hint := []) rfl rfl rfl rfl rfl trivial ?_
      | refine Reg.opN tab_ok (hint := []) rfl rfl rfl rfl trivial ?_
      | refine Reg.nil ?_
      | refine thenA_normal ?_
      | refine AW.condT rfl ?_
      | refine AW.condF rfl ?_
      | refine AW.skip ?_
      | refine AW.block ?_
      | refine AW.exit ?_
      | refine AW.ret ?_
      | refine thenA_exit ?_
      | refine thenA_ret ?_
      | refine blockA_normal ?_
      | refine blockA_hit ?_
      | refine blockA_miss rfl ?_
      | refine blockA_ret ?_
      | refine Reg.panic rfl rfl rfl rfl ?_
      | refine thenA_panic ?_
      | refine blockA_panic ?_)
    refine Reg.call tab_ok [0] (sees_any (bs [42]) h) callable48 rfl (.inl rfl) rfl rfl rfl (by decide) rfl rfl ?_
    rintro out bx1 ⟨rfl, rfl⟩
    refine after1 rfl rfl rfl rfl rfl ?_
    repeat (first
      | refine AW.seq ?_
      | refine AW.reg ?_
      | refine Reg.opS tab_ok (hint := []) rfl rfl rfl rfl rfl trivial ?_
      | refine Reg.opN tab_ok (hint := []) rfl rfl rfl rfl trivial ?_
      | refine Reg.nil ?_
      | refine thenA_normal ?_
      | refine AW.condT rfl ?_
      | refine AW.condF rfl ?_
      | refine AW.skip ?_
      | refine AW.block ?_
      | refine AW.exit ?_
      | refine AW.ret ?_
      | refine thenA_exit ?_
      | refine thenA_ret ?_
      | refine blockA_normal ?_
      | refine blockA_hit ?_
      | refine blockA_miss rfl ?_
      | refine blockA_ret ?_
      | refine Reg.panic rfl rfl rfl rfl ?_
      | refine thenA_panic ?_
      | refine blockA_panic ?_)
    refine AW.cond rfl (fun hh => ?_) (fun hh => ?_)
    · rw [hh]
      repeat (first
        | refine AW.seq ?_
        | refine AW.reg ?_
        | refine Reg.opS tab_ok (hint := []) rfl rfl rfl rfl rfl trivial ?_
        | refine Reg.opN tab_ok (hint := []) rfl rfl rfl rfl trivial ?_
        | refine Reg.nil ?_
        | refine thenA_normal ?_
        | refine AW.condT rfl ?_
        | refine AW.condF rfl ?_
        | refine AW.skip ?_
        | refine AW.block ?_
        | refine AW.exit ?_
        | refine AW.ret ?_
        | refine thenA_exit ?_
        | refine thenA_ret ?_
        | refine blockA_normal ?_
        | refine blockA_hit ?_
        | refine blockA_miss rfl ?_
        | refine blockA_ret ?_
        | refine Reg.panic rfl rfl rfl rfl ?_
        | refine thenA_panic ?_
        | refine blockA_panic ?_)
      exact ⟨_, rfl, rfl, rfl, rfl, rfl⟩
    · rw [hh]
      repeat (first
        | refine AW.seq ?_
        | refine AW.reg ?_
        | refine Reg.opS tab_ok (hint := []) rfl rfl rfl rfl rfl trivial ?_
        | refine Reg.opN tab_ok (hint := []) rfl rfl rfl rfl trivial ?_
        | refine Reg.nil ?_
        | refine thenA_normal ?_
        | refine AW.condT rfl ?_
        | refine AW.condF rfl ?_
        | refine AW.skip ?_
        | refine AW.block ?_
        | refine AW.exit ?_
        | refine AW.ret ?_
        | refine thenA_exit ?_
        | refine thenA_ret ?_
        | refine blockA_normal ?_
        | refine blockA_hit ?_
        | refine blockA_miss rfl ?_
        | refine blockA_ret ?_
        | refine Reg.panic rfl rfl rfl rfl ?_
        | refine thenA_panic ?_
        | refine blockA_panic ?_)
      exact ⟨_, rfl, rfl, rfl, rfl, rfl⟩

theorem callable53 : Callable Tryd.prog 53 := ⟨_, Tryd.func53, rfl, rfl⟩

theorem strsC_snoc (l : List ByteArray) (x : ByteArray) : strsC (l ++ [x]) = strsC l ++ [[.val (.string x)]] := by simp [strsC]
theorem strsC_len (l : List ByteArray) : (strsC l).length = l.length := by simp [strsC]

theorem names_any (h : Suf toks (t :: s)) : ACalls Tryd.prog G 49 [.ptr 0 0] [rd toks f (t :: s)] (PRout toks f (fun l => .d (.sl 1 (strsC l) false)) (namesP (t :: s))) := by
  unfold namesP
  refine ACalls.body tab_ok Tryd.func49 rfl rfl ?_
  repeat (first
    | refine AW.seq ?_
    | refine AW.reg ?_
    | refine Reg.opS tab_ok (hint := []) rfl rfl rfl rfl rfl trivial ?_
    | refine Reg.opN tab_ok (hint := []) rfl rfl rfl rfl trivial ?_
    | refine Reg.nil ?_
    | refine thenA_normal ?_
    | refine AW.condT rfl ?_
    | refine AW.condF rfl ?_
    | refine AW.skip ?_
    | refine AW.block ?_
    | refine AW.exit ?_
    | refine AW.ret ?_
    | refine thenA_exit ?_
    | refine thenA_ret ?_
    | refine blockA_normal ?_
    | refine blockA_hit ?_
    | refine blockA_miss rfl ?_
    | refine blockA_ret ?_
    | refine Reg.panic rfl rfl rfl rfl ?_
    | refine thenA_panic ?_
    | refine blockA_panic ?_)
  refine Reg.call tab_ok [0] (name_any h) callable57 rfl (.inl rfl) rfl rfl rfl (by decide) rfl rfl ?_
  intro out bx1 ho
  cases hn : nameP (t :: s) with
  | err p e =>
    rw [hn] at ho
    obtain ⟨rfl, s', rfl⟩ := ho
    refine after1p rfl rfl rfl ?_
    repeat (first
      | refine AW.seq ?_
      | refine AW.reg ?_
      | refine Reg.opS tab_ok (hint := []) rfl rfl rfl rfl rfl trivial ?_
      | refine Reg.opN tab_ok (hint := []) rfl rfl rfl rfl trivial ?_
      | refine Reg.nil ?_
      | refine thenA_normal ?_
      | refine AW.condT rfl ?_
      | refine AW.condF rfl ?_
      | refine AW.skip ?_
      | refine AW.block ?_
      | refine AW.exit ?_
      | refine AW.ret ?_
      | refine thenA_exit ?_
      | refine thenA_ret ?_
      | refine blockA_normal ?_
      | refine blockA_hit ?_
      | refine blockA_miss rfl ?_
      | refine blockA_ret ?_
      | refine Reg.panic rfl rfl rfl rfl ?_
      | refine thenA_panic ?_
      | refine blockA_panic ?_)
    exact ⟨rfl, rfl, _, rfl⟩
  | ok x r =>
    rw [hn] at ho
    obtain ⟨⟨rfl, rfl⟩, hlive⟩ := ho
    refine after1 rfl rfl rfl rfl rfl ?_
    repeat (first
      | refine AW.seq ?_
      | refine AW.reg ?_
      | refine Reg.opS tab_ok (hint := []) rfl rfl rfl rfl rfl trivial ?_
      | refine Reg.opN tab_ok (hint := []) rfl rfl rfl rfl trivial ?_
      | refine Reg.nil ?_
      | refine thenA_normal ?_
      | refine AW.condT rfl ?_
      | refine AW.condF rfl ?_
      | refine AW.skip ?_
      | refine AW.block ?_
      | refine AW.exit ?_
      | refine AW.ret ?_
      | refine thenA_exit ?_
      | refine thenA_ret ?_
      | refine blockA_normal ?_
      | refine blockA_hit ?_
      | refine blockA_miss rfl ?_
      | refine blockA_ret ?_
      | refine Reg.panic rfl rfl rfl rfl ?_
      | refine thenA_panic ?_
      | refine blockA_panic ?_)
    refine AW.adopt (k := 3) rfl rfl ?_
    have hsm := hlive.1.small
    have hle := hlive.1.le
    refine AW.loop (S := List ByteArray × List Tok) (fun st => Live toks st.2 ∧ st.1.length + st.2.length ≤ 1 + r.length ∧ st.1 ++ (namesT st.2).1 = x :: (namesT r).1 ∧ (namesT st.2).2 = (namesT r).2)
      (fun st => [(3, .own 1 1 (strsC st.1)), (0, .ptr 0 0)]) (fun st => [rd toks f st.2, .acc 1 st.1.length]) (fun st => st.2.length) ([x], r) ⟨hlive, Nat.le_refl _, rfl, rfl⟩ (fun _ => rfl)
      ⟨⟨.refl _, .refl _, trivial⟩, BxLe.refl _, rfl, rfl⟩ ?_
    rintro ⟨acc, s'⟩ ⟨⟨hs, u, r', rfl⟩, hlen, hacc, hrest⟩
    simp only at hlen hacc hrest
    repeat (first
      | refine AW.seq ?_
      | refine AW.reg ?_
      | refine Reg.opS tab_ok (hint := []) rfl rfl rfl rfl rfl trivial ?_
      | refine Reg.opN tab_ok (hint := []) rfl rfl rfl rfl trivial ?_
      | refine Reg.nil ?_
      | refine thenA_normal ?_
      | refine AW.condT rfl ?_
      | refine AW.condF rfl ?_
      | refine AW.skip ?_
      | refine AW.block ?_
      | refine AW.exit ?_
      | refine AW.ret ?_
      | refine thenA_exit ?_
      | refine thenA_ret ?_
      | refine blockA_normal ?_
      | refine blockA_hit ?_
      | refine blockA_miss rfl ?_
      | refine blockA_ret ?_
      | refine Reg.panic rfl rfl rfl rfl ?_
      | refine thenA_panic ?_
      | refine blockA_panic ?_)
    refine Reg.call tab_ok [0] (now_any hs) callable27 rfl (.inl rfl) rfl rfl rfl (by decide) rfl rfl ?_
    rintro out bx1 ⟨rfl, rfl⟩
    refine after1 rfl rfl rfl rfl rfl ?_
    repeat (first
      | refine AW.seq ?_
      | refine AW.reg ?_
      | refine Reg.opS tab_ok (hint := []) rfl rfl rfl rfl rfl trivial ?_
      | refine Reg.opN tab_ok (hint := []) rfl rfl rfl rfl trivial ?_
      | refine Reg.nil ?_
      | refine thenA_normal ?_
      | refine AW.condT rfl ?_
      | refine AW.condF rfl ?_
      | refine AW.skip ?_
      | refine AW.block ?_
      | refine AW.exit ?_
      | refine AW.ret ?_
      | refine thenA_exit ?_
      | refine thenA_ret ?_
      | refine blockA_normal ?_
      | refine blockA_hit ?_
      | refine blockA_miss rfl ?_
      | refine blockA_ret ?_
      | refine Reg.panic rfl rfl rfl rfl ?_
      | refine thenA_panic ?_
      | refine blockA_panic ?_)
    cases hk : (u.kind == 1) with
    | false =>
      simp only [namesT, hk] at hacc hrest
      repeat (first
        | refine AW.seq ?_
        | refine AW.reg ?_
        | refine Reg.opS tab_ok (hint := []) rfl rfl rfl rfl rfl trivial ?_
        | refine Reg.opN tab_ok (hint := []) rfl rfl rfl rfl trivial ?_
        | refine Reg.nil ?_
        | refine thenA_normal ?_
        | refine AW.condT rfl ?_
        | refine AW.condF rfl ?_
        | refine AW.skip ?_
        | refine AW.block ?_
        | refine AW.exit ?_
        | refine AW.ret ?_
        | refine thenA_exit ?_
        | refine thenA_ret ?_
        | refine blockA_normal ?_
        | refine blockA_hit ?_
        | refine blockA_miss rfl ?_
        | refine blockA_ret ?_
        | refine Reg.panic rfl rfl rfl rfl ?_
        | refine thenA_panic ?_
        | refine blockA_panic ?_)
      refine ⟨_, rfl, rfl, rfl, ⟨?_, ?_⟩, ?_⟩
      · rw [← hacc]
        simp
      · rw [← hrest]
        rfl
      · rw [← hrest]
        exact ⟨hs, u, r', rfl⟩
    | true =>
      simp only [namesT, hk, if_true] at hacc hrest
      repeat (first
        | refine AW.seq ?_
        | refine AW.reg ?_
        | refine Reg.opS tab_ok (hint := []) rfl rfl rfl rfl rfl trivial ?_
        | refine Reg.opN tab_ok (hint := []) rfl rfl rfl rfl trivial ?_
        | refine Reg.nil ?_
        | refine thenA_normal ?_
        | refine AW.condT rfl ?_
        | refine AW.condF rfl ?_
        | refine AW.skip ?_
        | refine AW.block ?_
        | refine AW.exit ?_
        | refine AW.ret ?_
        | refine thenA_exit ?_
        | refine thenA_ret ?_
        | refine blockA_normal ?_
        | refine blockA_hit ?_
        | refine blockA_miss rfl ?_
        | refine blockA_ret ?_
        | refine Reg.panic rfl rfl rfl rfl ?_
        | refine thenA_panic ?_
        | refine blockA_panic ?_)
      refine Reg.call tab_ok [0] (name_any hs) callable57 rfl (.inl rfl) rfl rfl rfl (by decide) rfl rfl ?_
      intro out bx1 ho
      simp only [nameP, hk, if_true] at ho
      obtain ⟨⟨rfl, rfl⟩, hlive2⟩ := ho
      refine after1 rfl rfl rfl rfl rfl ?_
      repeat (first
        | refine AW.seq ?_
        | refine AW.reg ?_
        | refine Reg.opS tab_ok (hint := []) rfl rfl rfl rfl rfl trivial ?_
        | refine Reg.opN tab_ok (hint := []) rfl rfl rfl rfl trivial ?_
        | refine Reg.nil ?_
        | refine thenA_normal ?_
        | refine AW.condT rfl ?_
        | refine AW.condF rfl ?_
        | refine AW.skip ?_
        | refine AW.block ?_
        | refine AW.exit ?_
        | refine AW.ret ?_
        | refine thenA_exit ?_
        | refine thenA_ret ?_
        | refine blockA_normal ?_
        | refine blockA_hit ?_
        | refine blockA_miss rfl ?_
        | refine blockA_ret ?_
        | refine Reg.panic rfl rfl rfl rfl ?_
        | refine thenA_panic ?_
        | refine blockA_panic ?_)
      refine Reg.append tab_ok rfl rfl rfl rfl rfl rfl rfl rfl rfl ?_ rfl rfl ?_ ?_ ?_ ?_
      · simp [strsC]
      · simp
        exact rfl
      · simp [strsC]; omega
      · simp [strsC]; omega
      repeat (first
        | refine AW.seq ?_
        | refine AW.reg ?_
        | refine Reg.opS tab_ok (hint := []) rfl rfl rfl rfl rfl trivial ?_
        | refine Reg.opN tab_ok (hint := []) rfl rfl rfl rfl trivial ?_
        | refine Reg.nil ?_
        | refine thenA_normal ?_
        | refine AW.condT rfl ?_
        | refine AW.condF rfl ?_
        | refine AW.skip ?_
        | refine AW.block ?_
        | refine AW.exit ?_
        | refine AW.ret ?_
        | refine thenA_exit ?_
        | refine thenA_ret ?_
        | refine blockA_normal ?_
        | refine blockA_hit ?_
        | refine blockA_miss rfl ?_
        | refine blockA_ret ?_
        | refine Reg.panic rfl rfl rfl rfl ?_
        | refine thenA_panic ?_
        | refine blockA_panic ?_)
      refine ⟨(acc ++ [u.text], r'), ⟨hlive2, ?_, ?_, hrest⟩, ?_, ?_, ?_, rfl, rfl⟩
      · simp at hlen ⊢
        omega
      · simpa using hacc
      · simp
      · simp only [strsC_snoc]
        exact ⟨.refl _, .refl _, trivial⟩
      · simp only [strsC_len, List.length_append]
        exact BxLe.refl _

theorem callable49 : Callable Tryd.prog 49 := ⟨_, Tryd.func49, rfl, rfl⟩

mutual
def T.cells : T → List AV
  | .mk k n ks ns a => [.val (.int .i64 k), .val (.string n), .sl 5 (T.rows ks) false, .sl 1 (strsC ns) false, .val (.int .i64 a)]
def T.rows : List T → List (List AV)
  | [] => []
  | t :: ts => T.cells t :: T.rows ts
end
/-- A tree's cells. -/
def tC (t : T) : List AV := [.val (.int .i64 t.kind), .val (.string t.name), .sl 5 (T.rows t.kids) false, .sl 1 (strsC t.names) false, .val (.int .i64 t.at_)]
theorem T.cells_eq (t : T) : T.cells t = tC t := by
  cases t
  simp only [T.cells, tC, T.kind, T.name, T.kids, T.names, T.at_]
theorem T.rows_nil : T.rows [] = [] := by simp only [T.rows]
theorem T.rows_cons (t : T) (ts : List T) : T.rows (t :: ts) = tC t :: T.rows ts := by simp only [T.rows, T.cells_eq]
theorem T.rows_len : ∀ ts : List T, (T.rows ts).length = ts.length
  | [] => by simp only [T.rows_nil, List.length_nil]
  | t :: ts => by simp only [T.rows_cons, List.length_cons, T.rows_len ts]
theorem T.rows_append : ∀ ts us : List T, T.rows (ts ++ us) = T.rows ts ++ T.rows us
  | [], us => by simp only [T.rows_nil, List.nil_append]
  | t :: ts, us => by simp only [T.rows_cons, List.cons_append, T.rows_append ts us]
theorem T.rows_snoc (ts : List T) (t : T) : T.rows (ts ++ [t]) = T.rows ts ++ [tC t] := by simp only [T.rows_append, T.rows_cons, T.rows_nil]

/-- A tree in a box. -/
def tB (t : T) : Box := .cells [.d (.val (.int .i64 t.kind)), .d (.val (.string t.name)), .d (.sl 5 (T.rows t.kids) false), .d (.sl 1 (strsC t.names) false), .d (.val (.int .i64 t.at_))]

theorem tC_le {k a : Int} {n : ByteArray} {ks : List T} {ns : List ByteArray} {rows rows2 : List (List AV)} {f1 f2 : Bool} (h1 : rows = T.rows ks) (h2 : rows2 = strsC ns) :
    SLe (.d (.agg [.val (.int .i64 k), .val (.string n), .sl 5 rows f1, .sl 1 rows2 f2, .val (.int .i64 a)])) (.d (.agg (tC (.mk k n ks ns a)))) := by
  subst h1 h2
  exact .d (.agg (.cons (.refl _) (.cons (.refl _) (.cons (.sl (AVless.refl _)) (.cons (.sl (AVless.refl _)) (.cons (.refl _) .nil))))))
theorem tB_le {k a : Int} {n : ByteArray} {ks : List T} {ns : List ByteArray} {rows rows2 : List (List AV)} {f1 f2 : Bool} (h1 : rows = T.rows ks) (h2 : rows2 = strsC ns) {xs ys : List Box} (h : BxLe xs ys) :
    BxLe (.cells [.d (.val (.int .i64 k)), .d (.val (.string n)), .d (.sl 5 rows f1), .d (.sl 1 rows2 f2), .d (.val (.int .i64 a))] :: xs) (tB (.mk k n ks ns a) :: ys) := by
  subst h1 h2
  exact ⟨⟨.refl _, .refl _, .full .., .full .., .refl _, trivial⟩, h⟩

abbrev treeV (t : T) : SV := .d (.agg (tC t))

theorem Suf.nextL {toks : List Tok} {t : Tok} {s : List Tok} (h : Suf toks (t :: s)) : (.cells [.d (.sl 3 (toks.map tokC) f), .d (.val (.int .i64 (IntKind.i64.wrap ((toks.length : Int) - ((t :: s).length : Nat) + 1))))] : Box) = rd toks f s := by
  rw [h.next]
  rfl

end Go.Proofs.YtamkldohfhidiaaDoor
