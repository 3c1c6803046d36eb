import Derived.Test.YtamkldohfhidiaaDoorW14
import Derived.Test.YtamkldohfhidiaaDoorAbs3
namespace Go.Proofs.YtamkldohfhidiaaDoor
open Go Go.Abs

variable {G : Glob} {toks s : List Tok} {f : Bool} {t : Tok}

abbrev iB (n : Int) : Box := .cells [.d (.val (.int .i64 n))]

theorem read1_none (p e : Int) : ACallsD Tryd.prog G 45 [.ptr 0 0, .ptr 1 0] [iB p, iB e] none fun _ b => b = [iB p, iB e] := by
  refine ACallsD.body tab_ok Tryd.func45 rfl rfl rfl rfl rfl rfl rfl rfl rfl rfl rfl ?_
  repeat (first
    | refine AW.seq ?_
    | refine AW.reg ?_
    | refine Reg.opS tab_ok (hint := []) rfl rfl rfl rfl rfl trivial ?_
    | refine Reg.opN tab_ok (hint := []) rfl rfl rfl rfl trivial ?_
    | refine Reg.nil ?_
    | refine thenA_normal ?_
    | refine AW.condT rfl ?_
    | refine AW.condF rfl ?_
    | refine AW.skip ?_
    | refine AW.block ?_
    | refine AW.exit ?_
    | refine AW.ret ?_
    | refine thenA_exit ?_
    | refine thenA_ret ?_
    | refine blockA_normal ?_
    | refine blockA_hit ?_
    | refine blockA_miss rfl ?_
    | refine blockA_ret ?_
    | refine Reg.panic rfl rfl rfl rfl ?_
    | refine thenA_panic ?_
    | refine blockA_panic ?_
    | refine Reg.skip rfl rfl rfl rfl rfl rfl rfl rfl ?_
    | refine Reg.ifS tab_ok (hint := []) rfl rfl rfl rfl rfl rfl rfl rfl rfl trivial ?_
    | refine AW.label ?_
    | refine AW.scope ?_
    | refine scopeA_normal ?_
    | refine scopeA_ret ?_
    | refine scopeA_exit ?_)
  refine Reg.opO rfl rfl rfl rfl (OpS.ifaceNil tab_ok rfl rfl (p := .val .nilIface) (r := false) rfl (.inl ⟨rfl, rfl⟩)) ?_
  repeat (first
    | refine AW.seq ?_
    | refine AW.reg ?_
    | refine Reg.opS tab_ok (hint := []) rfl rfl rfl rfl rfl trivial ?_
    | refine Reg.opN tab_ok (hint := []) rfl rfl rfl rfl trivial ?_
    | refine Reg.nil ?_
    | refine thenA_normal ?_
    | refine AW.condT rfl ?_
    | refine AW.condF rfl ?_
    | refine AW.skip ?_
    | refine AW.block ?_
    | refine AW.exit ?_
    | refine AW.ret ?_
    | refine thenA_exit ?_
    | refine thenA_ret ?_
    | refine blockA_normal ?_
    | refine blockA_hit ?_
    | refine blockA_miss rfl ?_
    | refine blockA_ret ?_
    | refine Reg.panic rfl rfl rfl rfl ?_
    | refine thenA_panic ?_
    | refine blockA_panic ?_
    | refine Reg.skip rfl rfl rfl rfl rfl rfl rfl rfl ?_
    | refine Reg.ifS tab_ok (hint := []) rfl rfl rfl rfl rfl rfl rfl rfl rfl trivial ?_
    | refine AW.label ?_
    | refine AW.scope ?_
    | refine scopeA_normal ?_
    | refine scopeA_ret ?_
    | refine scopeA_exit ?_)
  exact ⟨_, rfl, rfl, rfl, _, rfl, rfl⟩

theorem read1_some (p e q g : Int) : ACallsD Tryd.prog G 45 [.ptr 0 0, .ptr 1 0] [iB p, iB e] (some (wrongA q g)) fun _ b => b = [iB q, iB g] := by
  refine ACallsD.body tab_ok Tryd.func45 rfl rfl rfl rfl rfl rfl rfl rfl rfl rfl rfl ?_
  repeat (first
    | refine AW.seq ?_
    | refine AW.reg ?_
    | refine Reg.opS tab_ok (hint := []) rfl rfl rfl rfl rfl trivial ?_
    | refine Reg.opN tab_ok (hint := []) rfl rfl rfl rfl trivial ?_
    | refine Reg.nil ?_
    | refine thenA_normal ?_
    | refine AW.condT rfl ?_
    | refine AW.condF rfl ?_
    | refine AW.skip ?_
    | refine AW.block ?_
    | refine AW.exit ?_
    | refine AW.ret ?_
    | refine thenA_exit ?_
    | refine thenA_ret ?_
    | refine blockA_normal ?_
    | refine blockA_hit ?_
    | refine blockA_miss rfl ?_
    | refine blockA_ret ?_
    | refine Reg.panic rfl rfl rfl rfl ?_
    | refine thenA_panic ?_
    | refine blockA_panic ?_
    | refine Reg.skip rfl rfl rfl rfl rfl rfl rfl rfl ?_
    | refine Reg.ifS tab_ok (hint := []) rfl rfl rfl rfl rfl rfl rfl rfl rfl trivial ?_
    | refine AW.label ?_
    | refine AW.scope ?_
    | refine scopeA_normal ?_
    | refine scopeA_ret ?_
    | refine scopeA_exit ?_)
  refine Reg.opO rfl rfl rfl rfl (OpS.ifaceNil tab_ok rfl rfl (p := wrongA q g) (r := true) rfl (.inr ⟨⟨_, _, rfl⟩, rfl⟩)) ?_
  repeat (first
    | refine AW.seq ?_
    | refine AW.reg ?_
    | refine Reg.opS tab_ok (hint := []) rfl rfl rfl rfl rfl trivial ?_
    | refine Reg.opN tab_ok (hint := []) rfl rfl rfl rfl trivial ?_
    | refine Reg.nil ?_
    | refine thenA_normal ?_
    | refine AW.condT rfl ?_
    | refine AW.condF rfl ?_
    | refine AW.skip ?_
    | refine AW.block ?_
    | refine AW.exit ?_
    | refine AW.ret ?_
    | refine thenA_exit ?_
    | refine thenA_ret ?_
    | refine blockA_normal ?_
    | refine blockA_hit ?_
    | refine blockA_miss rfl ?_
    | refine blockA_ret ?_
    | refine Reg.panic rfl rfl rfl rfl ?_
    | refine thenA_panic ?_
    | refine blockA_panic ?_
    | refine Reg.skip rfl rfl rfl rfl rfl rfl rfl rfl ?_
    | refine Reg.ifS tab_ok (hint := []) rfl rfl rfl rfl rfl rfl rfl rfl rfl trivial ?_
    | refine AW.label ?_
    | refine AW.scope ?_
    | refine scopeA_normal ?_
    | refine scopeA_ret ?_
    | refine scopeA_exit ?_)
  refine Reg.opO rfl rfl rfl rfl (OpS.assertOk tab_ok (x := .agg [.val (.int .i64 q), .val (.int .i64 g)]) rfl rfl (fun h => by cases h) rfl) ?_
  repeat (first
    | refine AW.seq ?_
    | refine AW.reg ?_
    | refine Reg.opS tab_ok (hint := []) rfl rfl rfl rfl rfl trivial ?_
    | refine Reg.opN tab_ok (hint := []) rfl rfl rfl rfl trivial ?_
    | refine Reg.nil ?_
    | refine thenA_normal ?_
    | refine AW.condT rfl ?_
    | refine AW.condF rfl ?_
    | refine AW.skip ?_
    | refine AW.block ?_
    | refine AW.exit ?_
    | refine AW.ret ?_
    | refine thenA_exit ?_
    | refine thenA_ret ?_
    | refine blockA_normal ?_
    | refine blockA_hit ?_
    | refine blockA_miss rfl ?_
    | refine blockA_ret ?_
    | refine Reg.panic rfl rfl rfl rfl ?_
    | refine thenA_panic ?_
    | refine blockA_panic ?_
    | refine Reg.skip rfl rfl rfl rfl rfl rfl rfl rfl ?_
    | refine Reg.ifS tab_ok (hint := []) rfl rfl rfl rfl rfl rfl rfl rfl rfl trivial ?_
    | refine AW.label ?_
    | refine AW.scope ?_
    | refine scopeA_normal ?_
    | refine scopeA_ret ?_
    | refine scopeA_exit ?_)
  refine AW.draw [4, 5] [0, 1, 2, 3, 4, 5] mixed ⟨rfl, rfl, rfl, rfl, by decide⟩ ?_
  iterate 4 refine RegD.pureS tab_ok (hint := []) rfl rfl rfl rfl rfl rfl trivial ?_
  refine RegD.effS tab_ok (hint := []) [3, 2] rfl rfl rfl rfl rfl rfl rfl trivial (Stable.cons tab_ok (hint := []) rfl rfl rfl rfl trivial (Stable.cons tab_ok (hint := []) rfl rfl rfl rfl trivial Stable.nil)) ?_
  refine RegD.effS tab_ok (hint := []) [] rfl rfl rfl rfl rfl rfl rfl trivial Stable.nil ?_
  refine RegD.nil ?_
  repeat (first
    | refine AW.seq ?_
    | refine AW.reg ?_
    | refine Reg.opS tab_ok (hint := []) rfl rfl rfl rfl rfl trivial ?_
    | refine Reg.opN tab_ok (hint := []) rfl rfl rfl rfl trivial ?_
    | refine Reg.nil ?_
    | refine thenA_normal ?_
    | refine AW.condT rfl ?_
    | refine AW.condF rfl ?_
    | refine AW.skip ?_
    | refine AW.block ?_
    | refine AW.exit ?_
    | refine AW.ret ?_
    | refine thenA_exit ?_
    | refine thenA_ret ?_
    | refine blockA_normal ?_
    | refine blockA_hit ?_
    | refine blockA_miss rfl ?_
    | refine blockA_ret ?_
    | refine Reg.panic rfl rfl rfl rfl ?_
    | refine thenA_panic ?_
    | refine blockA_panic ?_
    | refine Reg.skip rfl rfl rfl rfl rfl rfl rfl rfl ?_
    | refine Reg.ifS tab_ok (hint := []) rfl rfl rfl rfl rfl rfl rfl rfl rfl trivial ?_
    | refine AW.label ?_
    | refine AW.scope ?_
    | refine scopeA_normal ?_
    | refine scopeA_ret ?_
    | refine scopeA_exit ?_)
  exact ⟨_, rfl, rfl, rfl, _, rfl, rfl⟩

theorem callable45 : Callable Tryd.prog 45 := ⟨_, Tryd.func45, rfl, rfl⟩

theorem term1_any (h : Suf toks (t :: s)) : ACalls Tryd.prog G 24 [.ptr 0 0, .ptr 1 0] [rd toks f (t :: s), tB0] fun out b =>
    match termP 200 (t :: s) with
    | .ok x r => (out = .ret (.tup []) ∧ b = [rd toks f r, tB x]) ∧ Live toks r
    | .err p e => out = .panic (wrongA p e) ∧ ∃ s, b = [rd toks f s, tB0] := by
  generalize hR : termP 200 (t :: s) = R
  refine ACalls.body tab_ok Tryd.func24 rfl rfl ?_
  repeat (first
    | refine AW.seq ?_
    | refine AW.reg ?_
    | refine Reg.opS tab_ok (hint := []) rfl rfl rfl rfl rfl trivial ?_
    | refine Reg.opN tab_ok (hint := []) rfl rfl rfl rfl trivial ?_
    | refine Reg.nil ?_
    | refine thenA_normal ?_
    | refine AW.condT rfl ?_
    | refine AW.condF rfl ?_
    | refine AW.skip ?_
    | refine AW.block ?_
    | refine AW.exit ?_
    | refine AW.ret ?_
    | refine thenA_exit ?_
    | refine thenA_ret ?_
    | refine blockA_normal ?_
    | refine blockA_hit ?_
    | refine blockA_miss rfl ?_
    | refine blockA_ret ?_
    | refine Reg.panic rfl rfl rfl rfl ?_
    | refine thenA_panic ?_
    | refine blockA_panic ?_
    | refine Reg.skip rfl rfl rfl rfl rfl rfl rfl rfl ?_
    | refine Reg.ifS tab_ok (hint := []) rfl rfl rfl rfl rfl rfl rfl rfl rfl trivial ?_
    | refine AW.label ?_
    | refine AW.scope ?_
    | refine scopeA_normal ?_
    | refine scopeA_ret ?_
    | refine scopeA_exit ?_)
  refine Reg.call tab_ok [0] (term_any 200 1 toks f t s rfl (Int.le_refl _) h) callable25 rfl (.inl rfl) rfl rfl rfl (by decide) rfl rfl ?_
  rw [hR]
  intro out bx1 ho
  cases R with
  | err p e =>
    obtain ⟨rfl, s0, rfl⟩ := ho
    refine after1p rfl rfl rfl ?_
    repeat (first
      | refine AW.seq ?_
      | refine AW.reg ?_
      | refine Reg.opS tab_ok (hint := []) rfl rfl rfl rfl rfl trivial ?_
      | refine Reg.opN tab_ok (hint := []) rfl rfl rfl rfl trivial ?_
      | refine Reg.nil ?_
      | refine thenA_normal ?_
      | refine AW.condT rfl ?_
      | refine AW.condF rfl ?_
      | refine AW.skip ?_
      | refine AW.block ?_
      | refine AW.exit ?_
      | refine AW.ret ?_
      | refine thenA_exit ?_
      | refine thenA_ret ?_
      | refine blockA_normal ?_
      | refine blockA_hit ?_
      | refine blockA_miss rfl ?_
      | refine blockA_ret ?_
      | refine Reg.panic rfl rfl rfl rfl ?_
      | refine thenA_panic ?_
      | refine blockA_panic ?_
      | refine Reg.skip rfl rfl rfl rfl rfl rfl rfl rfl ?_
      | refine Reg.ifS tab_ok (hint := []) rfl rfl rfl rfl rfl rfl rfl rfl rfl trivial ?_
      | refine AW.label ?_
      | refine AW.scope ?_
      | refine scopeA_normal ?_
      | refine scopeA_ret ?_
      | refine scopeA_exit ?_)
    exact ⟨rfl, rfl, _, rfl⟩
  | ok x r =>
    obtain ⟨⟨rfl, rfl⟩, hl⟩ := ho
    refine after1 rfl rfl rfl rfl rfl ?_
    repeat (first
      | refine AW.seq ?_
      | refine AW.reg ?_
      | refine Reg.opS tab_ok (hint := []) rfl rfl rfl rfl rfl trivial ?_
      | refine Reg.opN tab_ok (hint := []) rfl rfl rfl rfl trivial ?_
      | refine Reg.nil ?_
      | refine thenA_normal ?_
      | refine AW.condT rfl ?_
      | refine AW.condF rfl ?_
      | refine AW.skip ?_
      | refine AW.block ?_
      | refine AW.exit ?_
      | refine AW.ret ?_
      | refine thenA_exit ?_
      | refine thenA_ret ?_
      | refine blockA_normal ?_
      | refine blockA_hit ?_
      | refine blockA_miss rfl ?_
      | refine blockA_ret ?_
      | refine Reg.panic rfl rfl rfl rfl ?_
      | refine thenA_panic ?_
      | refine blockA_panic ?_
      | refine Reg.skip rfl rfl rfl rfl rfl rfl rfl rfl ?_
      | refine Reg.ifS tab_ok (hint := []) rfl rfl rfl rfl rfl rfl rfl rfl rfl trivial ?_
      | refine AW.label ?_
      | refine AW.scope ?_
      | refine scopeA_normal ?_
      | refine scopeA_ret ?_
      | refine scopeA_exit ?_)
    exact ⟨_, rfl, rfl, rfl, ⟨rfl, rfl⟩, hl⟩

theorem callable24 : Callable Tryd.prog 24 := ⟨_, Tryd.func24, rfl, rfl⟩

end Go.Proofs.YtamkldohfhidiaaDoor
namespace Go.Abs
/-- What a reading of a whole text comes to. -/
inductive Top (α : Type) where
  | ok (x : α)
  | bad (p e : Int)
def restTop {α : Type} : PR α → Top α
  | .err p e => .bad p e
  | .ok x (t :: _) => if t.kind == 0 then .ok x else .bad t.at_ 61
  | .ok _ [] => .bad 0 0
def endT (l : List UInt8) : Tok := ⟨0, bsL [], l.length⟩
def readTop {α : Type} (p : List Tok → PR α) (l : List UInt8) : Top α :=
  match scanP l with
  | .bad p e => .bad p e
  | .ok ts => restTop (p (ts ++ [endT l, endT l]))

theorem scanW_len (l : List UInt8) (a : Nat) : (scanW l a).1.length ≤ l.length := by
  induction h : l.length using Nat.strongRecOn generalizing l a with
  | _ n ih =>
    subst h
    by_cases h0 : l = []
    · subst h0
      rw [scanW_nil]
      exact Nat.le_refl _
    · cases h1 : oneP l with
      | none =>
        rw [scanW_none a h0 h1]
        exact Nat.zero_le _
      | some p =>
        obtain ⟨k, n⟩ := p
        rw [scanW_some a h0 h1]
        obtain ⟨h2, h3⟩ := oneP_pos h1
        have := ih (l.drop (n + pastT false (l.drop n))).length (by rw [List.length_drop]; omega) _ (a + (n + pastT false (l.drop n))) rfl
        simp only [List.length_cons]
        rw [List.length_drop] at this
        omega
/-- The tokens of a text: they end with the end, and are not too many. -/
theorem scanP_ok {l : List UInt8} {ts : List Tok} (h : scanP l = .ok ts) : ∃ ts0, ts = ts0 ++ [endT l] ∧ ts0.length ≤ l.length ∧ l.length ≤ 65536 := by
  unfold scanP at h
  split at h
  · cases h
  · rename_i h0
    split at h
    · cases h
    · split at h
      · rename_i ts0 hw
        cases h
        refine ⟨_, rfl, ?_, by omega⟩
        have := scanW_len (l.drop (pastT false l)) (pastT false l)
        rw [hw, List.length_drop] at this
        simp only at this
        omega
      · cases h
theorem scanP_bad {l : List UInt8} {p e : Int} (h : scanP l = .bad p e) : e = 3 ∨ e = 60 ∨ e = 61 := by
  unfold scanP at h
  split at h
  · cases h; exact .inl rfl
  · split at h
    · cases h; exact .inr (.inl rfl)
    · split at h
      · cases h
      · cases h; exact .inr (.inr rfl)
end Go.Abs
