import Derived.Test.YtamkldohfhidiaaDoorW16
import Derived.Test.YtamkldohfhidiaaDoorPf
namespace Go.Abs
/-- What a reading has for granted: it goes on, and its refusals have numbers. -/
def Fine {α : Type} (p : List Tok → PR α) : Prop := ∀ X s, Lv X s → match p s with | .ok _ r => Lv X r | .err _ g => g ≠ 0
theorem termP_fine (d : Nat) : Fine (termP d) := by
  intro X s hs
  have h1 := termP_nt (X := X) (k := 0) d s hs trivial
  have h2 := termP_ec d s
  cases e : termP d s with
  | ok x r => rw [e] at h1; exact h1.2.1
  | err q g =>
    have := h2 q g e
    simp only
    omega
theorem declP_fine : Fine declP := by
  intro X s hs
  have h1 := declP_nt (X := X) (k := 0) s hs trivial
  have h2 := declP_ec s
  cases e : declP s with
  | ok x r => rw [e] at h1; exact h1.2.1
  | err q g =>
    have := h2 q g e
    simp only
    omega
theorem declsL_fine : ∀ (n : Nat) (ks : List T), Fine (declsL n ks)
  | 0, ks => fun X s hs => hs
  | n + 1, ks => by
    intro X s hs
    obtain ⟨t, r, rfl⟩ := hs.ne
    have h1 := declP_fine X (t :: r) hs
    simp only [declsL]
    by_cases hk : (t.kind == 0) = true
    · rw [if_pos hk]
      exact hs
    · rw [if_neg hk]
      cases e : declP (t :: r) with
      | err q g =>
        rw [e] at h1
        rw [PR.err_bind]
        exact h1
      | ok d r2 =>
        rw [e] at h1
        rw [PR.ok_bind]
        exact declsL_fine n _ X r2 h1
theorem endT_end (l : List UInt8) (Y : List Tok) : EndTok (endT l :: Y) := ⟨endT l, Y, rfl, rfl, by rw [Lib.toList_data, Lib.toList_data]; rfl⟩
theorem toks_lv {l : List UInt8} {ts : List Tok} (h : scanP l = .ok ts) : Lv [endT l, endT l, endT l] (ts ++ [endT l, endT l]) := by
  obtain ⟨ts0, rfl, _⟩ := scanP_ok h
  exact ⟨endT_end l _, ts0, by simp⟩
theorem Top_bad {α : Type} {pr : List Tok → PR α} (hp : Fine pr) {l : List UInt8} {p e : Int} (h : readTop pr l = .bad p e) : (e != 0) = true := by
  have key : e ≠ 0 := by
    unfold readTop at h
    split at h
    · rename_i q g hs
      cases h
      rcases scanP_bad hs with rfl | rfl | rfl <;> decide
    · rename_i ts hs
      have h1 := hp _ _ (toks_lv hs)
      unfold restTop at h
      split at h
      · rename_i q g hq
        cases h
        rw [hq] at h1
        exact h1
      · split at h
        · cases h
        · cases h
          decide
      · rename_i x hx
        rw [hx] at h1
        obtain ⟨t, r, h1⟩ := h1.ne
        cases h1
  simp [bne, key]
end Go.Abs
namespace Go.Proofs.YtamkldohfhidiaaDoor
open Go Go.Abs

theorem treeTerm_any (s : ByteArray) : ACalls Tryd.prog GD 10 [.d (.val (.string s))] [] (topQ treeV tree0 (readTop (termP 200) (bl s))) := by
  generalize hR : readTop (termP 200) (bl s) = R
  refine ACalls.body tab_ok Tryd.func10 rfl rfl ?_
  repeat (first
    | refine AW.seq ?_
    | refine AW.reg ?_
    | refine Reg.opS tab_ok (hint := []) rfl rfl rfl rfl rfl trivial ?_
    | refine Reg.opN tab_ok (hint := []) rfl rfl rfl rfl trivial ?_
    | refine Reg.nil ?_
    | refine thenA_normal ?_
    | refine AW.condT rfl ?_
    | refine AW.condF rfl ?_
    | refine AW.skip ?_
    | refine AW.block ?_
    | refine AW.exit ?_
    | refine AW.ret ?_
    | refine thenA_exit ?_
    | refine thenA_ret ?_
    | refine blockA_normal ?_
    | refine blockA_hit ?_
    | refine blockA_miss rfl ?_
    | refine blockA_ret ?_
    | refine Reg.panic rfl rfl rfl rfl ?_
    | refine thenA_panic ?_
    | refine blockA_panic ?_
    | refine Reg.skip rfl rfl rfl rfl rfl rfl rfl rfl ?_
    | refine Reg.ifS tab_ok (hint := []) rfl rfl rfl rfl rfl rfl rfl rfl rfl trivial ?_
    | refine AW.label ?_
    | refine AW.scope ?_
    | refine scopeA_normal ?_
    | refine scopeA_ret ?_
    | refine scopeA_exit ?_)
  refine Reg.call tab_ok [1] (readTerm_any s) callable23 rfl (.inl rfl) rfl rfl rfl (by decide) rfl rfl ?_
  rw [hR]
  intro out bx1 ho
  cases R with
  | ok x =>
    obtain ⟨rfl, rfl⟩ := ho
    refine after1 rfl rfl rfl rfl rfl ?_
    repeat (first
      | refine AW.seq ?_
      | refine AW.reg ?_
      | refine Reg.opS tab_ok (hint := []) rfl rfl rfl rfl rfl trivial ?_
      | refine Reg.opN tab_ok (hint := []) rfl rfl rfl rfl trivial ?_
      | refine Reg.nil ?_
      | refine thenA_normal ?_
      | refine AW.condT rfl ?_
      | refine AW.condF rfl ?_
      | refine AW.skip ?_
      | refine AW.block ?_
      | refine AW.exit ?_
      | refine AW.ret ?_
      | refine thenA_exit ?_
      | refine thenA_ret ?_
      | refine blockA_normal ?_
      | refine blockA_hit ?_
      | refine blockA_miss rfl ?_
      | refine blockA_ret ?_
      | refine Reg.panic rfl rfl rfl rfl ?_
      | refine thenA_panic ?_
      | refine blockA_panic ?_
      | refine Reg.skip rfl rfl rfl rfl rfl rfl rfl rfl ?_
      | refine Reg.ifS tab_ok (hint := []) rfl rfl rfl rfl rfl rfl rfl rfl rfl trivial ?_
      | refine AW.label ?_
      | refine AW.scope ?_
      | refine scopeA_normal ?_
      | refine scopeA_ret ?_
      | refine scopeA_exit ?_)
    exact ⟨_, rfl, rfl, rfl, rfl, rfl⟩
  | bad p e =>
    have he := Top_bad (termP_fine 200) hR
    obtain ⟨rfl, z, rfl⟩ := ho
    refine after1 rfl rfl rfl rfl rfl ?_
    repeat (first
      | refine AW.seq ?_
      | refine AW.reg ?_
      | refine Reg.opS tab_ok (hint := []) rfl rfl rfl rfl rfl trivial ?_
      | refine Reg.opN tab_ok (hint := []) rfl rfl rfl rfl trivial ?_
      | refine Reg.nil ?_
      | refine thenA_normal ?_
      | refine AW.condT rfl ?_
      | refine AW.condF rfl ?_
      | refine AW.skip ?_
      | refine AW.block ?_
      | refine AW.exit ?_
      | refine AW.ret ?_
      | refine thenA_exit ?_
      | refine thenA_ret ?_
      | refine blockA_normal ?_
      | refine blockA_hit ?_
      | refine blockA_miss rfl ?_
      | refine blockA_ret ?_
      | refine Reg.panic rfl rfl rfl rfl ?_
      | refine thenA_panic ?_
      | refine blockA_panic ?_
      | refine Reg.skip rfl rfl rfl rfl rfl rfl rfl rfl ?_
      | refine Reg.ifS tab_ok (hint := []) rfl rfl rfl rfl rfl rfl rfl rfl rfl trivial ?_
      | refine AW.label ?_
      | refine AW.scope ?_
      | refine scopeA_normal ?_
      | refine scopeA_ret ?_
      | refine scopeA_exit ?_)
    rw [he]
    repeat (first
      | refine AW.seq ?_
      | refine AW.reg ?_
      | refine Reg.opS tab_ok (hint := []) rfl rfl rfl rfl rfl trivial ?_
      | refine Reg.opN tab_ok (hint := []) rfl rfl rfl rfl trivial ?_
      | refine Reg.nil ?_
      | refine thenA_normal ?_
      | refine AW.condT rfl ?_
      | refine AW.condF rfl ?_
      | refine AW.skip ?_
      | refine AW.block ?_
      | refine AW.exit ?_
      | refine AW.ret ?_
      | refine thenA_exit ?_
      | refine thenA_ret ?_
      | refine blockA_normal ?_
      | refine blockA_hit ?_
      | refine blockA_miss rfl ?_
      | refine blockA_ret ?_
      | refine Reg.panic rfl rfl rfl rfl ?_
      | refine thenA_panic ?_
      | refine blockA_panic ?_
      | refine Reg.skip rfl rfl rfl rfl rfl rfl rfl rfl ?_
      | refine Reg.ifS tab_ok (hint := []) rfl rfl rfl rfl rfl rfl rfl rfl rfl trivial ?_
      | refine AW.label ?_
      | refine AW.scope ?_
      | refine scopeA_normal ?_
      | refine scopeA_ret ?_
      | refine scopeA_exit ?_)
    exact ⟨_, rfl, rfl, rfl, rfl, rfl⟩

theorem callable10 : Callable Tryd.prog 10 := ⟨_, Tryd.func10, rfl, rfl⟩

theorem treeParse_any (s : ByteArray) : ACalls Tryd.prog GD 11 [.d (.val (.string s))] [] (topQ (fun ks => .d (.sl 5 (T.rows ks) false)) (.d (.sl 5 [] true)) (readTop (declsL rounds []) (bl s))) := by
  generalize hR : readTop (declsL rounds []) (bl s) = R
  refine ACalls.body tab_ok Tryd.func11 rfl rfl ?_
  repeat (first
    | refine AW.seq ?_
    | refine AW.reg ?_
    | refine Reg.opS tab_ok (hint := []) rfl rfl rfl rfl rfl trivial ?_
    | refine Reg.opN tab_ok (hint := []) rfl rfl rfl rfl trivial ?_
    | refine Reg.nil ?_
    | refine thenA_normal ?_
    | refine AW.condT rfl ?_
    | refine AW.condF rfl ?_
    | refine AW.skip ?_
    | refine AW.block ?_
    | refine AW.exit ?_
    | refine AW.ret ?_
    | refine thenA_exit ?_
    | refine thenA_ret ?_
    | refine blockA_normal ?_
    | refine blockA_hit ?_
    | refine blockA_miss rfl ?_
    | refine blockA_ret ?_
    | refine Reg.panic rfl rfl rfl rfl ?_
    | refine thenA_panic ?_
    | refine blockA_panic ?_
    | refine Reg.skip rfl rfl rfl rfl rfl rfl rfl rfl ?_
    | refine Reg.ifS tab_ok (hint := []) rfl rfl rfl rfl rfl rfl rfl rfl rfl trivial ?_
    | refine AW.label ?_
    | refine AW.scope ?_
    | refine scopeA_normal ?_
    | refine scopeA_ret ?_
    | refine scopeA_exit ?_)
  refine Reg.call tab_ok [0] (readParse_any s) callable23 rfl (.inl rfl) rfl rfl rfl (by decide) rfl rfl ?_
  rw [hR]
  intro out bx1 ho
  cases R with
  | ok x =>
    obtain ⟨rfl, rfl⟩ := ho
    refine after1 rfl rfl rfl rfl rfl ?_
    repeat (first
      | refine AW.seq ?_
      | refine AW.reg ?_
      | refine Reg.opS tab_ok (hint := []) rfl rfl rfl rfl rfl trivial ?_
      | refine Reg.opN tab_ok (hint := []) rfl rfl rfl rfl trivial ?_
      | refine Reg.nil ?_
      | refine thenA_normal ?_
      | refine AW.condT rfl ?_
      | refine AW.condF rfl ?_
      | refine AW.skip ?_
      | refine AW.block ?_
      | refine AW.exit ?_
      | refine AW.ret ?_
      | refine thenA_exit ?_
      | refine thenA_ret ?_
      | refine blockA_normal ?_
      | refine blockA_hit ?_
      | refine blockA_miss rfl ?_
      | refine blockA_ret ?_
      | refine Reg.panic rfl rfl rfl rfl ?_
      | refine thenA_panic ?_
      | refine blockA_panic ?_
      | refine Reg.skip rfl rfl rfl rfl rfl rfl rfl rfl ?_
      | refine Reg.ifS tab_ok (hint := []) rfl rfl rfl rfl rfl rfl rfl rfl rfl trivial ?_
      | refine AW.label ?_
      | refine AW.scope ?_
      | refine scopeA_normal ?_
      | refine scopeA_ret ?_
      | refine scopeA_exit ?_)
    exact ⟨_, rfl, rfl, rfl, rfl, rfl⟩
  | bad p e =>
    have he := Top_bad (declsL_fine rounds []) hR
    obtain ⟨rfl, z, rfl⟩ := ho
    refine after1 rfl rfl rfl rfl rfl ?_
    repeat (first
      | refine AW.seq ?_
      | refine AW.reg ?_
      | refine Reg.opS tab_ok (hint := []) rfl rfl rfl rfl rfl trivial ?_
      | refine Reg.opN tab_ok (hint := []) rfl rfl rfl rfl trivial ?_
      | refine Reg.nil ?_
      | refine thenA_normal ?_
      | refine AW.condT rfl ?_
      | refine AW.condF rfl ?_
      | refine AW.skip ?_
      | refine AW.block ?_
      | refine AW.exit ?_
      | refine AW.ret ?_
      | refine thenA_exit ?_
      | refine thenA_ret ?_
      | refine blockA_normal ?_
      | refine blockA_hit ?_
      | refine blockA_miss rfl ?_
      | refine blockA_ret ?_
      | refine Reg.panic rfl rfl rfl rfl ?_
      | refine thenA_panic ?_
      | refine blockA_panic ?_
      | refine Reg.skip rfl rfl rfl rfl rfl rfl rfl rfl ?_
      | refine Reg.ifS tab_ok (hint := []) rfl rfl rfl rfl rfl rfl rfl rfl rfl trivial ?_
      | refine AW.label ?_
      | refine AW.scope ?_
      | refine scopeA_normal ?_
      | refine scopeA_ret ?_
      | refine scopeA_exit ?_)
    rw [he]
    repeat (first
      | refine AW.seq ?_
      | refine AW.reg ?_
      | refine Reg.opS tab_ok (hint := []) rfl rfl rfl rfl rfl trivial ?_
      | refine Reg.opN tab_ok (hint := []) rfl rfl rfl rfl trivial ?_
      | refine Reg.nil ?_
      | refine thenA_normal ?_
      | refine AW.condT rfl ?_
      | refine AW.condF rfl ?_
      | refine AW.skip ?_
      | refine AW.block ?_
      | refine AW.exit ?_
      | refine AW.ret ?_
      | refine thenA_exit ?_
      | refine thenA_ret ?_
      | refine blockA_normal ?_
      | refine blockA_hit ?_
      | refine blockA_miss rfl ?_
      | refine blockA_ret ?_
      | refine Reg.panic rfl rfl rfl rfl ?_
      | refine thenA_panic ?_
      | refine blockA_panic ?_
      | refine Reg.skip rfl rfl rfl rfl rfl rfl rfl rfl ?_
      | refine Reg.ifS tab_ok (hint := []) rfl rfl rfl rfl rfl rfl rfl rfl rfl trivial ?_
      | refine AW.label ?_
      | refine AW.scope ?_
      | refine scopeA_normal ?_
      | refine scopeA_ret ?_
      | refine scopeA_exit ?_)
    exact ⟨_, rfl, rfl, rfl, rfl, rfl⟩

theorem callable11 : Callable Tryd.prog 11 := ⟨_, Tryd.func11, rfl, rfl⟩

end Go.Proofs.YtamkldohfhidiaaDoor
