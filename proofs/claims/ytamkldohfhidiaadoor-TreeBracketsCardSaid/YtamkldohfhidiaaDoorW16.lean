import Derived.Test.YtamkldohfhidiaaDoorW15
namespace Go.Proofs.YtamkldohfhidiaaDoor
open Go Go.Abs

theorem toks_suf {l : List UInt8} {ts : List Tok} (h : scanP l = .ok ts) : ∃ t r, ts ++ [endT l, endT l] = t :: r ∧ Suf (t :: r) (t :: r) := by
  obtain ⟨ts0, rfl, h1, h2⟩ := scanP_ok h
  have key : ∀ toks : List Tok, toks = ts0 ++ [endT l] ++ [endT l, endT l] → Suf toks toks := by
    rintro toks rfl
    refine ⟨List.suffix_refl _, ?_, ts0 ++ [endT l] ++ [endT l], endT l, by simp, rfl, by rw [strEq]; rfl⟩
    simp
    omega
  cases h3 : ts0 ++ [endT l] ++ [endT l, endT l] with
  | nil => simp at h3
  | cons t r => exact ⟨t, r, rfl, key _ h3.symm⟩

theorem rd_all (toks : List Tok) (f : Bool) : rd toks f toks = .cells [.d (.sl 3 (toks.map tokC) f), .d (.val (.int .i64 0))] := by
  simp only [rd, Int.sub_self]


/-- The box of a slice of trees, in more words. -/
abbrev outZ (z : List (List AV) × Bool) : Box := .cells [.d (.sl 5 z.1 z.2)]

abbrev treeZ (z : AV × AV × AV × AV × AV) : Box := .cells [.d z.1, .d z.2.1, .d z.2.2.1, .d z.2.2.2.1, .d z.2.2.2.2]
def readQ {α β : Type} (ob : α → Box) (bz : β → Box) (R : Top α) (out : Out) (b : List Box) : Prop :=
  match R with
  | .ok x => out = .ret (.tup [.d (.val (.int .i64 0)), .d (.val (.int .i64 0))]) ∧ b = [ob x]
  | .bad p e => out = .ret (.tup [.d (.val (.int .i64 p)), .d (.val (.int .i64 e))]) ∧ ∃ z, b = [bz z]

set_option maxHeartbeats 4000000 in
theorem readTerm_any (s : ByteArray) : ACalls Tryd.prog GD 23 [.d (.val (.string s)), .clo 24 [.ptr 0 0]] [tB0] (readQ tB treeZ (readTop (termP 200) (bl s))) := by
  generalize hR : readTop (termP 200) (bl s) = R
  refine DW.calls Tryd.func23 rfl rfl ?_
  refine DW.seq tab_ok ?_
  repeat (first
    | refine AW.seq ?_
    | refine AW.reg ?_
    | refine Reg.opS tab_ok (hint := []) rfl rfl rfl rfl rfl trivial ?_
    | refine Reg.opN tab_ok (hint := []) rfl rfl rfl rfl trivial ?_
    | refine Reg.nil ?_
    | refine thenA_normal ?_
    | refine AW.condT rfl ?_
    | refine AW.condF rfl ?_
    | refine AW.skip ?_
    | refine AW.block ?_
    | refine AW.exit ?_
    | refine AW.ret ?_
    | refine thenA_exit ?_
    | refine thenA_ret ?_
    | refine blockA_normal ?_
    | refine blockA_hit ?_
    | refine blockA_miss rfl ?_
    | refine blockA_ret ?_
    | refine Reg.panic rfl rfl rfl rfl ?_
    | refine thenA_panic ?_
    | refine blockA_panic ?_
    | refine Reg.skip rfl rfl rfl rfl rfl rfl rfl rfl ?_
    | refine Reg.ifS tab_ok (hint := []) rfl rfl rfl rfl rfl rfl rfl rfl rfl trivial ?_
    | refine AW.label ?_
    | refine AW.scope ?_
    | refine scopeA_normal ?_
    | refine scopeA_ret ?_
    | refine scopeA_exit ?_)
  refine DW.seq tab_ok ?_
  repeat (first
    | refine AW.seq ?_
    | refine AW.reg ?_
    | refine Reg.opS tab_ok (hint := []) rfl rfl rfl rfl rfl trivial ?_
    | refine Reg.opN tab_ok (hint := []) rfl rfl rfl rfl trivial ?_
    | refine Reg.nil ?_
    | refine thenA_normal ?_
    | refine AW.condT rfl ?_
    | refine AW.condF rfl ?_
    | refine AW.skip ?_
    | refine AW.block ?_
    | refine AW.exit ?_
    | refine AW.ret ?_
    | refine thenA_exit ?_
    | refine thenA_ret ?_
    | refine blockA_normal ?_
    | refine blockA_hit ?_
    | refine blockA_miss rfl ?_
    | refine blockA_ret ?_
    | refine Reg.panic rfl rfl rfl rfl ?_
    | refine thenA_panic ?_
    | refine blockA_panic ?_
    | refine Reg.skip rfl rfl rfl rfl rfl rfl rfl rfl ?_
    | refine Reg.ifS tab_ok (hint := []) rfl rfl rfl rfl rfl rfl rfl rfl rfl trivial ?_
    | refine AW.label ?_
    | refine AW.scope ?_
    | refine scopeA_normal ?_
    | refine scopeA_ret ?_
    | refine scopeA_exit ?_)
  refine Reg.call tab_ok [] (scan_any s) callable13 rfl (.inl rfl) rfl rfl rfl (by decide) rfl rfl ?_
  intro out bx1 ho
  unfold scanOut scanQ at ho
  cases hsc : scanP (bl s) with
  | bad p e =>
    rw [hsc] at ho
    obtain ⟨rfl, rfl⟩ := ho
    refine after0t rfl rfl rfl ?_
    have he : (e != 0) = true := by rcases scanP_bad hsc with rfl | rfl | rfl <;> rfl
    repeat (first
      | refine AW.seq ?_
      | refine AW.reg ?_
      | refine Reg.opS tab_ok (hint := []) rfl rfl rfl rfl rfl trivial ?_
      | refine Reg.opN tab_ok (hint := []) rfl rfl rfl rfl trivial ?_
      | refine Reg.nil ?_
      | refine thenA_normal ?_
      | refine AW.condT rfl ?_
      | refine AW.condF rfl ?_
      | refine AW.skip ?_
      | refine AW.block ?_
      | refine AW.exit ?_
      | refine AW.ret ?_
      | refine thenA_exit ?_
      | refine thenA_ret ?_
      | refine blockA_normal ?_
      | refine blockA_hit ?_
      | refine blockA_miss rfl ?_
      | refine blockA_ret ?_
      | refine Reg.panic rfl rfl rfl rfl ?_
      | refine thenA_panic ?_
      | refine blockA_panic ?_
      | refine Reg.skip rfl rfl rfl rfl rfl rfl rfl rfl ?_
      | refine Reg.ifS tab_ok (hint := []) rfl rfl rfl rfl rfl rfl rfl rfl rfl trivial ?_
      | refine AW.label ?_
      | refine AW.scope ?_
      | refine scopeA_normal ?_
      | refine scopeA_ret ?_
      | refine scopeA_exit ?_)
    refine DW.seq tab_ok ?_
    repeat (first
      | refine AW.seq ?_
      | refine AW.reg ?_
      | refine Reg.opS tab_ok (hint := []) rfl rfl rfl rfl rfl trivial ?_
      | refine Reg.opN tab_ok (hint := []) rfl rfl rfl rfl trivial ?_
      | refine Reg.nil ?_
      | refine thenA_normal ?_
      | refine AW.condT rfl ?_
      | refine AW.condF rfl ?_
      | refine AW.skip ?_
      | refine AW.block ?_
      | refine AW.exit ?_
      | refine AW.ret ?_
      | refine thenA_exit ?_
      | refine thenA_ret ?_
      | refine blockA_normal ?_
      | refine blockA_hit ?_
      | refine blockA_miss rfl ?_
      | refine blockA_ret ?_
      | refine Reg.panic rfl rfl rfl rfl ?_
      | refine thenA_panic ?_
      | refine blockA_panic ?_
      | refine Reg.skip rfl rfl rfl rfl rfl rfl rfl rfl ?_
      | refine Reg.ifS tab_ok (hint := []) rfl rfl rfl rfl rfl rfl rfl rfl rfl trivial ?_
      | refine AW.label ?_
      | refine AW.scope ?_
      | refine scopeA_normal ?_
      | refine scopeA_ret ?_
      | refine scopeA_exit ?_)
    rw [he]
    repeat (first
      | refine AW.seq ?_
      | refine AW.reg ?_
      | refine Reg.opS tab_ok (hint := []) rfl rfl rfl rfl rfl trivial ?_
      | refine Reg.opN tab_ok (hint := []) rfl rfl rfl rfl trivial ?_
      | refine Reg.nil ?_
      | refine thenA_normal ?_
      | refine AW.condT rfl ?_
      | refine AW.condF rfl ?_
      | refine AW.skip ?_
      | refine AW.block ?_
      | refine AW.exit ?_
      | refine AW.ret ?_
      | refine thenA_exit ?_
      | refine thenA_ret ?_
      | refine blockA_normal ?_
      | refine blockA_hit ?_
      | refine blockA_miss rfl ?_
      | refine blockA_ret ?_
      | refine Reg.panic rfl rfl rfl rfl ?_
      | refine thenA_panic ?_
      | refine blockA_panic ?_
      | refine Reg.skip rfl rfl rfl rfl rfl rfl rfl rfl ?_
      | refine Reg.ifS tab_ok (hint := []) rfl rfl rfl rfl rfl rfl rfl rfl rfl trivial ?_
      | refine AW.label ?_
      | refine AW.scope ?_
      | refine scopeA_normal ?_
      | refine scopeA_ret ?_
      | refine scopeA_exit ?_)
    refine AW.draw [2, 3] [0, 1, 2, 3] mixed ⟨rfl, rfl, rfl, rfl, by decide⟩ ?_
    iterate 2 refine RegD.pureS tab_ok (hint := []) rfl rfl rfl rfl rfl rfl trivial ?_
    refine RegD.effS tab_ok (hint := []) [1] rfl rfl rfl rfl rfl rfl rfl trivial (Stable.cons tab_ok (hint := []) rfl rfl rfl rfl trivial Stable.nil) ?_
    refine RegD.effS tab_ok (hint := []) [] rfl rfl rfl rfl rfl rfl rfl trivial Stable.nil ?_
    refine RegD.nil ?_
    repeat (first
      | refine AW.seq ?_
      | refine AW.reg ?_
      | refine Reg.opS tab_ok (hint := []) rfl rfl rfl rfl rfl trivial ?_
      | refine Reg.opN tab_ok (hint := []) rfl rfl rfl rfl trivial ?_
      | refine Reg.nil ?_
      | refine thenA_normal ?_
      | refine AW.condT rfl ?_
      | refine AW.condF rfl ?_
      | refine AW.skip ?_
      | refine AW.block ?_
      | refine AW.exit ?_
      | refine AW.ret ?_
      | refine thenA_exit ?_
      | refine thenA_ret ?_
      | refine blockA_normal ?_
      | refine blockA_hit ?_
      | refine blockA_miss rfl ?_
      | refine blockA_ret ?_
      | refine Reg.panic rfl rfl rfl rfl ?_
      | refine thenA_panic ?_
      | refine blockA_panic ?_
      | refine Reg.skip rfl rfl rfl rfl rfl rfl rfl rfl ?_
      | refine Reg.ifS tab_ok (hint := []) rfl rfl rfl rfl rfl rfl rfl rfl rfl trivial ?_
      | refine AW.label ?_
      | refine AW.scope ?_
      | refine scopeA_normal ?_
      | refine scopeA_ret ?_
      | refine scopeA_exit ?_)
    refine ⟨_, rfl, rfl, rfl, ?_⟩
    rw [readTop, hsc] at hR
    subst hR
    exact ⟨rfl, (_, _, _, _, _), rfl⟩
  | ok ts =>
    rw [hsc] at ho
    obtain ⟨rfl, rfl⟩ := ho
    obtain ⟨t, r, htr, hsuf⟩ := toks_suf hsc
    obtain ⟨ts0, hts0, hl1, hl2⟩ := scanP_ok hsc
    have hlen : ts.length = ts0.length + 1 := by rw [hts0]; simp
    refine afterNew (y' := .tup [.own 3 3 (ts.map tokC), .d (.val (.int .i64 0)), .d (.val (.int .i64 0))]) (b' := .acc 3 ts.length) rfl rfl rfl rfl ?_
    repeat (first
      | refine AW.seq ?_
      | refine AW.reg ?_
      | refine Reg.opS tab_ok (hint := []) rfl rfl rfl rfl rfl trivial ?_
      | refine Reg.opN tab_ok (hint := []) rfl rfl rfl rfl trivial ?_
      | refine Reg.nil ?_
      | refine thenA_normal ?_
      | refine AW.condT rfl ?_
      | refine AW.condF rfl ?_
      | refine AW.skip ?_
      | refine AW.block ?_
      | refine AW.exit ?_
      | refine AW.ret ?_
      | refine thenA_exit ?_
      | refine thenA_ret ?_
      | refine blockA_normal ?_
      | refine blockA_hit ?_
      | refine blockA_miss rfl ?_
      | refine blockA_ret ?_
      | refine Reg.panic rfl rfl rfl rfl ?_
      | refine thenA_panic ?_
      | refine blockA_panic ?_
      | refine Reg.skip rfl rfl rfl rfl rfl rfl rfl rfl ?_
      | refine Reg.ifS tab_ok (hint := []) rfl rfl rfl rfl rfl rfl rfl rfl rfl trivial ?_
      | refine AW.label ?_
      | refine AW.scope ?_
      | refine scopeA_normal ?_
      | refine scopeA_ret ?_
      | refine scopeA_exit ?_)
    refine DW.seq tab_ok ?_
    repeat (first
      | refine AW.seq ?_
      | refine AW.reg ?_
      | refine Reg.opS tab_ok (hint := []) rfl rfl rfl rfl rfl trivial ?_
      | refine Reg.opN tab_ok (hint := []) rfl rfl rfl rfl trivial ?_
      | refine Reg.nil ?_
      | refine thenA_normal ?_
      | refine AW.condT rfl ?_
      | refine AW.condF rfl ?_
      | refine AW.skip ?_
      | refine AW.block ?_
      | refine AW.exit ?_
      | refine AW.ret ?_
      | refine thenA_exit ?_
      | refine thenA_ret ?_
      | refine blockA_normal ?_
      | refine blockA_hit ?_
      | refine blockA_miss rfl ?_
      | refine blockA_ret ?_
      | refine Reg.panic rfl rfl rfl rfl ?_
      | refine thenA_panic ?_
      | refine blockA_panic ?_
      | refine Reg.skip rfl rfl rfl rfl rfl rfl rfl rfl ?_
      | refine Reg.ifS tab_ok (hint := []) rfl rfl rfl rfl rfl rfl rfl rfl rfl trivial ?_
      | refine AW.label ?_
      | refine AW.scope ?_
      | refine scopeA_normal ?_
      | refine scopeA_ret ?_
      | refine scopeA_exit ?_)
    refine DW.defer tab_ok rfl rfl rfl rfl rfl rfl rfl rfl callable45 rfl ?_
    repeat (first
      | refine AW.seq ?_
      | refine AW.reg ?_
      | refine Reg.opS tab_ok (hint := []) rfl rfl rfl rfl rfl trivial ?_
      | refine Reg.opN tab_ok (hint := []) rfl rfl rfl rfl trivial ?_
      | refine Reg.nil ?_
      | refine thenA_normal ?_
      | refine AW.condT rfl ?_
      | refine AW.condF rfl ?_
      | refine AW.skip ?_
      | refine AW.block ?_
      | refine AW.exit ?_
      | refine AW.ret ?_
      | refine thenA_exit ?_
      | refine thenA_ret ?_
      | refine blockA_normal ?_
      | refine blockA_hit ?_
      | refine blockA_miss rfl ?_
      | refine blockA_ret ?_
      | refine Reg.panic rfl rfl rfl rfl ?_
      | refine thenA_panic ?_
      | refine blockA_panic ?_
      | refine Reg.skip rfl rfl rfl rfl rfl rfl rfl rfl ?_
      | refine Reg.ifS tab_ok (hint := []) rfl rfl rfl rfl rfl rfl rfl rfl rfl trivial ?_
      | refine AW.label ?_
      | refine AW.scope ?_
      | refine scopeA_normal ?_
      | refine scopeA_ret ?_
      | refine scopeA_exit ?_)
    refine Reg.opS tab_ok (hint := tokC (endT (bl s))) rfl rfl rfl rfl rfl ?hidx ?_
    case hidx =>
      have e : (IntKind.i64.wrap (((ts.map tokC).length : Int) - 1)) = (ts0.length : Int) := by
        rw [List.length_map, hlen]
        rw [wrap_in (by omega) (by omega)]
        omega
      rw [e]
      refine ⟨rfl, by omega, ?_⟩
      rw [Int.toNat_natCast, hts0, List.map_append, List.getElem?_append_right (by simp)]
      simp
    repeat (first
      | refine AW.seq ?_
      | refine AW.reg ?_
      | refine Reg.opS tab_ok (hint := []) rfl rfl rfl rfl rfl trivial ?_
      | refine Reg.opN tab_ok (hint := []) rfl rfl rfl rfl trivial ?_
      | refine Reg.nil ?_
      | refine thenA_normal ?_
      | refine AW.condT rfl ?_
      | refine AW.condF rfl ?_
      | refine AW.skip ?_
      | refine AW.block ?_
      | refine AW.exit ?_
      | refine AW.ret ?_
      | refine thenA_exit ?_
      | refine thenA_ret ?_
      | refine blockA_normal ?_
      | refine blockA_hit ?_
      | refine blockA_miss rfl ?_
      | refine blockA_ret ?_
      | refine Reg.panic rfl rfl rfl rfl ?_
      | refine thenA_panic ?_
      | refine blockA_panic ?_
      | refine Reg.skip rfl rfl rfl rfl rfl rfl rfl rfl ?_
      | refine Reg.ifS tab_ok (hint := []) rfl rfl rfl rfl rfl rfl rfl rfl rfl trivial ?_
      | refine AW.label ?_
      | refine AW.scope ?_
      | refine scopeA_normal ?_
      | refine scopeA_ret ?_
      | refine scopeA_exit ?_)
    refine Reg.append tab_ok rfl rfl rfl rfl rfl rfl rfl rfl rfl ?_ rfl rfl ?_ ?_ ?_ ?_
    · simp
    · intro x hx y hy
      simp at hx
      subst hx
      simp [endT] at hy
      rcases hy with rfl | rfl | rfl <;> rfl
    · simp
      omega
    · simp
      omega
    iterate 3 refine Reg.opS tab_ok (hint := []) rfl rfl rfl rfl rfl trivial ?_
    refine Reg.nil ?_
    refine thenA_normal ?_
    have hrows : ts.map tokC ++ [tokC (endT (bl s)), tokC (endT (bl s))] = (t :: r).map tokC := by rw [← htr]; simp
    refine AW.le (fr' := [(1, .clo 24 [.ptr 0 0]), (4, .ptr 1 0), (5, .ptr 2 0), (8, .ptr 5 0)]) (bx' := [tB0, iB 0, iB 0, .acc 3 (ts.map tokC ++ [tokC (endT (bl s)), tokC (endT (bl s))]).length, .cells [.d (.val (.int .i64 0)), .d (.val (.string (bsL []))), .d (.val (.int .i64 (bl s).length))], rd (t :: r) false (t :: r)])
      ⟨⟨.refl _, .refl _, .refl _, .refl _, trivial⟩, ⟨SLes.refl _, SLes.refl _, SLes.refl _, ⟨rfl, by simp⟩, SLes.refl _, ?_, trivial⟩, rfl, rfl⟩ (Nat.le_refl _) ?_
    · rw [← hrows, Int.sub_self]
      exact ⟨.refl _, .refl _, trivial⟩
    repeat (first
      | refine AW.seq ?_
      | refine AW.reg ?_
      | refine Reg.opS tab_ok (hint := []) rfl rfl rfl rfl rfl trivial ?_
      | refine Reg.opN tab_ok (hint := []) rfl rfl rfl rfl trivial ?_
      | refine Reg.nil ?_
      | refine thenA_normal ?_
      | refine AW.condT rfl ?_
      | refine AW.condF rfl ?_
      | refine AW.skip ?_
      | refine AW.block ?_
      | refine AW.exit ?_
      | refine AW.ret ?_
      | refine thenA_exit ?_
      | refine thenA_ret ?_
      | refine blockA_normal ?_
      | refine blockA_hit ?_
      | refine blockA_miss rfl ?_
      | refine blockA_ret ?_
      | refine Reg.panic rfl rfl rfl rfl ?_
      | refine thenA_panic ?_
      | refine blockA_panic ?_
      | refine Reg.skip rfl rfl rfl rfl rfl rfl rfl rfl ?_
      | refine Reg.ifS tab_ok (hint := []) rfl rfl rfl rfl rfl rfl rfl rfl rfl trivial ?_
      | refine AW.label ?_
      | refine AW.scope ?_
      | refine scopeA_normal ?_
      | refine scopeA_ret ?_
      | refine scopeA_exit ?_)
    refine Reg.call tab_ok [5, 0] (term1_any hsuf) callable24 rfl (.inl rfl) rfl rfl rfl (by decide) rfl rfl ?_
    intro out bx1 ho
    rw [readTop, hsc] at hR
    simp only [htr] at hR
    rcases hp : termP 200 (t :: r) with ⟨x, q⟩ | ⟨p, e⟩
    rotate_left
    · rw [hp] at ho hR
      obtain ⟨rfl, s0, rfl⟩ := ho
      refine after2p rfl rfl rfl rfl rfl rfl rfl ?_
      repeat (first
        | refine AW.seq ?_
        | refine AW.reg ?_
        | refine Reg.opS tab_ok (hint := []) rfl rfl rfl rfl rfl trivial ?_
        | refine Reg.opN tab_ok (hint := []) rfl rfl rfl rfl trivial ?_
        | refine Reg.nil ?_
        | refine thenA_normal ?_
        | refine AW.condT rfl ?_
        | refine AW.condF rfl ?_
        | refine AW.skip ?_
        | refine AW.block ?_
        | refine AW.exit ?_
        | refine AW.ret ?_
        | refine thenA_exit ?_
        | refine thenA_ret ?_
        | refine blockA_normal ?_
        | refine blockA_hit ?_
        | refine blockA_miss rfl ?_
        | refine blockA_ret ?_
        | refine Reg.panic rfl rfl rfl rfl ?_
        | refine thenA_panic ?_
        | refine blockA_panic ?_
        | refine Reg.skip rfl rfl rfl rfl rfl rfl rfl rfl ?_
        | refine Reg.ifS tab_ok (hint := []) rfl rfl rfl rfl rfl rfl rfl rfl rfl trivial ?_
        | refine AW.label ?_
        | refine AW.scope ?_
        | refine scopeA_normal ?_
        | refine scopeA_ret ?_
        | refine scopeA_exit ?_)
      refine Behind.two (read1_some 0 0 p e) rfl rfl rfl rfl rfl ?_
      rintro _ _ rfl
      refine ⟨_, _, _, _, rfl, rfl, rfl, rfl, rfl, _, rfl, rfl, rfl, ?_⟩
      simp only [restTop] at hR
      subst hR
      exact ⟨rfl, (_, _, _, _, _), rfl⟩
    rw [hp] at ho hR
    obtain ⟨⟨rfl, rfl⟩, hs2, u, q, rfl⟩ := ho
    refine after2n rfl rfl rfl rfl rfl rfl rfl rfl rfl ?_
    repeat (first
      | refine AW.seq ?_
      | refine AW.reg ?_
      | refine Reg.opS tab_ok (hint := []) rfl rfl rfl rfl rfl trivial ?_
      | refine Reg.opN tab_ok (hint := []) rfl rfl rfl rfl trivial ?_
      | refine Reg.nil ?_
      | refine thenA_normal ?_
      | refine AW.condT rfl ?_
      | refine AW.condF rfl ?_
      | refine AW.skip ?_
      | refine AW.block ?_
      | refine AW.exit ?_
      | refine AW.ret ?_
      | refine thenA_exit ?_
      | refine thenA_ret ?_
      | refine blockA_normal ?_
      | refine blockA_hit ?_
      | refine blockA_miss rfl ?_
      | refine blockA_ret ?_
      | refine Reg.panic rfl rfl rfl rfl ?_
      | refine thenA_panic ?_
      | refine blockA_panic ?_
      | refine Reg.skip rfl rfl rfl rfl rfl rfl rfl rfl ?_
      | refine Reg.ifS tab_ok (hint := []) rfl rfl rfl rfl rfl rfl rfl rfl rfl trivial ?_
      | refine AW.label ?_
      | refine AW.scope ?_
      | refine scopeA_normal ?_
      | refine scopeA_ret ?_
      | refine scopeA_exit ?_)
    refine Reg.call tab_ok [5] (now_any hs2) callable27 rfl (.inl rfl) rfl rfl rfl (by decide) rfl rfl ?_
    rintro out bx1 ⟨rfl, rfl⟩
    refine after1 rfl rfl rfl rfl rfl ?_
    repeat (first
      | refine AW.seq ?_
      | refine AW.reg ?_
      | refine Reg.opS tab_ok (hint := []) rfl rfl rfl rfl rfl trivial ?_
      | refine Reg.opN tab_ok (hint := []) rfl rfl rfl rfl trivial ?_
      | refine Reg.nil ?_
      | refine thenA_normal ?_
      | refine AW.condT rfl ?_
      | refine AW.condF rfl ?_
      | refine AW.skip ?_
      | refine AW.block ?_
      | refine AW.exit ?_
      | refine AW.ret ?_
      | refine thenA_exit ?_
      | refine thenA_ret ?_
      | refine blockA_normal ?_
      | refine blockA_hit ?_
      | refine blockA_miss rfl ?_
      | refine blockA_ret ?_
      | refine Reg.panic rfl rfl rfl rfl ?_
      | refine thenA_panic ?_
      | refine blockA_panic ?_
      | refine Reg.skip rfl rfl rfl rfl rfl rfl rfl rfl ?_
      | refine Reg.ifS tab_ok (hint := []) rfl rfl rfl rfl rfl rfl rfl rfl rfl trivial ?_
      | refine AW.label ?_
      | refine AW.scope ?_
      | refine scopeA_normal ?_
      | refine scopeA_ret ?_
      | refine scopeA_exit ?_)
    cases hk : (u.kind == 0) with
    | true =>
      have hk2 : (u.kind != 0) = false := by simp [bne, hk]
      refine AW.cond rfl (fun hh => ?_) (fun _ => ?_)
      · rw [hk2] at hh
        cases hh
      repeat (first
        | refine AW.seq ?_
        | refine AW.reg ?_
        | refine Reg.opS tab_ok (hint := []) rfl rfl rfl rfl rfl trivial ?_
        | refine Reg.opN tab_ok (hint := []) rfl rfl rfl rfl trivial ?_
        | refine Reg.nil ?_
        | refine thenA_normal ?_
        | refine AW.condT rfl ?_
        | refine AW.condF rfl ?_
        | refine AW.skip ?_
        | refine AW.block ?_
        | refine AW.exit ?_
        | refine AW.ret ?_
        | refine thenA_exit ?_
        | refine thenA_ret ?_
        | refine blockA_normal ?_
        | refine blockA_hit ?_
        | refine blockA_miss rfl ?_
        | refine blockA_ret ?_
        | refine Reg.panic rfl rfl rfl rfl ?_
        | refine thenA_panic ?_
        | refine blockA_panic ?_
        | refine Reg.skip rfl rfl rfl rfl rfl rfl rfl rfl ?_
        | refine Reg.ifS tab_ok (hint := []) rfl rfl rfl rfl rfl rfl rfl rfl rfl trivial ?_
        | refine AW.label ?_
        | refine AW.scope ?_
        | refine scopeA_normal ?_
        | refine scopeA_ret ?_
        | refine scopeA_exit ?_)
      refine Behind.two (read1_none 0 0) rfl rfl rfl rfl rfl ?_
      rintro _ _ rfl
      refine ⟨_, _, _, _, rfl, rfl, rfl, rfl, rfl, _, rfl, rfl, rfl, ?_⟩
      simp only [restTop, hk, if_true] at hR
      subst hR
      exact ⟨rfl, rfl⟩
    | false =>
      have hk2 : (u.kind != 0) = true := by simp [bne, hk]
      refine AW.cond rfl (fun _ => ?_) (fun hh => ?_)
      rotate_left
      · rw [hk2] at hh
        cases hh
      repeat (first
        | refine AW.seq ?_
        | refine AW.reg ?_
        | refine Reg.opS tab_ok (hint := []) rfl rfl rfl rfl rfl trivial ?_
        | refine Reg.opN tab_ok (hint := []) rfl rfl rfl rfl trivial ?_
        | refine Reg.nil ?_
        | refine thenA_normal ?_
        | refine AW.condT rfl ?_
        | refine AW.condF rfl ?_
        | refine AW.skip ?_
        | refine AW.block ?_
        | refine AW.exit ?_
        | refine AW.ret ?_
        | refine thenA_exit ?_
        | refine thenA_ret ?_
        | refine blockA_normal ?_
        | refine blockA_hit ?_
        | refine blockA_miss rfl ?_
        | refine blockA_ret ?_
        | refine Reg.panic rfl rfl rfl rfl ?_
        | refine thenA_panic ?_
        | refine blockA_panic ?_
        | refine Reg.skip rfl rfl rfl rfl rfl rfl rfl rfl ?_
        | refine Reg.ifS tab_ok (hint := []) rfl rfl rfl rfl rfl rfl rfl rfl rfl trivial ?_
        | refine AW.label ?_
        | refine AW.scope ?_
        | refine scopeA_normal ?_
        | refine scopeA_ret ?_
        | refine scopeA_exit ?_)
      refine Reg.call tab_ok [5] (fail_any 61 hs2) callable46 rfl (.inl rfl) rfl rfl rfl (by decide) rfl rfl ?_
      rintro out bx1 ⟨rfl, rfl⟩
      refine after1p rfl rfl rfl ?_
      repeat (first
        | refine AW.seq ?_
        | refine AW.reg ?_
        | refine Reg.opS tab_ok (hint := []) rfl rfl rfl rfl rfl trivial ?_
        | refine Reg.opN tab_ok (hint := []) rfl rfl rfl rfl trivial ?_
        | refine Reg.nil ?_
        | refine thenA_normal ?_
        | refine AW.condT rfl ?_
        | refine AW.condF rfl ?_
        | refine AW.skip ?_
        | refine AW.block ?_
        | refine AW.exit ?_
        | refine AW.ret ?_
        | refine thenA_exit ?_
        | refine thenA_ret ?_
        | refine blockA_normal ?_
        | refine blockA_hit ?_
        | refine blockA_miss rfl ?_
        | refine blockA_ret ?_
        | refine Reg.panic rfl rfl rfl rfl ?_
        | refine thenA_panic ?_
        | refine blockA_panic ?_
        | refine Reg.skip rfl rfl rfl rfl rfl rfl rfl rfl ?_
        | refine Reg.ifS tab_ok (hint := []) rfl rfl rfl rfl rfl rfl rfl rfl rfl trivial ?_
        | refine AW.label ?_
        | refine AW.scope ?_
        | refine scopeA_normal ?_
        | refine scopeA_ret ?_
        | refine scopeA_exit ?_)
      refine Behind.two (read1_some 0 0 u.at_ 61) rfl rfl rfl rfl rfl ?_
      rintro _ _ rfl
      refine ⟨_, _, _, _, rfl, rfl, rfl, rfl, rfl, _, rfl, rfl, rfl, ?_⟩
      simp only [restTop, hk, Bool.false_eq_true, if_false] at hR
      subst hR
      exact ⟨rfl, (_, _, _, _, _), rfl⟩

theorem callable23 : Callable Tryd.prog 23 := ⟨_, Tryd.func23, rfl, rfl⟩

set_option maxHeartbeats 4000000 in
theorem readParse_any (s : ByteArray) : ACalls Tryd.prog GD 23 [.d (.val (.string s)), .clo 26 [.ptr 0 0]] [.cells [.d (.sl 5 [] true)]] (readQ outB outZ (readTop (declsL rounds []) (bl s))) := by
  generalize hR : readTop (declsL rounds []) (bl s) = R
  refine DW.calls Tryd.func23 rfl rfl ?_
  refine DW.seq tab_ok ?_
  repeat (first
    | refine AW.seq ?_
    | refine AW.reg ?_
    | refine Reg.opS tab_ok (hint := []) rfl rfl rfl rfl rfl trivial ?_
    | refine Reg.opN tab_ok (hint := []) rfl rfl rfl rfl trivial ?_
    | refine Reg.nil ?_
    | refine thenA_normal ?_
    | refine AW.condT rfl ?_
    | refine AW.condF rfl ?_
    | refine AW.skip ?_
    | refine AW.block ?_
    | refine AW.exit ?_
    | refine AW.ret ?_
    | refine thenA_exit ?_
    | refine thenA_ret ?_
    | refine blockA_normal ?_
    | refine blockA_hit ?_
    | refine blockA_miss rfl ?_
    | refine blockA_ret ?_
    | refine Reg.panic rfl rfl rfl rfl ?_
    | refine thenA_panic ?_
    | refine blockA_panic ?_
    | refine Reg.skip rfl rfl rfl rfl rfl rfl rfl rfl ?_
    | refine Reg.ifS tab_ok (hint := []) rfl rfl rfl rfl rfl rfl rfl rfl rfl trivial ?_
    | refine AW.label ?_
    | refine AW.scope ?_
    | refine scopeA_normal ?_
    | refine scopeA_ret ?_
    | refine scopeA_exit ?_)
  refine DW.seq tab_ok ?_
  repeat (first
    | refine AW.seq ?_
    | refine AW.reg ?_
    | refine Reg.opS tab_ok (hint := []) rfl rfl rfl rfl rfl trivial ?_
    | refine Reg.opN tab_ok (hint := []) rfl rfl rfl rfl trivial ?_
    | refine Reg.nil ?_
    | refine thenA_normal ?_
    | refine AW.condT rfl ?_
    | refine AW.condF rfl ?_
    | refine AW.skip ?_
    | refine AW.block ?_
    | refine AW.exit ?_
    | refine AW.ret ?_
    | refine thenA_exit ?_
    | refine thenA_ret ?_
    | refine blockA_normal ?_
    | refine blockA_hit ?_
    | refine blockA_miss rfl ?_
    | refine blockA_ret ?_
    | refine Reg.panic rfl rfl rfl rfl ?_
    | refine thenA_panic ?_
    | refine blockA_panic ?_
    | refine Reg.skip rfl rfl rfl rfl rfl rfl rfl rfl ?_
    | refine Reg.ifS tab_ok (hint := []) rfl rfl rfl rfl rfl rfl rfl rfl rfl trivial ?_
    | refine AW.label ?_
    | refine AW.scope ?_
    | refine scopeA_normal ?_
    | refine scopeA_ret ?_
    | refine scopeA_exit ?_)
  refine Reg.call tab_ok [] (scan_any s) callable13 rfl (.inl rfl) rfl rfl rfl (by decide) rfl rfl ?_
  intro out bx1 ho
  unfold scanOut scanQ at ho
  cases hsc : scanP (bl s) with
  | bad p e =>
    rw [hsc] at ho
    obtain ⟨rfl, rfl⟩ := ho
    refine after0t rfl rfl rfl ?_
    have he : (e != 0) = true := by rcases scanP_bad hsc with rfl | rfl | rfl <;> rfl
    repeat (first
      | refine AW.seq ?_
      | refine AW.reg ?_
      | refine Reg.opS tab_ok (hint := []) rfl rfl rfl rfl rfl trivial ?_
      | refine Reg.opN tab_ok (hint := []) rfl rfl rfl rfl trivial ?_
      | refine Reg.nil ?_
      | refine thenA_normal ?_
      | refine AW.condT rfl ?_
      | refine AW.condF rfl ?_
      | refine AW.skip ?_
      | refine AW.block ?_
      | refine AW.exit ?_
      | refine AW.ret ?_
      | refine thenA_exit ?_
      | refine thenA_ret ?_
      | refine blockA_normal ?_
      | refine blockA_hit ?_
      | refine blockA_miss rfl ?_
      | refine blockA_ret ?_
      | refine Reg.panic rfl rfl rfl rfl ?_
      | refine thenA_panic ?_
      | refine blockA_panic ?_
      | refine Reg.skip rfl rfl rfl rfl rfl rfl rfl rfl ?_
      | refine Reg.ifS tab_ok (hint := []) rfl rfl rfl rfl rfl rfl rfl rfl rfl trivial ?_
      | refine AW.label ?_
      | refine AW.scope ?_
      | refine scopeA_normal ?_
      | refine scopeA_ret ?_
      | refine scopeA_exit ?_)
    refine DW.seq tab_ok ?_
    repeat (first
      | refine AW.seq ?_
      | refine AW.reg ?_
      | refine Reg.opS tab_ok (hint := []) rfl rfl rfl rfl rfl trivial ?_
      | refine Reg.opN tab_ok (hint := []) rfl rfl rfl rfl trivial ?_
      | refine Reg.nil ?_
      | refine thenA_normal ?_
      | refine AW.condT rfl ?_
      | refine AW.condF rfl ?_
      | refine AW.skip ?_
      | refine AW.block ?_
      | refine AW.exit ?_
      | refine AW.ret ?_
      | refine thenA_exit ?_
      | refine thenA_ret ?_
      | refine blockA_normal ?_
      | refine blockA_hit ?_
      | refine blockA_miss rfl ?_
      | refine blockA_ret ?_
      | refine Reg.panic rfl rfl rfl rfl ?_
      | refine thenA_panic ?_
      | refine blockA_panic ?_
      | refine Reg.skip rfl rfl rfl rfl rfl rfl rfl rfl ?_
      | refine Reg.ifS tab_ok (hint := []) rfl rfl rfl rfl rfl rfl rfl rfl rfl trivial ?_
      | refine AW.label ?_
      | refine AW.scope ?_
      | refine scopeA_normal ?_
      | refine scopeA_ret ?_
      | refine scopeA_exit ?_)
    rw [he]
    repeat (first
      | refine AW.seq ?_
      | refine AW.reg ?_
      | refine Reg.opS tab_ok (hint := []) rfl rfl rfl rfl rfl trivial ?_
      | refine Reg.opN tab_ok (hint := []) rfl rfl rfl rfl trivial ?_
      | refine Reg.nil ?_
      | refine thenA_normal ?_
      | refine AW.condT rfl ?_
      | refine AW.condF rfl ?_
      | refine AW.skip ?_
      | refine AW.block ?_
      | refine AW.exit ?_
      | refine AW.ret ?_
      | refine thenA_exit ?_
      | refine thenA_ret ?_
      | refine blockA_normal ?_
      | refine blockA_hit ?_
      | refine blockA_miss rfl ?_
      | refine blockA_ret ?_
      | refine Reg.panic rfl rfl rfl rfl ?_
      | refine thenA_panic ?_
      | refine blockA_panic ?_
      | refine Reg.skip rfl rfl rfl rfl rfl rfl rfl rfl ?_
      | refine Reg.ifS tab_ok (hint := []) rfl rfl rfl rfl rfl rfl rfl rfl rfl trivial ?_
      | refine AW.label ?_
      | refine AW.scope ?_
      | refine scopeA_normal ?_
      | refine scopeA_ret ?_
      | refine scopeA_exit ?_)
    refine AW.draw [2, 3] [0, 1, 2, 3] mixed ⟨rfl, rfl, rfl, rfl, by decide⟩ ?_
    iterate 2 refine RegD.pureS tab_ok (hint := []) rfl rfl rfl rfl rfl rfl trivial ?_
    refine RegD.effS tab_ok (hint := []) [1] rfl rfl rfl rfl rfl rfl rfl trivial (Stable.cons tab_ok (hint := []) rfl rfl rfl rfl trivial Stable.nil) ?_
    refine RegD.effS tab_ok (hint := []) [] rfl rfl rfl rfl rfl rfl rfl trivial Stable.nil ?_
    refine RegD.nil ?_
    repeat (first
      | refine AW.seq ?_
      | refine AW.reg ?_
      | refine Reg.opS tab_ok (hint := []) rfl rfl rfl rfl rfl trivial ?_
      | refine Reg.opN tab_ok (hint := []) rfl rfl rfl rfl trivial ?_
      | refine Reg.nil ?_
      | refine thenA_normal ?_
      | refine AW.condT rfl ?_
      | refine AW.condF rfl ?_
      | refine AW.skip ?_
      | refine AW.block ?_
      | refine AW.exit ?_
      | refine AW.ret ?_
      | refine thenA_exit ?_
      | refine thenA_ret ?_
      | refine blockA_normal ?_
      | refine blockA_hit ?_
      | refine blockA_miss rfl ?_
      | refine blockA_ret ?_
      | refine Reg.panic rfl rfl rfl rfl ?_
      | refine thenA_panic ?_
      | refine blockA_panic ?_
      | refine Reg.skip rfl rfl rfl rfl rfl rfl rfl rfl ?_
      | refine Reg.ifS tab_ok (hint := []) rfl rfl rfl rfl rfl rfl rfl rfl rfl trivial ?_
      | refine AW.label ?_
      | refine AW.scope ?_
      | refine scopeA_normal ?_
      | refine scopeA_ret ?_
      | refine scopeA_exit ?_)
    refine ⟨_, rfl, rfl, rfl, ?_⟩
    rw [readTop, hsc] at hR
    subst hR
    exact ⟨rfl, (_, _), rfl⟩
  | ok ts =>
    rw [hsc] at ho
    obtain ⟨rfl, rfl⟩ := ho
    obtain ⟨t, r, htr, hsuf⟩ := toks_suf hsc
    obtain ⟨ts0, hts0, hl1, hl2⟩ := scanP_ok hsc
    have hlen : ts.length = ts0.length + 1 := by rw [hts0]; simp
    refine afterNew (y' := .tup [.own 3 3 (ts.map tokC), .d (.val (.int .i64 0)), .d (.val (.int .i64 0))]) (b' := .acc 3 ts.length) rfl rfl rfl rfl ?_
    repeat (first
      | refine AW.seq ?_
      | refine AW.reg ?_
      | refine Reg.opS tab_ok (hint := []) rfl rfl rfl rfl rfl trivial ?_
      | refine Reg.opN tab_ok (hint := []) rfl rfl rfl rfl trivial ?_
      | refine Reg.nil ?_
      | refine thenA_normal ?_
      | refine AW.condT rfl ?_
      | refine AW.condF rfl ?_
      | refine AW.skip ?_
      | refine AW.block ?_
      | refine AW.exit ?_
      | refine AW.ret ?_
      | refine thenA_exit ?_
      | refine thenA_ret ?_
      | refine blockA_normal ?_
      | refine blockA_hit ?_
      | refine blockA_miss rfl ?_
      | refine blockA_ret ?_
      | refine Reg.panic rfl rfl rfl rfl ?_
      | refine thenA_panic ?_
      | refine blockA_panic ?_
      | refine Reg.skip rfl rfl rfl rfl rfl rfl rfl rfl ?_
      | refine Reg.ifS tab_ok (hint := []) rfl rfl rfl rfl rfl rfl rfl rfl rfl trivial ?_
      | refine AW.label ?_
      | refine AW.scope ?_
      | refine scopeA_normal ?_
      | refine scopeA_ret ?_
      | refine scopeA_exit ?_)
    refine DW.seq tab_ok ?_
    repeat (first
      | refine AW.seq ?_
      | refine AW.reg ?_
      | refine Reg.opS tab_ok (hint := []) rfl rfl rfl rfl rfl trivial ?_
      | refine Reg.opN tab_ok (hint := []) rfl rfl rfl rfl trivial ?_
      | refine Reg.nil ?_
      | refine thenA_normal ?_
      | refine AW.condT rfl ?_
      | refine AW.condF rfl ?_
      | refine AW.skip ?_
      | refine AW.block ?_
      | refine AW.exit ?_
      | refine AW.ret ?_
      | refine thenA_exit ?_
      | refine thenA_ret ?_
      | refine blockA_normal ?_
      | refine blockA_hit ?_
      | refine blockA_miss rfl ?_
      | refine blockA_ret ?_
      | refine Reg.panic rfl rfl rfl rfl ?_
      | refine thenA_panic ?_
      | refine blockA_panic ?_
      | refine Reg.skip rfl rfl rfl rfl rfl rfl rfl rfl ?_
      | refine Reg.ifS tab_ok (hint := []) rfl rfl rfl rfl rfl rfl rfl rfl rfl trivial ?_
      | refine AW.label ?_
      | refine AW.scope ?_
      | refine scopeA_normal ?_
      | refine scopeA_ret ?_
      | refine scopeA_exit ?_)
    refine DW.defer tab_ok rfl rfl rfl rfl rfl rfl rfl rfl callable45 rfl ?_
    repeat (first
      | refine AW.seq ?_
      | refine AW.reg ?_
      | refine Reg.opS tab_ok (hint := []) rfl rfl rfl rfl rfl trivial ?_
      | refine Reg.opN tab_ok (hint := []) rfl rfl rfl rfl trivial ?_
      | refine Reg.nil ?_
      | refine thenA_normal ?_
      | refine AW.condT rfl ?_
      | refine AW.condF rfl ?_
      | refine AW.skip ?_
      | refine AW.block ?_
      | refine AW.exit ?_
      | refine AW.ret ?_
      | refine thenA_exit ?_
      | refine thenA_ret ?_
      | refine blockA_normal ?_
      | refine blockA_hit ?_
      | refine blockA_miss rfl ?_
      | refine blockA_ret ?_
      | refine Reg.panic rfl rfl rfl rfl ?_
      | refine thenA_panic ?_
      | refine blockA_panic ?_
      | refine Reg.skip rfl rfl rfl rfl rfl rfl rfl rfl ?_
      | refine Reg.ifS tab_ok (hint := []) rfl rfl rfl rfl rfl rfl rfl rfl rfl trivial ?_
      | refine AW.label ?_
      | refine AW.scope ?_
      | refine scopeA_normal ?_
      | refine scopeA_ret ?_
      | refine scopeA_exit ?_)
    refine Reg.opS tab_ok (hint := tokC (endT (bl s))) rfl rfl rfl rfl rfl ?hidx ?_
    case hidx =>
      have e : (IntKind.i64.wrap (((ts.map tokC).length : Int) - 1)) = (ts0.length : Int) := by
        rw [List.length_map, hlen]
        rw [wrap_in (by omega) (by omega)]
        omega
      rw [e]
      refine ⟨rfl, by omega, ?_⟩
      rw [Int.toNat_natCast, hts0, List.map_append, List.getElem?_append_right (by simp)]
      simp
    repeat (first
      | refine AW.seq ?_
      | refine AW.reg ?_
      | refine Reg.opS tab_ok (hint := []) rfl rfl rfl rfl rfl trivial ?_
      | refine Reg.opN tab_ok (hint := []) rfl rfl rfl rfl trivial ?_
      | refine Reg.nil ?_
      | refine thenA_normal ?_
      | refine AW.condT rfl ?_
      | refine AW.condF rfl ?_
      | refine AW.skip ?_
      | refine AW.block ?_
      | refine AW.exit ?_
      | refine AW.ret ?_
      | refine thenA_exit ?_
      | refine thenA_ret ?_
      | refine blockA_normal ?_
      | refine blockA_hit ?_
      | refine blockA_miss rfl ?_
      | refine blockA_ret ?_
      | refine Reg.panic rfl rfl rfl rfl ?_
      | refine thenA_panic ?_
      | refine blockA_panic ?_
      | refine Reg.skip rfl rfl rfl rfl rfl rfl rfl rfl ?_
      | refine Reg.ifS tab_ok (hint := []) rfl rfl rfl rfl rfl rfl rfl rfl rfl trivial ?_
      | refine AW.label ?_
      | refine AW.scope ?_
      | refine scopeA_normal ?_
      | refine scopeA_ret ?_
      | refine scopeA_exit ?_)
    refine Reg.append tab_ok rfl rfl rfl rfl rfl rfl rfl rfl rfl ?_ rfl rfl ?_ ?_ ?_ ?_
    · simp
    · intro x hx y hy
      simp at hx
      subst hx
      simp [endT] at hy
      rcases hy with rfl | rfl | rfl <;> rfl
    · simp
      omega
    · simp
      omega
    iterate 3 refine Reg.opS tab_ok (hint := []) rfl rfl rfl rfl rfl trivial ?_
    refine Reg.nil ?_
    refine thenA_normal ?_
    have hrows : ts.map tokC ++ [tokC (endT (bl s)), tokC (endT (bl s))] = (t :: r).map tokC := by rw [← htr]; simp
    refine AW.le (fr' := [(1, .clo 26 [.ptr 0 0]), (4, .ptr 1 0), (5, .ptr 2 0), (8, .ptr 5 0)]) (bx' := [.cells [.d (.sl 5 [] true)], iB 0, iB 0, .acc 3 (ts.map tokC ++ [tokC (endT (bl s)), tokC (endT (bl s))]).length, .cells [.d (.val (.int .i64 0)), .d (.val (.string (bsL []))), .d (.val (.int .i64 (bl s).length))], rd (t :: r) false (t :: r)])
      ⟨⟨.refl _, .refl _, .refl _, .refl _, trivial⟩, ⟨SLes.refl _, SLes.refl _, SLes.refl _, ⟨rfl, by simp⟩, SLes.refl _, ?_, trivial⟩, rfl, rfl⟩ (Nat.le_refl _) ?_
    · rw [← hrows, Int.sub_self]
      exact ⟨.refl _, .refl _, trivial⟩
    repeat (first
      | refine AW.seq ?_
      | refine AW.reg ?_
      | refine Reg.opS tab_ok (hint := []) rfl rfl rfl rfl rfl trivial ?_
      | refine Reg.opN tab_ok (hint := []) rfl rfl rfl rfl trivial ?_
      | refine Reg.nil ?_
      | refine thenA_normal ?_
      | refine AW.condT rfl ?_
      | refine AW.condF rfl ?_
      | refine AW.skip ?_
      | refine AW.block ?_
      | refine AW.exit ?_
      | refine AW.ret ?_
      | refine thenA_exit ?_
      | refine thenA_ret ?_
      | refine blockA_normal ?_
      | refine blockA_hit ?_
      | refine blockA_miss rfl ?_
      | refine blockA_ret ?_
      | refine Reg.panic rfl rfl rfl rfl ?_
      | refine thenA_panic ?_
      | refine blockA_panic ?_
      | refine Reg.skip rfl rfl rfl rfl rfl rfl rfl rfl ?_
      | refine Reg.ifS tab_ok (hint := []) rfl rfl rfl rfl rfl rfl rfl rfl rfl trivial ?_
      | refine AW.label ?_
      | refine AW.scope ?_
      | refine scopeA_normal ?_
      | refine scopeA_ret ?_
      | refine scopeA_exit ?_)
    refine Reg.call tab_ok [5, 0] (parse1_any hsuf) callable26 rfl (.inl rfl) rfl rfl rfl (by decide) rfl rfl ?_
    intro out bx1 ho
    rw [readTop, hsc] at hR
    simp only [htr] at hR
    rcases hp : declsL rounds [] (t :: r) with ⟨x, q⟩ | ⟨p, e⟩
    rotate_left
    · rw [hp] at ho hR
      obtain ⟨rfl, s0, z, rfl⟩ := ho
      refine after2p rfl rfl rfl rfl rfl rfl rfl ?_
      repeat (first
        | refine AW.seq ?_
        | refine AW.reg ?_
        | refine Reg.opS tab_ok (hint := []) rfl rfl rfl rfl rfl trivial ?_
        | refine Reg.opN tab_ok (hint := []) rfl rfl rfl rfl trivial ?_
        | refine Reg.nil ?_
        | refine thenA_normal ?_
        | refine AW.condT rfl ?_
        | refine AW.condF rfl ?_
        | refine AW.skip ?_
        | refine AW.block ?_
        | refine AW.exit ?_
        | refine AW.ret ?_
        | refine thenA_exit ?_
        | refine thenA_ret ?_
        | refine blockA_normal ?_
        | refine blockA_hit ?_
        | refine blockA_miss rfl ?_
        | refine blockA_ret ?_
        | refine Reg.panic rfl rfl rfl rfl ?_
        | refine thenA_panic ?_
        | refine blockA_panic ?_
        | refine Reg.skip rfl rfl rfl rfl rfl rfl rfl rfl ?_
        | refine Reg.ifS tab_ok (hint := []) rfl rfl rfl rfl rfl rfl rfl rfl rfl trivial ?_
        | refine AW.label ?_
        | refine AW.scope ?_
        | refine scopeA_normal ?_
        | refine scopeA_ret ?_
        | refine scopeA_exit ?_)
      refine Behind.two (read1_some 0 0 p e) rfl rfl rfl rfl rfl ?_
      rintro _ _ rfl
      refine ⟨_, _, _, _, rfl, rfl, rfl, rfl, rfl, _, rfl, rfl, rfl, ?_⟩
      simp only [restTop] at hR
      subst hR
      exact ⟨rfl, (_, _), rfl⟩
    rw [hp] at ho hR
    obtain ⟨⟨rfl, rfl⟩, hs2, u, q, rfl⟩ := ho
    refine after2n rfl rfl rfl rfl rfl rfl rfl rfl rfl ?_
    repeat (first
      | refine AW.seq ?_
      | refine AW.reg ?_
      | refine Reg.opS tab_ok (hint := []) rfl rfl rfl rfl rfl trivial ?_
      | refine Reg.opN tab_ok (hint := []) rfl rfl rfl rfl trivial ?_
      | refine Reg.nil ?_
      | refine thenA_normal ?_
      | refine AW.condT rfl ?_
      | refine AW.condF rfl ?_
      | refine AW.skip ?_
      | refine AW.block ?_
      | refine AW.exit ?_
      | refine AW.ret ?_
      | refine thenA_exit ?_
      | refine thenA_ret ?_
      | refine blockA_normal ?_
      | refine blockA_hit ?_
      | refine blockA_miss rfl ?_
      | refine blockA_ret ?_
      | refine Reg.panic rfl rfl rfl rfl ?_
      | refine thenA_panic ?_
      | refine blockA_panic ?_
      | refine Reg.skip rfl rfl rfl rfl rfl rfl rfl rfl ?_
      | refine Reg.ifS tab_ok (hint := []) rfl rfl rfl rfl rfl rfl rfl rfl rfl trivial ?_
      | refine AW.label ?_
      | refine AW.scope ?_
      | refine scopeA_normal ?_
      | refine scopeA_ret ?_
      | refine scopeA_exit ?_)
    refine Reg.call tab_ok [5] (now_any hs2) callable27 rfl (.inl rfl) rfl rfl rfl (by decide) rfl rfl ?_
    rintro out bx1 ⟨rfl, rfl⟩
    refine after1 rfl rfl rfl rfl rfl ?_
    repeat (first
      | refine AW.seq ?_
      | refine AW.reg ?_
      | refine Reg.opS tab_ok (hint := []) rfl rfl rfl rfl rfl trivial ?_
      | refine Reg.opN tab_ok (hint := []) rfl rfl rfl rfl trivial ?_
      | refine Reg.nil ?_
      | refine thenA_normal ?_
      | refine AW.condT rfl ?_
      | refine AW.condF rfl ?_
      | refine AW.skip ?_
      | refine AW.block ?_
      | refine AW.exit ?_
      | refine AW.ret ?_
      | refine thenA_exit ?_
      | refine thenA_ret ?_
      | refine blockA_normal ?_
      | refine blockA_hit ?_
      | refine blockA_miss rfl ?_
      | refine blockA_ret ?_
      | refine Reg.panic rfl rfl rfl rfl ?_
      | refine thenA_panic ?_
      | refine blockA_panic ?_
      | refine Reg.skip rfl rfl rfl rfl rfl rfl rfl rfl ?_
      | refine Reg.ifS tab_ok (hint := []) rfl rfl rfl rfl rfl rfl rfl rfl rfl trivial ?_
      | refine AW.label ?_
      | refine AW.scope ?_
      | refine scopeA_normal ?_
      | refine scopeA_ret ?_
      | refine scopeA_exit ?_)
    cases hk : (u.kind == 0) with
    | true =>
      have hk2 : (u.kind != 0) = false := by simp [bne, hk]
      refine AW.cond rfl (fun hh => ?_) (fun _ => ?_)
      · rw [hk2] at hh
        cases hh
      repeat (first
        | refine AW.seq ?_
        | refine AW.reg ?_
        | refine Reg.opS tab_ok (hint := []) rfl rfl rfl rfl rfl trivial ?_
        | refine Reg.opN tab_ok (hint := []) rfl rfl rfl rfl trivial ?_
        | refine Reg.nil ?_
        | refine thenA_normal ?_
        | refine AW.condT rfl ?_
        | refine AW.condF rfl ?_
        | refine AW.skip ?_
        | refine AW.block ?_
        | refine AW.exit ?_
        | refine AW.ret ?_
        | refine thenA_exit ?_
        | refine thenA_ret ?_
        | refine blockA_normal ?_
        | refine blockA_hit ?_
        | refine blockA_miss rfl ?_
        | refine blockA_ret ?_
        | refine Reg.panic rfl rfl rfl rfl ?_
        | refine thenA_panic ?_
        | refine blockA_panic ?_
        | refine Reg.skip rfl rfl rfl rfl rfl rfl rfl rfl ?_
        | refine Reg.ifS tab_ok (hint := []) rfl rfl rfl rfl rfl rfl rfl rfl rfl trivial ?_
        | refine AW.label ?_
        | refine AW.scope ?_
        | refine scopeA_normal ?_
        | refine scopeA_ret ?_
        | refine scopeA_exit ?_)
      refine Behind.two (read1_none 0 0) rfl rfl rfl rfl rfl ?_
      rintro _ _ rfl
      refine ⟨_, _, _, _, rfl, rfl, rfl, rfl, rfl, _, rfl, rfl, rfl, ?_⟩
      simp only [restTop, hk, if_true] at hR
      subst hR
      exact ⟨rfl, rfl⟩
    | false =>
      have hk2 : (u.kind != 0) = true := by simp [bne, hk]
      refine AW.cond rfl (fun _ => ?_) (fun hh => ?_)
      rotate_left
      · rw [hk2] at hh
        cases hh
      repeat (first
        | refine AW.seq ?_
        | refine AW.reg ?_
        | refine Reg.opS tab_ok (hint := []) rfl rfl rfl rfl rfl trivial ?_
        | refine Reg.opN tab_ok (hint := []) rfl rfl rfl rfl trivial ?_
        | refine Reg.nil ?_
        | refine thenA_normal ?_
        | refine AW.condT rfl ?_
        | refine AW.condF rfl ?_
        | refine AW.skip ?_
        | refine AW.block ?_
        | refine AW.exit ?_
        | refine AW.ret ?_
        | refine thenA_exit ?_
        | refine thenA_ret ?_
        | refine blockA_normal ?_
        | refine blockA_hit ?_
        | refine blockA_miss rfl ?_
        | refine blockA_ret ?_
        | refine Reg.panic rfl rfl rfl rfl ?_
        | refine thenA_panic ?_
        | refine blockA_panic ?_
        | refine Reg.skip rfl rfl rfl rfl rfl rfl rfl rfl ?_
        | refine Reg.ifS tab_ok (hint := []) rfl rfl rfl rfl rfl rfl rfl rfl rfl trivial ?_
        | refine AW.label ?_
        | refine AW.scope ?_
        | refine scopeA_normal ?_
        | refine scopeA_ret ?_
        | refine scopeA_exit ?_)
      refine Reg.call tab_ok [5] (fail_any 61 hs2) callable46 rfl (.inl rfl) rfl rfl rfl (by decide) rfl rfl ?_
      rintro out bx1 ⟨rfl, rfl⟩
      refine after1p rfl rfl rfl ?_
      repeat (first
        | refine AW.seq ?_
        | refine AW.reg ?_
        | refine Reg.opS tab_ok (hint := []) rfl rfl rfl rfl rfl trivial ?_
        | refine Reg.opN tab_ok (hint := []) rfl rfl rfl rfl trivial ?_
        | refine Reg.nil ?_
        | refine thenA_normal ?_
        | refine AW.condT rfl ?_
        | refine AW.condF rfl ?_
        | refine AW.skip ?_
        | refine AW.block ?_
        | refine AW.exit ?_
        | refine AW.ret ?_
        | refine thenA_exit ?_
        | refine thenA_ret ?_
        | refine blockA_normal ?_
        | refine blockA_hit ?_
        | refine blockA_miss rfl ?_
        | refine blockA_ret ?_
        | refine Reg.panic rfl rfl rfl rfl ?_
        | refine thenA_panic ?_
        | refine blockA_panic ?_
        | refine Reg.skip rfl rfl rfl rfl rfl rfl rfl rfl ?_
        | refine Reg.ifS tab_ok (hint := []) rfl rfl rfl rfl rfl rfl rfl rfl rfl trivial ?_
        | refine AW.label ?_
        | refine AW.scope ?_
        | refine scopeA_normal ?_
        | refine scopeA_ret ?_
        | refine scopeA_exit ?_)
      refine Behind.two (read1_some 0 0 u.at_ 61) rfl rfl rfl rfl rfl ?_
      rintro _ _ rfl
      refine ⟨_, _, _, _, rfl, rfl, rfl, rfl, rfl, _, rfl, rfl, rfl, ?_⟩
      simp only [restTop, hk, Bool.false_eq_true, if_false] at hR
      subst hR
      exact ⟨rfl, (_, _), rfl⟩

/-- Nothing's tree. -/
abbrev tree0 : SV := .d (.agg [.val (.int .i64 0), .val (.string ⟨#[]⟩), .sl 5 [] true, .sl 1 [] true, .val (.int .i64 0)])
def topQ {α : Type} (val : α → SV) (z : SV) (R : Top α) (out : Out) (b : List Box) : Prop :=
  match R with
  | .ok x => out = .ret (.tup [val x, .d (.val (.int .i64 0)), .d (.val (.int .i64 0))]) ∧ b = []
  | .bad p e => out = .ret (.tup [z, .d (.val (.int .i64 p)), .d (.val (.int .i64 e))]) ∧ b = []

end Go.Proofs.YtamkldohfhidiaaDoor
