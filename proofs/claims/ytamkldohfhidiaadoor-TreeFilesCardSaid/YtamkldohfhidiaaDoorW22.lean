import Derived.Test.YtamkldohfhidiaaDoorW21
namespace Go.Proofs.YtamkldohfhidiaaDoor
open Go Go.Abs

theorem same_true {a b : T} {w : Bool} (ha : a.sz ≤ 1000000) (h : sameP w a b = true) : ACalls Tryd.prog GD 12 [treeV a, treeV b, .d (.val (.bool w))] [] fun out x => out = .ret (.d (.val (.bool true))) ∧ x = [] := by
  have := same_any (G := GD) 1000000 a ha (by omega) b w
  rw [h] at this
  exact this

set_option maxHeartbeats 4000000 in
set_option maxRecDepth 4000 in
theorem brackets_any (s : ByteArray) : ACalls Tryd.prog GD 3 [.d (.val (.string s))] [] fun out b => out = .ret (.d (.val (.bool true))) ∧ b = [] := by
  refine ACalls.body tab_ok Tryd.func3 rfl rfl ?_
  repeat (first
    | refine AW.seq ?_
    | refine AW.reg ?_
    | refine Reg.opS tab_ok (hint := []) rfl rfl rfl rfl rfl trivial ?_
    | refine Reg.opN tab_ok (hint := []) rfl rfl rfl rfl trivial ?_
    | refine Reg.nil ?_
    | refine thenA_normal ?_
    | refine AW.condT rfl ?_
    | refine AW.condF rfl ?_
    | refine AW.skip ?_
    | refine AW.block ?_
    | refine AW.exit ?_
    | refine AW.ret ?_
    | refine thenA_exit ?_
    | refine thenA_ret ?_
    | refine blockA_normal ?_
    | refine blockA_hit ?_
    | refine blockA_miss rfl ?_
    | refine blockA_ret ?_
    | refine Reg.panic rfl rfl rfl rfl ?_
    | refine thenA_panic ?_
    | refine blockA_panic ?_
    | refine Reg.skip rfl rfl rfl rfl rfl rfl rfl rfl ?_
    | refine Reg.ifS tab_ok (hint := []) rfl rfl rfl rfl rfl rfl rfl rfl rfl trivial ?_
    | refine AW.label ?_
    | refine AW.scope ?_
    | refine scopeA_normal ?_
    | refine scopeA_ret ?_
    | refine scopeA_exit ?_)
  refine Reg.call tab_ok [] (works_any) callable9 rfl (.inl rfl) rfl rfl rfl (by decide) rfl rfl ?_
  rintro out bx1 ⟨rfl, rfl⟩
  refine after0 rfl rfl ?_
  repeat (first
    | refine AW.seq ?_
    | refine AW.reg ?_
    | refine Reg.opS tab_ok (hint := []) rfl rfl rfl rfl rfl trivial ?_
    | refine Reg.opN tab_ok (hint := []) rfl rfl rfl rfl trivial ?_
    | refine Reg.nil ?_
    | refine thenA_normal ?_
    | refine AW.condT rfl ?_
    | refine AW.condF rfl ?_
    | refine AW.skip ?_
    | refine AW.block ?_
    | refine AW.exit ?_
    | refine AW.ret ?_
    | refine thenA_exit ?_
    | refine thenA_ret ?_
    | refine blockA_normal ?_
    | refine blockA_hit ?_
    | refine blockA_miss rfl ?_
    | refine blockA_ret ?_
    | refine Reg.panic rfl rfl rfl rfl ?_
    | refine thenA_panic ?_
    | refine blockA_panic ?_
    | refine Reg.skip rfl rfl rfl rfl rfl rfl rfl rfl ?_
    | refine Reg.ifS tab_ok (hint := []) rfl rfl rfl rfl rfl rfl rfl rfl rfl trivial ?_
    | refine AW.label ?_
    | refine AW.scope ?_
    | refine scopeA_normal ?_
    | refine scopeA_ret ?_
    | refine scopeA_exit ?_)
  refine Reg.call tab_ok [] (treeTerm_any s) callable10 rfl (.inl rfl) rfl rfl rfl (by decide) rfl rfl ?_
  intro out bx1 ho
  cases hR : readTop (termP 200) (bl s) with
  | bad p e =>
    rw [hR] at ho
    obtain ⟨rfl, rfl⟩ := ho
    refine after0t rfl rfl rfl ?_
    repeat (first
      | refine AW.seq ?_
      | refine AW.reg ?_
      | refine Reg.opS tab_ok (hint := []) rfl rfl rfl rfl rfl trivial ?_
      | refine Reg.opN tab_ok (hint := []) rfl rfl rfl rfl trivial ?_
      | refine Reg.nil ?_
      | refine thenA_normal ?_
      | refine AW.condT rfl ?_
      | refine AW.condF rfl ?_
      | refine AW.skip ?_
      | refine AW.block ?_
      | refine AW.exit ?_
      | refine AW.ret ?_
      | refine thenA_exit ?_
      | refine thenA_ret ?_
      | refine blockA_normal ?_
      | refine blockA_hit ?_
      | refine blockA_miss rfl ?_
      | refine blockA_ret ?_
      | refine Reg.panic rfl rfl rfl rfl ?_
      | refine thenA_panic ?_
      | refine blockA_panic ?_
      | refine Reg.skip rfl rfl rfl rfl rfl rfl rfl rfl ?_
      | refine Reg.ifS tab_ok (hint := []) rfl rfl rfl rfl rfl rfl rfl rfl rfl trivial ?_
      | refine AW.label ?_
      | refine AW.scope ?_
      | refine scopeA_normal ?_
      | refine scopeA_ret ?_
      | refine scopeA_exit ?_)
    cases h1 : decide ((s.size : Int) > 60000) with
    | true =>
      repeat (first
        | refine AW.seq ?_
        | refine AW.reg ?_
        | refine Reg.opS tab_ok (hint := []) rfl rfl rfl rfl rfl trivial ?_
        | refine Reg.opN tab_ok (hint := []) rfl rfl rfl rfl trivial ?_
        | refine Reg.nil ?_
        | refine thenA_normal ?_
        | refine AW.condT rfl ?_
        | refine AW.condF rfl ?_
        | refine AW.skip ?_
        | refine AW.block ?_
        | refine AW.exit ?_
        | refine AW.ret ?_
        | refine thenA_exit ?_
        | refine thenA_ret ?_
        | refine blockA_normal ?_
        | refine blockA_hit ?_
        | refine blockA_miss rfl ?_
        | refine blockA_ret ?_
        | refine Reg.panic rfl rfl rfl rfl ?_
        | refine thenA_panic ?_
        | refine blockA_panic ?_
        | refine Reg.skip rfl rfl rfl rfl rfl rfl rfl rfl ?_
        | refine Reg.ifS tab_ok (hint := []) rfl rfl rfl rfl rfl rfl rfl rfl rfl trivial ?_
        | refine AW.label ?_
        | refine AW.scope ?_
        | refine scopeA_normal ?_
        | refine scopeA_ret ?_
        | refine scopeA_exit ?_)
      exact ⟨_, rfl, rfl, rfl, rfl, rfl⟩
    | false =>
      have hsz : s.size ≤ 60000 := by have := of_decide_eq_false h1; omega
      have he := Top_bad (termP_fine 200) hR
      obtain ⟨hp1, hp2⟩ := bad_place (k := 0) (g := T.sh 0) (fun X => termP_nt 200) hR
      have d1 : decide (p ≥ 0) = true := by simpa using hp1
      repeat (first
        | refine AW.seq ?_
        | refine AW.reg ?_
        | refine Reg.opS tab_ok (hint := []) rfl rfl rfl rfl rfl trivial ?_
        | refine Reg.opN tab_ok (hint := []) rfl rfl rfl rfl trivial ?_
        | refine Reg.nil ?_
        | refine thenA_normal ?_
        | refine AW.condT rfl ?_
        | refine AW.condF rfl ?_
        | refine AW.skip ?_
        | refine AW.block ?_
        | refine AW.exit ?_
        | refine AW.ret ?_
        | refine thenA_exit ?_
        | refine thenA_ret ?_
        | refine blockA_normal ?_
        | refine blockA_hit ?_
        | refine blockA_miss rfl ?_
        | refine blockA_ret ?_
        | refine Reg.panic rfl rfl rfl rfl ?_
        | refine thenA_panic ?_
        | refine blockA_panic ?_
        | refine Reg.skip rfl rfl rfl rfl rfl rfl rfl rfl ?_
        | refine Reg.ifS tab_ok (hint := []) rfl rfl rfl rfl rfl rfl rfl rfl rfl trivial ?_
        | refine AW.label ?_
        | refine AW.scope ?_
        | refine scopeA_normal ?_
        | refine scopeA_ret ?_
        | refine scopeA_exit ?_)
      refine Reg.opS tab_ok (hint := []) rfl rfl rfl rfl rfl (by rw [i64max]; show ((1 + s.size : Nat) : Int) ≤ _; omega) ?_
      refine Reg.opS tab_ok (hint := []) rfl rfl rfl rfl rfl (by rw [i64max, size_app]; show ((1 + s.size + 2 : Nat) : Int) ≤ _; omega) ?_
      refine Reg.call tab_ok [] (treeTerm_any (bs [40] ++ s ++ bs [10, 41])) callable10 rfl (.inl rfl) rfl rfl rfl (by decide) rfl rfl ?_
      intro out bx1 ho
      rw [bl_br] at ho
      cases hB : readTop (termP 200) (inBr (bl s)) with
      | ok b =>
        rw [hB] at ho
        obtain ⟨rfl, rfl⟩ := ho
        refine after0t rfl rfl rfl ?_
        have d2 : (e != 60) = true := by
          cases h60 : e != 60 with
          | true => rfl
          | false =>
            have : e = 60 := by simpa using h60
            subst this
            rw [brackets_bad (by rw [bl_len]; omega) hR] at hB
            cases hB
        repeat (first
          | refine AW.seq ?_
          | refine AW.reg ?_
          | refine Reg.opS tab_ok (hint := []) rfl rfl rfl rfl rfl trivial ?_
          | refine Reg.opN tab_ok (hint := []) rfl rfl rfl rfl trivial ?_
          | refine Reg.nil ?_
          | refine thenA_normal ?_
          | refine AW.condT rfl ?_
          | refine AW.condF rfl ?_
          | refine AW.skip ?_
          | refine AW.block ?_
          | refine AW.exit ?_
          | refine AW.ret ?_
          | refine thenA_exit ?_
          | refine thenA_ret ?_
          | refine blockA_normal ?_
          | refine blockA_hit ?_
          | refine blockA_miss rfl ?_
          | refine blockA_ret ?_
          | refine Reg.panic rfl rfl rfl rfl ?_
          | refine thenA_panic ?_
          | refine blockA_panic ?_
          | refine Reg.skip rfl rfl rfl rfl rfl rfl rfl rfl ?_
          | refine Reg.ifS tab_ok (hint := []) rfl rfl rfl rfl rfl rfl rfl rfl rfl trivial ?_
          | refine AW.label ?_
          | refine AW.scope ?_
          | refine scopeA_normal ?_
          | refine scopeA_ret ?_
          | refine scopeA_exit ?_)
        rw [he]
        repeat (first
          | refine AW.seq ?_
          | refine AW.reg ?_
          | refine Reg.opS tab_ok (hint := []) rfl rfl rfl rfl rfl trivial ?_
          | refine Reg.opN tab_ok (hint := []) rfl rfl rfl rfl trivial ?_
          | refine Reg.nil ?_
          | refine thenA_normal ?_
          | refine AW.condT rfl ?_
          | refine AW.condF rfl ?_
          | refine AW.skip ?_
          | refine AW.block ?_
          | refine AW.exit ?_
          | refine AW.ret ?_
          | refine thenA_exit ?_
          | refine thenA_ret ?_
          | refine blockA_normal ?_
          | refine blockA_hit ?_
          | refine blockA_miss rfl ?_
          | refine blockA_ret ?_
          | refine Reg.panic rfl rfl rfl rfl ?_
          | refine thenA_panic ?_
          | refine blockA_panic ?_
          | refine Reg.skip rfl rfl rfl rfl rfl rfl rfl rfl ?_
          | refine Reg.ifS tab_ok (hint := []) rfl rfl rfl rfl rfl rfl rfl rfl rfl trivial ?_
          | refine AW.label ?_
          | refine AW.scope ?_
          | refine scopeA_normal ?_
          | refine scopeA_ret ?_
          | refine scopeA_exit ?_)
        rw [d1]
        repeat (first
          | refine AW.seq ?_
          | refine AW.reg ?_
          | refine Reg.opS tab_ok (hint := []) rfl rfl rfl rfl rfl trivial ?_
          | refine Reg.opN tab_ok (hint := []) rfl rfl rfl rfl trivial ?_
          | refine Reg.nil ?_
          | refine thenA_normal ?_
          | refine AW.condT rfl ?_
          | refine AW.condF rfl ?_
          | refine AW.skip ?_
          | refine AW.block ?_
          | refine AW.exit ?_
          | refine AW.ret ?_
          | refine thenA_exit ?_
          | refine thenA_ret ?_
          | refine blockA_normal ?_
          | refine blockA_hit ?_
          | refine blockA_miss rfl ?_
          | refine blockA_ret ?_
          | refine Reg.panic rfl rfl rfl rfl ?_
          | refine thenA_panic ?_
          | refine blockA_panic ?_
          | refine Reg.skip rfl rfl rfl rfl rfl rfl rfl rfl ?_
          | refine Reg.ifS tab_ok (hint := []) rfl rfl rfl rfl rfl rfl rfl rfl rfl trivial ?_
          | refine AW.label ?_
          | refine AW.scope ?_
          | refine scopeA_normal ?_
          | refine scopeA_ret ?_
          | refine scopeA_exit ?_)
        rw [d2]
        repeat (first
          | refine AW.seq ?_
          | refine AW.reg ?_
          | refine Reg.opS tab_ok (hint := []) rfl rfl rfl rfl rfl trivial ?_
          | refine Reg.opN tab_ok (hint := []) rfl rfl rfl rfl trivial ?_
          | refine Reg.nil ?_
          | refine thenA_normal ?_
          | refine AW.condT rfl ?_
          | refine AW.condF rfl ?_
          | refine AW.skip ?_
          | refine AW.block ?_
          | refine AW.exit ?_
          | refine AW.ret ?_
          | refine thenA_exit ?_
          | refine thenA_ret ?_
          | refine blockA_normal ?_
          | refine blockA_hit ?_
          | refine blockA_miss rfl ?_
          | refine blockA_ret ?_
          | refine Reg.panic rfl rfl rfl rfl ?_
          | refine thenA_panic ?_
          | refine blockA_panic ?_
          | refine Reg.skip rfl rfl rfl rfl rfl rfl rfl rfl ?_
          | refine Reg.ifS tab_ok (hint := []) rfl rfl rfl rfl rfl rfl rfl rfl rfl trivial ?_
          | refine AW.label ?_
          | refine AW.scope ?_
          | refine scopeA_normal ?_
          | refine scopeA_ret ?_
          | refine scopeA_exit ?_)
        exact ⟨_, rfl, rfl, rfl, rfl, rfl⟩
      | bad q f =>
        rw [hB] at ho
        obtain ⟨rfl, rfl⟩ := ho
        refine after0t rfl rfl rfl ?_
        obtain ⟨hq1, hq2⟩ := bad_place (k := 0) (g := T.sh 0) (fun X => termP_nt 200) hB
        have d3 : decide (q ≥ 0) = true := by simpa using hq1
        repeat (first
          | refine AW.seq ?_
          | refine AW.reg ?_
          | refine Reg.opS tab_ok (hint := []) rfl rfl rfl rfl rfl trivial ?_
          | refine Reg.opN tab_ok (hint := []) rfl rfl rfl rfl trivial ?_
          | refine Reg.nil ?_
          | refine thenA_normal ?_
          | refine AW.condT rfl ?_
          | refine AW.condF rfl ?_
          | refine AW.skip ?_
          | refine AW.block ?_
          | refine AW.exit ?_
          | refine AW.ret ?_
          | refine thenA_exit ?_
          | refine thenA_ret ?_
          | refine blockA_normal ?_
          | refine blockA_hit ?_
          | refine blockA_miss rfl ?_
          | refine blockA_ret ?_
          | refine Reg.panic rfl rfl rfl rfl ?_
          | refine thenA_panic ?_
          | refine blockA_panic ?_
          | refine Reg.skip rfl rfl rfl rfl rfl rfl rfl rfl ?_
          | refine Reg.ifS tab_ok (hint := []) rfl rfl rfl rfl rfl rfl rfl rfl rfl trivial ?_
          | refine AW.label ?_
          | refine AW.scope ?_
          | refine scopeA_normal ?_
          | refine scopeA_ret ?_
          | refine scopeA_exit ?_)
        rw [he]
        repeat (first
          | refine AW.seq ?_
          | refine AW.reg ?_
          | refine Reg.opS tab_ok (hint := []) rfl rfl rfl rfl rfl trivial ?_
          | refine Reg.opN tab_ok (hint := []) rfl rfl rfl rfl trivial ?_
          | refine Reg.nil ?_
          | refine thenA_normal ?_
          | refine AW.condT rfl ?_
          | refine AW.condF rfl ?_
          | refine AW.skip ?_
          | refine AW.block ?_
          | refine AW.exit ?_
          | refine AW.ret ?_
          | refine thenA_exit ?_
          | refine thenA_ret ?_
          | refine blockA_normal ?_
          | refine blockA_hit ?_
          | refine blockA_miss rfl ?_
          | refine blockA_ret ?_
          | refine Reg.panic rfl rfl rfl rfl ?_
          | refine thenA_panic ?_
          | refine blockA_panic ?_
          | refine Reg.skip rfl rfl rfl rfl rfl rfl rfl rfl ?_
          | refine Reg.ifS tab_ok (hint := []) rfl rfl rfl rfl rfl rfl rfl rfl rfl trivial ?_
          | refine AW.label ?_
          | refine AW.scope ?_
          | refine scopeA_normal ?_
          | refine scopeA_ret ?_
          | refine scopeA_exit ?_)
        rw [d1]
        repeat (first
          | refine AW.seq ?_
          | refine AW.reg ?_
          | refine Reg.opS tab_ok (hint := []) rfl rfl rfl rfl rfl trivial ?_
          | refine Reg.opN tab_ok (hint := []) rfl rfl rfl rfl trivial ?_
          | refine Reg.nil ?_
          | refine thenA_normal ?_
          | refine AW.condT rfl ?_
          | refine AW.condF rfl ?_
          | refine AW.skip ?_
          | refine AW.block ?_
          | refine AW.exit ?_
          | refine AW.ret ?_
          | refine thenA_exit ?_
          | refine thenA_ret ?_
          | refine blockA_normal ?_
          | refine blockA_hit ?_
          | refine blockA_miss rfl ?_
          | refine blockA_ret ?_
          | refine Reg.panic rfl rfl rfl rfl ?_
          | refine thenA_panic ?_
          | refine blockA_panic ?_
          | refine Reg.skip rfl rfl rfl rfl rfl rfl rfl rfl ?_
          | refine Reg.ifS tab_ok (hint := []) rfl rfl rfl rfl rfl rfl rfl rfl rfl trivial ?_
          | refine AW.label ?_
          | refine AW.scope ?_
          | refine scopeA_normal ?_
          | refine scopeA_ret ?_
          | refine scopeA_exit ?_)
        rw [d3]
        repeat (first
          | refine AW.seq ?_
          | refine AW.reg ?_
          | refine Reg.opS tab_ok (hint := []) rfl rfl rfl rfl rfl trivial ?_
          | refine Reg.opN tab_ok (hint := []) rfl rfl rfl rfl trivial ?_
          | refine Reg.nil ?_
          | refine thenA_normal ?_
          | refine AW.condT rfl ?_
          | refine AW.condF rfl ?_
          | refine AW.skip ?_
          | refine AW.block ?_
          | refine AW.exit ?_
          | refine AW.ret ?_
          | refine thenA_exit ?_
          | refine thenA_ret ?_
          | refine blockA_normal ?_
          | refine blockA_hit ?_
          | refine blockA_miss rfl ?_
          | refine blockA_ret ?_
          | refine Reg.panic rfl rfl rfl rfl ?_
          | refine thenA_panic ?_
          | refine blockA_panic ?_
          | refine Reg.skip rfl rfl rfl rfl rfl rfl rfl rfl ?_
          | refine Reg.ifS tab_ok (hint := []) rfl rfl rfl rfl rfl rfl rfl rfl rfl trivial ?_
          | refine AW.label ?_
          | refine AW.scope ?_
          | refine scopeA_normal ?_
          | refine scopeA_ret ?_
          | refine scopeA_exit ?_)
        cases h60 : e != 60 with
        | true =>
          repeat (first
            | refine AW.seq ?_
            | refine AW.reg ?_
            | refine Reg.opS tab_ok (hint := []) rfl rfl rfl rfl rfl trivial ?_
            | refine Reg.opN tab_ok (hint := []) rfl rfl rfl rfl trivial ?_
            | refine Reg.nil ?_
            | refine thenA_normal ?_
            | refine AW.condT rfl ?_
            | refine AW.condF rfl ?_
            | refine AW.skip ?_
            | refine AW.block ?_
            | refine AW.exit ?_
            | refine AW.ret ?_
            | refine thenA_exit ?_
            | refine thenA_ret ?_
            | refine blockA_normal ?_
            | refine blockA_hit ?_
            | refine blockA_miss rfl ?_
            | refine blockA_ret ?_
            | refine Reg.panic rfl rfl rfl rfl ?_
            | refine thenA_panic ?_
            | refine blockA_panic ?_
            | refine Reg.skip rfl rfl rfl rfl rfl rfl rfl rfl ?_
            | refine Reg.ifS tab_ok (hint := []) rfl rfl rfl rfl rfl rfl rfl rfl rfl trivial ?_
            | refine AW.label ?_
            | refine AW.scope ?_
            | refine scopeA_normal ?_
            | refine scopeA_ret ?_
            | refine scopeA_exit ?_)
          exact ⟨_, rfl, rfl, rfl, rfl, rfl⟩
        | false =>
          have : e = 60 := by simpa using h60
          subst this
          rw [brackets_bad (by rw [bl_len]; omega) hR] at hB
          cases hB
          have d4 : (p + 1 == IntKind.i64.wrap (p + 1)) = true := by
            rw [wrap_in (by omega) (by rw [bl_len] at hp2; omega)]
            simp
          repeat (first
            | refine AW.seq ?_
            | refine AW.reg ?_
            | refine Reg.opS tab_ok (hint := []) rfl rfl rfl rfl rfl trivial ?_
            | refine Reg.opN tab_ok (hint := []) rfl rfl rfl rfl trivial ?_
            | refine Reg.nil ?_
            | refine thenA_normal ?_
            | refine AW.condT rfl ?_
            | refine AW.condF rfl ?_
            | refine AW.skip ?_
            | refine AW.block ?_
            | refine AW.exit ?_
            | refine AW.ret ?_
            | refine thenA_exit ?_
            | refine thenA_ret ?_
            | refine blockA_normal ?_
            | refine blockA_hit ?_
            | refine blockA_miss rfl ?_
            | refine blockA_ret ?_
            | refine Reg.panic rfl rfl rfl rfl ?_
            | refine thenA_panic ?_
            | refine blockA_panic ?_
            | refine Reg.skip rfl rfl rfl rfl rfl rfl rfl rfl ?_
            | refine Reg.ifS tab_ok (hint := []) rfl rfl rfl rfl rfl rfl rfl rfl rfl trivial ?_
            | refine AW.label ?_
            | refine AW.scope ?_
            | refine scopeA_normal ?_
            | refine scopeA_ret ?_
            | refine scopeA_exit ?_)
          rw [d4]
          repeat (first
            | refine AW.seq ?_
            | refine AW.reg ?_
            | refine Reg.opS tab_ok (hint := []) rfl rfl rfl rfl rfl trivial ?_
            | refine Reg.opN tab_ok (hint := []) rfl rfl rfl rfl trivial ?_
            | refine Reg.nil ?_
            | refine thenA_normal ?_
            | refine AW.condT rfl ?_
            | refine AW.condF rfl ?_
            | refine AW.skip ?_
            | refine AW.block ?_
            | refine AW.exit ?_
            | refine AW.ret ?_
            | refine thenA_exit ?_
            | refine thenA_ret ?_
            | refine blockA_normal ?_
            | refine blockA_hit ?_
            | refine blockA_miss rfl ?_
            | refine blockA_ret ?_
            | refine Reg.panic rfl rfl rfl rfl ?_
            | refine thenA_panic ?_
            | refine blockA_panic ?_
            | refine Reg.skip rfl rfl rfl rfl rfl rfl rfl rfl ?_
            | refine Reg.ifS tab_ok (hint := []) rfl rfl rfl rfl rfl rfl rfl rfl rfl trivial ?_
            | refine AW.label ?_
            | refine AW.scope ?_
            | refine scopeA_normal ?_
            | refine scopeA_ret ?_
            | refine scopeA_exit ?_)
          exact ⟨_, rfl, rfl, rfl, rfl, rfl⟩
  | ok a =>
    rw [hR] at ho
    obtain ⟨rfl, rfl⟩ := ho
    refine after0t rfl rfl rfl ?_
    repeat (first
      | refine AW.seq ?_
      | refine AW.reg ?_
      | refine Reg.opS tab_ok (hint := []) rfl rfl rfl rfl rfl trivial ?_
      | refine Reg.opN tab_ok (hint := []) rfl rfl rfl rfl trivial ?_
      | refine Reg.nil ?_
      | refine thenA_normal ?_
      | refine AW.condT rfl ?_
      | refine AW.condF rfl ?_
      | refine AW.skip ?_
      | refine AW.block ?_
      | refine AW.exit ?_
      | refine AW.ret ?_
      | refine thenA_exit ?_
      | refine thenA_ret ?_
      | refine blockA_normal ?_
      | refine blockA_hit ?_
      | refine blockA_miss rfl ?_
      | refine blockA_ret ?_
      | refine Reg.panic rfl rfl rfl rfl ?_
      | refine thenA_panic ?_
      | refine blockA_panic ?_
      | refine Reg.skip rfl rfl rfl rfl rfl rfl rfl rfl ?_
      | refine Reg.ifS tab_ok (hint := []) rfl rfl rfl rfl rfl rfl rfl rfl rfl trivial ?_
      | refine AW.label ?_
      | refine AW.scope ?_
      | refine scopeA_normal ?_
      | refine scopeA_ret ?_
      | refine scopeA_exit ?_)
    cases h1 : decide ((s.size : Int) > 60000) with
    | true =>
      repeat (first
        | refine AW.seq ?_
        | refine AW.reg ?_
        | refine Reg.opS tab_ok (hint := []) rfl rfl rfl rfl rfl trivial ?_
        | refine Reg.opN tab_ok (hint := []) rfl rfl rfl rfl trivial ?_
        | refine Reg.nil ?_
        | refine thenA_normal ?_
        | refine AW.condT rfl ?_
        | refine AW.condF rfl ?_
        | refine AW.skip ?_
        | refine AW.block ?_
        | refine AW.exit ?_
        | refine AW.ret ?_
        | refine thenA_exit ?_
        | refine thenA_ret ?_
        | refine blockA_normal ?_
        | refine blockA_hit ?_
        | refine blockA_miss rfl ?_
        | refine blockA_ret ?_
        | refine Reg.panic rfl rfl rfl rfl ?_
        | refine thenA_panic ?_
        | refine blockA_panic ?_
        | refine Reg.skip rfl rfl rfl rfl rfl rfl rfl rfl ?_
        | refine Reg.ifS tab_ok (hint := []) rfl rfl rfl rfl rfl rfl rfl rfl rfl trivial ?_
        | refine AW.label ?_
        | refine AW.scope ?_
        | refine scopeA_normal ?_
        | refine scopeA_ret ?_
        | refine scopeA_exit ?_)
      exact ⟨_, rfl, rfl, rfl, rfl, rfl⟩
    | false =>
      have hsz : s.size ≤ 60000 := by have := of_decide_eq_false h1; omega
      have hl : (bl s).length ≤ 60000 := by rw [bl_len]; omega
      have ha := term_size hR
      repeat (first
        | refine AW.seq ?_
        | refine AW.reg ?_
        | refine Reg.opS tab_ok (hint := []) rfl rfl rfl rfl rfl trivial ?_
        | refine Reg.opN tab_ok (hint := []) rfl rfl rfl rfl trivial ?_
        | refine Reg.nil ?_
        | refine thenA_normal ?_
        | refine AW.condT rfl ?_
        | refine AW.condF rfl ?_
        | refine AW.skip ?_
        | refine AW.block ?_
        | refine AW.exit ?_
        | refine AW.ret ?_
        | refine thenA_exit ?_
        | refine thenA_ret ?_
        | refine blockA_normal ?_
        | refine blockA_hit ?_
        | refine blockA_miss rfl ?_
        | refine blockA_ret ?_
        | refine Reg.panic rfl rfl rfl rfl ?_
        | refine thenA_panic ?_
        | refine blockA_panic ?_
        | refine Reg.skip rfl rfl rfl rfl rfl rfl rfl rfl ?_
        | refine Reg.ifS tab_ok (hint := []) rfl rfl rfl rfl rfl rfl rfl rfl rfl trivial ?_
        | refine AW.label ?_
        | refine AW.scope ?_
        | refine scopeA_normal ?_
        | refine scopeA_ret ?_
        | refine scopeA_exit ?_)
      refine Reg.opS tab_ok (hint := []) rfl rfl rfl rfl rfl (by rw [i64max]; show ((1 + s.size : Nat) : Int) ≤ _; omega) ?_
      refine Reg.opS tab_ok (hint := []) rfl rfl rfl rfl rfl (by rw [i64max, size_app]; show ((1 + s.size + 2 : Nat) : Int) ≤ _; omega) ?_
      refine Reg.call tab_ok [] (treeTerm_any (bs [40] ++ s ++ bs [10, 41])) callable10 rfl (.inl rfl) rfl rfl rfl (by decide) rfl rfl ?_
      intro out bx1 ho
      rw [bl_br] at ho
      rcases brackets_law hl hR with ⟨q, hB⟩ | hB
      · rw [hB] at ho
        obtain ⟨rfl, rfl⟩ := ho
        refine after0t rfl rfl rfl ?_
        repeat (first
          | refine AW.seq ?_
          | refine AW.reg ?_
          | refine Reg.opS tab_ok (hint := []) rfl rfl rfl rfl rfl trivial ?_
          | refine Reg.opN tab_ok (hint := []) rfl rfl rfl rfl trivial ?_
          | refine Reg.nil ?_
          | refine thenA_normal ?_
          | refine AW.condT rfl ?_
          | refine AW.condF rfl ?_
          | refine AW.skip ?_
          | refine AW.block ?_
          | refine AW.exit ?_
          | refine AW.ret ?_
          | refine thenA_exit ?_
          | refine thenA_ret ?_
          | refine blockA_normal ?_
          | refine blockA_hit ?_
          | refine blockA_miss rfl ?_
          | refine blockA_ret ?_
          | refine Reg.panic rfl rfl rfl rfl ?_
          | refine thenA_panic ?_
          | refine blockA_panic ?_
          | refine Reg.skip rfl rfl rfl rfl rfl rfl rfl rfl ?_
          | refine Reg.ifS tab_ok (hint := []) rfl rfl rfl rfl rfl rfl rfl rfl rfl trivial ?_
          | refine AW.label ?_
          | refine AW.scope ?_
          | refine scopeA_normal ?_
          | refine scopeA_ret ?_
          | refine scopeA_exit ?_)
        exact ⟨_, rfl, rfl, rfl, rfl, rfl⟩
      · rw [hB] at ho
        obtain ⟨rfl, rfl⟩ := ho
        refine after0t rfl rfl rfl ?_
        repeat (first
          | refine AW.seq ?_
          | refine AW.reg ?_
          | refine Reg.opS tab_ok (hint := []) rfl rfl rfl rfl rfl trivial ?_
          | refine Reg.opN tab_ok (hint := []) rfl rfl rfl rfl trivial ?_
          | refine Reg.nil ?_
          | refine thenA_normal ?_
          | refine AW.condT rfl ?_
          | refine AW.condF rfl ?_
          | refine AW.skip ?_
          | refine AW.block ?_
          | refine AW.exit ?_
          | refine AW.ret ?_
          | refine thenA_exit ?_
          | refine thenA_ret ?_
          | refine blockA_normal ?_
          | refine blockA_hit ?_
          | refine blockA_miss rfl ?_
          | refine blockA_ret ?_
          | refine Reg.panic rfl rfl rfl rfl ?_
          | refine thenA_panic ?_
          | refine blockA_panic ?_
          | refine Reg.skip rfl rfl rfl rfl rfl rfl rfl rfl ?_
          | refine Reg.ifS tab_ok (hint := []) rfl rfl rfl rfl rfl rfl rfl rfl rfl trivial ?_
          | refine AW.label ?_
          | refine AW.scope ?_
          | refine scopeA_normal ?_
          | refine scopeA_ret ?_
          | refine scopeA_exit ?_)
        refine Reg.opS tab_ok (hint := []) rfl rfl rfl rfl rfl (by rw [i64max]; show ((4 + s.size : Nat) : Int) ≤ _; omega) ?_
        refine Reg.opS tab_ok (hint := []) rfl rfl rfl rfl rfl (by rw [i64max, size_app]; show ((4 + s.size + 5 : Nat) : Int) ≤ _; omega) ?_
        refine Reg.call tab_ok [] (treeParse_any (bs [120, 32, 58, 32] ++ s ++ bs [10, 61, 32, 85, 59])) callable11 rfl (.inl rfl) rfl rfl rfl (by decide) rfl rfl ?_
        intro out bx1 ho
        rw [bl_decl] at ho
        obtain ⟨u, hD, hu⟩ := decl_law hl hR
        rw [hD] at ho
        obtain ⟨rfl, rfl⟩ := ho
        refine after0t rfl rfl rfl ?_
        repeat (first
          | refine AW.seq ?_
          | refine AW.reg ?_
          | refine Reg.opS tab_ok (hint := []) rfl rfl rfl rfl rfl trivial ?_
          | refine Reg.opN tab_ok (hint := []) rfl rfl rfl rfl trivial ?_
          | refine Reg.nil ?_
          | refine thenA_normal ?_
          | refine AW.condT rfl ?_
          | refine AW.condF rfl ?_
          | refine AW.skip ?_
          | refine AW.block ?_
          | refine AW.exit ?_
          | refine AW.ret ?_
          | refine thenA_exit ?_
          | refine thenA_ret ?_
          | refine blockA_normal ?_
          | refine blockA_hit ?_
          | refine blockA_miss rfl ?_
          | refine blockA_ret ?_
          | refine Reg.panic rfl rfl rfl rfl ?_
          | refine thenA_panic ?_
          | refine blockA_panic ?_
          | refine Reg.skip rfl rfl rfl rfl rfl rfl rfl rfl ?_
          | refine Reg.ifS tab_ok (hint := []) rfl rfl rfl rfl rfl rfl rfl rfl rfl trivial ?_
          | refine AW.label ?_
          | refine AW.scope ?_
          | refine scopeA_normal ?_
          | refine scopeA_ret ?_
          | refine scopeA_exit ?_)
        have s1 := same_true (w := false) ha (sameP_sh 1 a).1
        have s2 := same_true (w := false) (a := a.sh 4) (b := a) (by rw [sh_sz]; exact ha) (sameP_sh 4 a).2
        refine AW.draw [] [0, 1, 2, 3, 4, 5, 6, 7, 8, 9, 10, 11, 12, 13, 14, 15, 16, 17, 18, 19, 20, 21, 22, 23, 24, 25, 26, 27, 28, 29, 30, 31, 32, 33, 34] mixed ⟨rfl, rfl, rfl, rfl, by decide⟩ ?_
        iterate 5 refine RegD.pureS tab_ok (hint := []) rfl rfl rfl rfl rfl rfl trivial ?_
        refine RegD.pureCall tab_ok s1 callable12 rfl rfl rfl rfl rfl rfl rfl rfl ?_
        iterate 12 refine RegD.pureS tab_ok (hint := []) rfl rfl rfl rfl rfl rfl trivial ?_
        refine RegD.pureS tab_ok (hint := (tC (.mk 18 (bsL [120]) [a.sh 4, u] [] 0))) rfl rfl rfl rfl rfl rfl ⟨rfl, Int.le_refl _, by rw [T.rows_cons]; rfl⟩ ?_
        iterate 7 refine RegD.pureS tab_ok (hint := []) rfl rfl rfl rfl rfl rfl trivial ?_
        refine RegD.pureS tab_ok (hint := (tC (.mk 18 (bsL [120]) [a.sh 4, u] [] 0))) rfl rfl rfl rfl rfl rfl ⟨rfl, Int.le_refl _, by rw [T.rows_cons]; rfl⟩ ?_
        iterate 2 refine RegD.pureS tab_ok (hint := []) rfl rfl rfl rfl rfl rfl trivial ?_
        refine RegD.pureS tab_ok (hint := (tC (a.sh 4))) rfl rfl rfl rfl rfl rfl ⟨rfl, Int.le_refl _, by show (T.rows [a.sh 4, u])[Int.toNat 0]? = _; rw [T.rows_cons]; rfl⟩ ?_
        iterate 2 refine RegD.pureS tab_ok (hint := []) rfl rfl rfl rfl rfl rfl trivial ?_
        refine RegD.pureCall tab_ok s2 callable12 rfl rfl rfl rfl rfl rfl rfl rfl ?_
        iterate 2 refine RegD.pureS tab_ok (hint := []) rfl rfl rfl rfl rfl rfl trivial ?_
        refine RegD.nil ?_
        repeat (first
          | refine AW.seq ?_
          | refine AW.reg ?_
          | refine Reg.opS tab_ok (hint := []) rfl rfl rfl rfl rfl trivial ?_
          | refine Reg.opN tab_ok (hint := []) rfl rfl rfl rfl trivial ?_
          | refine Reg.nil ?_
          | refine thenA_normal ?_
          | refine AW.condT rfl ?_
          | refine AW.condF rfl ?_
          | refine AW.skip ?_
          | refine AW.block ?_
          | refine AW.exit ?_
          | refine AW.ret ?_
          | refine thenA_exit ?_
          | refine thenA_ret ?_
          | refine blockA_normal ?_
          | refine blockA_hit ?_
          | refine blockA_miss rfl ?_
          | refine blockA_ret ?_
          | refine Reg.panic rfl rfl rfl rfl ?_
          | refine thenA_panic ?_
          | refine blockA_panic ?_
          | refine Reg.skip rfl rfl rfl rfl rfl rfl rfl rfl ?_
          | refine Reg.ifS tab_ok (hint := []) rfl rfl rfl rfl rfl rfl rfl rfl rfl trivial ?_
          | refine AW.label ?_
          | refine AW.scope ?_
          | refine scopeA_normal ?_
          | refine scopeA_ret ?_
          | refine scopeA_exit ?_)
        exact ⟨_, rfl, rfl, rfl, rfl, rfl⟩

end Go.Proofs.YtamkldohfhidiaaDoor
