import Derived.Test.YtamkldohfhidiaaDoorW5
namespace Go.Proofs.YtamkldohfhidiaaDoor
open Go Go.Abs

variable {G : Glob} {toks s : List Tok} {f : Bool} {t : Tok}


theorem atom_any {d : Nat} (ht : TermOk G d) {l : Int} (hl : l + (d + 1 : Nat) = 201) (hl1 : 1 ≤ l) (h : Suf toks (t :: s)) :
    ACalls Tryd.prog G 56 [.ptr 0 0, .d (.val (.int .i64 l))] [rd toks f (t :: s)] (PRout toks f treeV (atomP (termP d) (t :: s))) := by
  refine PRle.weak ?_
  generalize hR : atomP (termP d) (t :: s) = R
  unfold atomP at hR
  have hw : IntKind.i64.wrap (l + 1) = l + 1 := wrap_in (by omega) (by omega)
  refine ACalls.body tab_ok Tryd.func56 rfl rfl ?_
  repeat (first
    | refine AW.seq ?_
    | refine AW.reg ?_
    | refine Reg.opS tab_ok (hint := []) rfl rfl rfl rfl rfl trivial ?_
    | refine Reg.opN tab_ok (hint := []) rfl rfl rfl rfl trivial ?_
    | refine Reg.nil ?_
    | refine thenA_normal ?_
    | refine AW.condT rfl ?_
    | refine AW.condF rfl ?_
    | refine AW.skip ?_
    | refine AW.block ?_
    | refine AW.exit ?_
    | refine AW.ret ?_
    | refine thenA_exit ?_
    | refine thenA_ret ?_
    | refine blockA_normal ?_
    | refine blockA_hit ?_
    | refine blockA_miss rfl ?_
    | refine blockA_ret ?_
    | refine Reg.panic rfl rfl rfl rfl ?_
    | refine thenA_panic ?_
    | refine blockA_panic ?_)
  refine Reg.call tab_ok [0] (now_any h) callable27 rfl (.inl rfl) rfl rfl rfl (by decide) rfl rfl ?_
  rintro out bx1 ⟨rfl, rfl⟩
  refine after1 rfl rfl rfl rfl rfl ?_
  repeat (first
    | refine AW.seq ?_
    | refine AW.reg ?_
    | refine Reg.opS tab_ok (hint := []) rfl rfl rfl rfl rfl trivial ?_
    | refine Reg.opN tab_ok (hint := []) rfl rfl rfl rfl trivial ?_
    | refine Reg.nil ?_
    | refine thenA_normal ?_
    | refine AW.condT rfl ?_
    | refine AW.condF rfl ?_
    | refine AW.skip ?_
    | refine AW.block ?_
    | refine AW.exit ?_
    | refine AW.ret ?_
    | refine thenA_exit ?_
    | refine thenA_ret ?_
    | refine blockA_normal ?_
    | refine blockA_hit ?_
    | refine blockA_miss rfl ?_
    | refine blockA_ret ?_
    | refine Reg.panic rfl rfl rfl rfl ?_
    | refine thenA_panic ?_
    | refine blockA_panic ?_)
  refine Reg.call tab_ok [0] (now_any h) callable27 rfl (.inl rfl) rfl rfl rfl (by decide) rfl rfl ?_
  rintro out bx1 ⟨rfl, rfl⟩
  refine after1 rfl rfl rfl rfl rfl ?_
  repeat (first
    | refine AW.seq ?_
    | refine AW.reg ?_
    | refine Reg.opS tab_ok (hint := []) rfl rfl rfl rfl rfl trivial ?_
    | refine Reg.opN tab_ok (hint := []) rfl rfl rfl rfl trivial ?_
    | refine Reg.nil ?_
    | refine thenA_normal ?_
    | refine AW.condT rfl ?_
    | refine AW.condF rfl ?_
    | refine AW.skip ?_
    | refine AW.block ?_
    | refine AW.exit ?_
    | refine AW.ret ?_
    | refine thenA_exit ?_
    | refine thenA_ret ?_
    | refine blockA_normal ?_
    | refine blockA_hit ?_
    | refine blockA_miss rfl ?_
    | refine blockA_ret ?_
    | refine Reg.panic rfl rfl rfl rfl ?_
    | refine thenA_panic ?_
    | refine blockA_panic ?_)
  refine AW.cond rfl (fun hk => ?_) (fun hk => ?_)
  · have hk2 : isName (t :: s) = true := by simpa [isName] using hk
    rw [if_pos hk2] at hR
    repeat (first
      | refine AW.seq ?_
      | refine AW.reg ?_
      | refine Reg.opS tab_ok (hint := []) rfl rfl rfl rfl rfl trivial ?_
      | refine Reg.opN tab_ok (hint := []) rfl rfl rfl rfl trivial ?_
      | refine Reg.nil ?_
      | refine thenA_normal ?_
      | refine AW.condT rfl ?_
      | refine AW.condF rfl ?_
      | refine AW.skip ?_
      | refine AW.block ?_
      | refine AW.exit ?_
      | refine AW.ret ?_
      | refine thenA_exit ?_
      | refine thenA_ret ?_
      | refine blockA_normal ?_
      | refine blockA_hit ?_
      | refine blockA_miss rfl ?_
      | refine blockA_ret ?_
      | refine Reg.panic rfl rfl rfl rfl ?_
      | refine thenA_panic ?_
      | refine blockA_panic ?_)
    refine Reg.call tab_ok [0] (name_any h) callable57 rfl (.inl rfl) rfl rfl rfl (by decide) rfl rfl ?_
    intro out bx1 ho
    rcases hn : nameP (t :: s) with ⟨x, r0⟩ | ⟨p, e⟩
    rotate_left
    · rw [hn] at ho
      simp only [hn, PR.err_bind] at hR
      obtain ⟨rfl, s0, rfl⟩ := ho
      refine after1p rfl rfl rfl ?_
      repeat (first
        | refine AW.seq ?_
        | refine AW.reg ?_
        | refine Reg.opS tab_ok (hint := []) rfl rfl rfl rfl rfl trivial ?_
        | refine Reg.opN tab_ok (hint := []) rfl rfl rfl rfl trivial ?_
        | refine Reg.nil ?_
        | refine thenA_normal ?_
        | refine AW.condT rfl ?_
        | refine AW.condF rfl ?_
        | refine AW.skip ?_
        | refine AW.block ?_
        | refine AW.exit ?_
        | refine AW.ret ?_
        | refine thenA_exit ?_
        | refine thenA_ret ?_
        | refine blockA_normal ?_
        | refine blockA_hit ?_
        | refine blockA_miss rfl ?_
        | refine blockA_ret ?_
        | refine Reg.panic rfl rfl rfl rfl ?_
        | refine thenA_panic ?_
        | refine blockA_panic ?_)
      subst hR
      exact ⟨rfl, rfl, _, rfl⟩
    rw [hn] at ho
    simp only [hn, PR.ok_bind] at hR
    obtain ⟨⟨rfl, rfl⟩, hs, u, r, rfl⟩ := ho
    refine after1 rfl rfl rfl rfl rfl ?_
    repeat (first
      | refine AW.seq ?_
      | refine AW.reg ?_
      | refine Reg.opS tab_ok (hint := []) rfl rfl rfl rfl rfl trivial ?_
      | refine Reg.opN tab_ok (hint := []) rfl rfl rfl rfl trivial ?_
      | refine Reg.nil ?_
      | refine thenA_normal ?_
      | refine AW.condT rfl ?_
      | refine AW.condF rfl ?_
      | refine AW.skip ?_
      | refine AW.block ?_
      | refine AW.exit ?_
      | refine AW.ret ?_
      | refine thenA_exit ?_
      | refine thenA_ret ?_
      | refine blockA_normal ?_
      | refine blockA_hit ?_
      | refine blockA_miss rfl ?_
      | refine blockA_ret ?_
      | refine Reg.panic rfl rfl rfl rfl ?_
      | refine thenA_panic ?_
      | refine blockA_panic ?_)
    subst hR
    exact ⟨_, rfl, rfl, rfl, ⟨⟨_, rfl, tC_le T.rows_nil.symm rfl⟩, rfl⟩, hs, u, r, rfl⟩
  · have hk2 : isName (t :: s) = false := by simpa [isName] using hk
    simp only [hk2, Bool.false_eq_true, if_false] at hR
    repeat (first
      | refine AW.seq ?_
      | refine AW.reg ?_
      | refine Reg.opS tab_ok (hint := []) rfl rfl rfl rfl rfl trivial ?_
      | refine Reg.opN tab_ok (hint := []) rfl rfl rfl rfl trivial ?_
      | refine Reg.nil ?_
      | refine thenA_normal ?_
      | refine AW.condT rfl ?_
      | refine AW.condF rfl ?_
      | refine AW.skip ?_
      | refine AW.block ?_
      | refine AW.exit ?_
      | refine AW.ret ?_
      | refine thenA_exit ?_
      | refine thenA_ret ?_
      | refine blockA_normal ?_
      | refine blockA_hit ?_
      | refine blockA_miss rfl ?_
      | refine blockA_ret ?_
      | refine Reg.panic rfl rfl rfl rfl ?_
      | refine thenA_panic ?_
      | refine blockA_panic ?_)
    refine Reg.call tab_ok [0] (sees_any (bs [91]) h) callable48 rfl (.inl rfl) rfl rfl rfl (by decide) rfl rfl ?_
    rintro out bx1 ⟨rfl, rfl⟩
    refine after1 rfl rfl rfl rfl rfl ?_
    repeat (first
      | refine AW.seq ?_
      | refine AW.reg ?_
      | refine Reg.opS tab_ok (hint := []) rfl rfl rfl rfl rfl trivial ?_
      | refine Reg.opN tab_ok (hint := []) rfl rfl rfl rfl trivial ?_
      | refine Reg.nil ?_
      | refine thenA_normal ?_
      | refine AW.condT rfl ?_
      | refine AW.condF rfl ?_
      | refine AW.skip ?_
      | refine AW.block ?_
      | refine AW.exit ?_
      | refine AW.ret ?_
      | refine thenA_exit ?_
      | refine thenA_ret ?_
      | refine blockA_normal ?_
      | refine blockA_hit ?_
      | refine blockA_miss rfl ?_
      | refine blockA_ret ?_
      | refine Reg.panic rfl rfl rfl rfl ?_
      | refine thenA_panic ?_
      | refine blockA_panic ?_)
    cases h0 : seesB (bs [91]) (t :: s) with
    | true =>
      simp only [h0, if_true] at hR
      repeat (first
        | refine AW.seq ?_
        | refine AW.reg ?_
        | refine Reg.opS tab_ok (hint := []) rfl rfl rfl rfl rfl trivial ?_
        | refine Reg.opN tab_ok (hint := []) rfl rfl rfl rfl trivial ?_
        | refine Reg.nil ?_
        | refine thenA_normal ?_
        | refine AW.condT rfl ?_
        | refine AW.condF rfl ?_
        | refine AW.skip ?_
        | refine AW.block ?_
        | refine AW.exit ?_
        | refine AW.ret ?_
        | refine thenA_exit ?_
        | refine thenA_ret ?_
        | refine blockA_normal ?_
        | refine blockA_hit ?_
        | refine blockA_miss rfl ?_
        | refine blockA_ret ?_
        | refine Reg.panic rfl rfl rfl rfl ?_
        | refine thenA_panic ?_
        | refine blockA_panic ?_)
      refine Reg.call tab_ok [0] (box_any ht hl hl1 h (sees_kind h0)) callable81 rfl (.inl rfl) rfl rfl rfl (by decide) rfl rfl ?_
      intro out bx1 ho
      rw [hR] at ho
      cases R with
      | ok x r0 =>
        obtain ⟨⟨rfl, rfl⟩, hs, u, r, rfl⟩ := ho
        refine after1 rfl rfl rfl rfl rfl ?_
        repeat (first
          | refine AW.seq ?_
          | refine AW.reg ?_
          | refine Reg.opS tab_ok (hint := []) rfl rfl rfl rfl rfl trivial ?_
          | refine Reg.opN tab_ok (hint := []) rfl rfl rfl rfl trivial ?_
          | refine Reg.nil ?_
          | refine thenA_normal ?_
          | refine AW.condT rfl ?_
          | refine AW.condF rfl ?_
          | refine AW.skip ?_
          | refine AW.block ?_
          | refine AW.exit ?_
          | refine AW.ret ?_
          | refine thenA_exit ?_
          | refine thenA_ret ?_
          | refine blockA_normal ?_
          | refine blockA_hit ?_
          | refine blockA_miss rfl ?_
          | refine blockA_ret ?_
          | refine Reg.panic rfl rfl rfl rfl ?_
          | refine thenA_panic ?_
          | refine blockA_panic ?_)
        exact ⟨_, rfl, rfl, rfl, ⟨⟨_, rfl, .refl _⟩, rfl⟩, hs, u, r, rfl⟩
      | err p e =>
        obtain ⟨rfl, s0, rfl⟩ := ho
        refine after1p rfl rfl rfl ?_
        repeat (first
          | refine AW.seq ?_
          | refine AW.reg ?_
          | refine Reg.opS tab_ok (hint := []) rfl rfl rfl rfl rfl trivial ?_
          | refine Reg.opN tab_ok (hint := []) rfl rfl rfl rfl trivial ?_
          | refine Reg.nil ?_
          | refine thenA_normal ?_
          | refine AW.condT rfl ?_
          | refine AW.condF rfl ?_
          | refine AW.skip ?_
          | refine AW.block ?_
          | refine AW.exit ?_
          | refine AW.ret ?_
          | refine thenA_exit ?_
          | refine thenA_ret ?_
          | refine blockA_normal ?_
          | refine blockA_hit ?_
          | refine blockA_miss rfl ?_
          | refine blockA_ret ?_
          | refine Reg.panic rfl rfl rfl rfl ?_
          | refine thenA_panic ?_
          | refine blockA_panic ?_)
        exact ⟨rfl, rfl, _, rfl⟩
    | false =>
      simp only [h0, Bool.false_eq_true, if_false] at hR
      repeat (first
        | refine AW.seq ?_
        | refine AW.reg ?_
        | refine Reg.opS tab_ok (hint := []) rfl rfl rfl rfl rfl trivial ?_
        | refine Reg.opN tab_ok (hint := []) rfl rfl rfl rfl trivial ?_
        | refine Reg.nil ?_
        | refine thenA_normal ?_
        | refine AW.condT rfl ?_
        | refine AW.condF rfl ?_
        | refine AW.skip ?_
        | refine AW.block ?_
        | refine AW.exit ?_
        | refine AW.ret ?_
        | refine thenA_exit ?_
        | refine thenA_ret ?_
        | refine blockA_normal ?_
        | refine blockA_hit ?_
        | refine blockA_miss rfl ?_
        | refine blockA_ret ?_
        | refine Reg.panic rfl rfl rfl rfl ?_
        | refine thenA_panic ?_
        | refine blockA_panic ?_)
      refine Reg.call tab_ok [0] (want_any (bs [40]) h) callable50 rfl (.inl rfl) rfl rfl rfl (by decide) rfl rfl ?_
      intro out bx1 ho
      rcases hn : wantP (bs [40]) (t :: s) with ⟨x0, r0⟩ | ⟨p, e⟩
      rotate_left
      · rw [hn] at ho
        simp only [hn, PR.err_bind] at hR
        obtain ⟨rfl, s0, rfl⟩ := ho
        refine after1p rfl rfl rfl ?_
        repeat (first
          | refine AW.seq ?_
          | refine AW.reg ?_
          | refine Reg.opS tab_ok (hint := []) rfl rfl rfl rfl rfl trivial ?_
          | refine Reg.opN tab_ok (hint := []) rfl rfl rfl rfl trivial ?_
          | refine Reg.nil ?_
          | refine thenA_normal ?_
          | refine AW.condT rfl ?_
          | refine AW.condF rfl ?_
          | refine AW.skip ?_
          | refine AW.block ?_
          | refine AW.exit ?_
          | refine AW.ret ?_
          | refine thenA_exit ?_
          | refine thenA_ret ?_
          | refine blockA_normal ?_
          | refine blockA_hit ?_
          | refine blockA_miss rfl ?_
          | refine blockA_ret ?_
          | refine Reg.panic rfl rfl rfl rfl ?_
          | refine thenA_panic ?_
          | refine blockA_panic ?_)
        subst hR
        exact ⟨rfl, rfl, _, rfl⟩
      rw [hn] at ho
      simp only [hn, PR.ok_bind] at hR
      obtain ⟨⟨rfl, rfl⟩, hs, u, r, rfl⟩ := ho
      refine after1 rfl rfl rfl rfl rfl ?_
      repeat (first
        | refine AW.seq ?_
        | refine AW.reg ?_
        | refine Reg.opS tab_ok (hint := []) rfl rfl rfl rfl rfl trivial ?_
        | refine Reg.opN tab_ok (hint := []) rfl rfl rfl rfl trivial ?_
        | refine Reg.nil ?_
        | refine thenA_normal ?_
        | refine AW.condT rfl ?_
        | refine AW.condF rfl ?_
        | refine AW.skip ?_
        | refine AW.block ?_
        | refine AW.exit ?_
        | refine AW.ret ?_
        | refine thenA_exit ?_
        | refine thenA_ret ?_
        | refine blockA_normal ?_
        | refine blockA_hit ?_
        | refine blockA_miss rfl ?_
        | refine blockA_ret ?_
        | refine Reg.panic rfl rfl rfl rfl ?_
        | refine thenA_panic ?_
        | refine blockA_panic ?_)
      refine Reg.call tab_ok [0] (ht _ toks f u r (by rw [hw]; omega) (by rw [hw]; omega) hs) callable25 rfl (.inl rfl) rfl rfl rfl (by decide) rfl rfl ?_
      intro out bx1 ho
      rcases hn2 : termP d (u :: r) with ⟨x, r0⟩ | ⟨p, e⟩
      rotate_left
      · rw [hn2] at ho
        simp only [hn2, PR.err_bind] at hR
        obtain ⟨rfl, s0, rfl⟩ := ho
        refine after1p rfl rfl rfl ?_
        repeat (first
          | refine AW.seq ?_
          | refine AW.reg ?_
          | refine Reg.opS tab_ok (hint := []) rfl rfl rfl rfl rfl trivial ?_
          | refine Reg.opN tab_ok (hint := []) rfl rfl rfl rfl trivial ?_
          | refine Reg.nil ?_
          | refine thenA_normal ?_
          | refine AW.condT rfl ?_
          | refine AW.condF rfl ?_
          | refine AW.skip ?_
          | refine AW.block ?_
          | refine AW.exit ?_
          | refine AW.ret ?_
          | refine thenA_exit ?_
          | refine thenA_ret ?_
          | refine blockA_normal ?_
          | refine blockA_hit ?_
          | refine blockA_miss rfl ?_
          | refine blockA_ret ?_
          | refine Reg.panic rfl rfl rfl rfl ?_
          | refine thenA_panic ?_
          | refine blockA_panic ?_)
        subst hR
        exact ⟨rfl, rfl, _, rfl⟩
      rw [hn2] at ho
      simp only [hn2, PR.ok_bind] at hR
      obtain ⟨⟨rfl, rfl⟩, hs2, u2, r2, rfl⟩ := ho
      refine after1 rfl rfl rfl rfl rfl ?_
      iterate 1 refine Reg.opS tab_ok (hint := []) rfl rfl rfl rfl rfl trivial ?_
      refine Reg.opN tab_ok (hint := []) rfl rfl rfl rfl trivial ?_
      refine Reg.nil ?_
      refine thenA_normal ?_
      refine AW.seq ?_
      refine AW.cut (S := T × Tok × List Tok) (C := fun st => Suf toks (st.2.1 :: st.2.2) ∧ ((wantP (bs [41]) (st.2.1 :: st.2.2)).bind fun _ r => PR.ok st.1 r) = R)
        (F := fun _ => [(0, .ptr 0 0), (1, .d (.val (.int .i64 l))), (4, .ptr 1 0), (6, .ptr 2 0)])
        (X := fun st => [rd toks f (st.2.1 :: st.2.2), tB0, tB st.1]) (fun _ => Nat.le_refl _) ?_ _ ?_
      · unfold pairP at hR
        repeat (first
          | refine AW.seq ?_
          | refine AW.reg ?_
          | refine Reg.opS tab_ok (hint := []) rfl rfl rfl rfl rfl trivial ?_
          | refine Reg.opN tab_ok (hint := []) rfl rfl rfl rfl trivial ?_
          | refine Reg.nil ?_
          | refine thenA_normal ?_
          | refine AW.condT rfl ?_
          | refine AW.condF rfl ?_
          | refine AW.skip ?_
          | refine AW.block ?_
          | refine AW.exit ?_
          | refine AW.ret ?_
          | refine thenA_exit ?_
          | refine thenA_ret ?_
          | refine blockA_normal ?_
          | refine blockA_hit ?_
          | refine blockA_miss rfl ?_
          | refine blockA_ret ?_
          | refine Reg.panic rfl rfl rfl rfl ?_
          | refine thenA_panic ?_
          | refine blockA_panic ?_)
        refine Reg.call tab_ok [0] (sees_any (bs [44]) hs2) callable48 rfl (.inl rfl) rfl rfl rfl (by decide) rfl rfl ?_
        rintro out bx1 ⟨rfl, rfl⟩
        refine after1 rfl rfl rfl rfl rfl ?_
        repeat (first
          | refine AW.seq ?_
          | refine AW.reg ?_
          | refine Reg.opS tab_ok (hint := []) rfl rfl rfl rfl rfl trivial ?_
          | refine Reg.opN tab_ok (hint := []) rfl rfl rfl rfl trivial ?_
          | refine Reg.nil ?_
          | refine thenA_normal ?_
          | refine AW.condT rfl ?_
          | refine AW.condF rfl ?_
          | refine AW.skip ?_
          | refine AW.block ?_
          | refine AW.exit ?_
          | refine AW.ret ?_
          | refine thenA_exit ?_
          | refine thenA_ret ?_
          | refine blockA_normal ?_
          | refine blockA_hit ?_
          | refine blockA_miss rfl ?_
          | refine blockA_ret ?_
          | refine Reg.panic rfl rfl rfl rfl ?_
          | refine thenA_panic ?_
          | refine blockA_panic ?_)
        cases h1 : seesB (bs [44]) (u2 :: r2) with
        | true =>
          simp only [h1, if_true, List.tail_cons] at hR
          refine AW.condT rfl ?_
          repeat (first
            | refine AW.seq ?_
            | refine AW.reg ?_
            | refine Reg.opS tab_ok (hint := []) rfl rfl rfl rfl rfl trivial ?_
            | refine Reg.opN tab_ok (hint := []) rfl rfl rfl rfl trivial ?_
            | refine Reg.nil ?_
            | refine thenA_normal ?_
            | refine AW.condT rfl ?_
            | refine AW.condF rfl ?_
            | refine AW.skip ?_
            | refine AW.block ?_
            | refine AW.exit ?_
            | refine AW.ret ?_
            | refine thenA_exit ?_
            | refine thenA_ret ?_
            | refine blockA_normal ?_
            | refine blockA_hit ?_
            | refine blockA_miss rfl ?_
            | refine blockA_ret ?_
            | refine Reg.panic rfl rfl rfl rfl ?_
            | refine thenA_panic ?_
            | refine blockA_panic ?_)
          rw [hs2.nextL (f := f)]
          obtain ⟨hs3, u3, r3, rfl⟩ := hs2.live (sees_kind h1)
          refine AW.draw [5, 7, 8] [0, 1, 2, 3, 4, 5, 6, 7, 8] mixed ⟨rfl, rfl, rfl, rfl, by decide⟩ ?_
          iterate 5 refine RegD.pureS tab_ok (hint := []) rfl rfl rfl rfl rfl rfl trivial ?_
          refine RegD.call tab_ok [0] [1, 0] (ht _ toks f u3 r3 (by rw [hw]; omega) (by rw [hw]; omega) hs3) callable25 rfl rfl rfl rfl rfl rfl rfl rfl (by decide) rfl rfl ?_
          intro out bx1 ho
          rcases hn3 : termP d (u3 :: r3) with ⟨y, r0⟩ | ⟨p, e⟩
          rotate_left
          · rw [hn3] at ho
            simp only [hn3, PR.err_bind] at hR
            obtain ⟨rfl, s0, rfl⟩ := ho
            refine after1Dp rfl rfl rfl ?_
            repeat (first
              | refine AW.seq ?_
              | refine AW.reg ?_
              | refine Reg.opS tab_ok (hint := []) rfl rfl rfl rfl rfl trivial ?_
              | refine Reg.opN tab_ok (hint := []) rfl rfl rfl rfl trivial ?_
              | refine Reg.nil ?_
              | refine thenA_normal ?_
              | refine AW.condT rfl ?_
              | refine AW.condF rfl ?_
              | refine AW.skip ?_
              | refine AW.block ?_
              | refine AW.exit ?_
              | refine AW.ret ?_
              | refine thenA_exit ?_
              | refine thenA_ret ?_
              | refine blockA_normal ?_
              | refine blockA_hit ?_
              | refine blockA_miss rfl ?_
              | refine blockA_ret ?_
              | refine Reg.panic rfl rfl rfl rfl ?_
              | refine thenA_panic ?_
              | refine blockA_panic ?_)
            subst hR
            exact ⟨rfl, rfl, _, rfl⟩
          rw [hn3] at ho
          simp only [hn3, PR.ok_bind] at hR
          obtain ⟨⟨rfl, rfl⟩, hs4, u4, r4, rfl⟩ := ho
          refine after1D rfl rfl rfl rfl rfl (by exact Stable.cons tab_ok (hint := []) rfl rfl rfl rfl trivial (Stable.cons tab_ok (hint := []) rfl rfl rfl rfl trivial (Stable.nil))) ?_
          iterate 1 refine RegD.pureS tab_ok (hint := []) rfl rfl rfl rfl rfl rfl trivial ?_
          refine RegD.call tab_ok [] [] (of_any 8 t.at_ [tC x, tC y] true) callable55 rfl rfl rfl rfl rfl rfl rfl rfl (by decide) rfl rfl ?_
          rintro out bx1 ⟨rfl, rfl⟩
          refine after0D rfl rfl Stable.nil ?_
          refine RegD.effS tab_ok (hint := []) [] rfl rfl rfl rfl rfl rfl rfl trivial Stable.nil ?_
          refine RegD.nil ?_
          repeat (first
            | refine AW.seq ?_
            | refine AW.reg ?_
            | refine Reg.opS tab_ok (hint := []) rfl rfl rfl rfl rfl trivial ?_
            | refine Reg.opN tab_ok (hint := []) rfl rfl rfl rfl trivial ?_
            | refine Reg.nil ?_
            | refine thenA_normal ?_
            | refine AW.condT rfl ?_
            | refine AW.condF rfl ?_
            | refine AW.skip ?_
            | refine AW.block ?_
            | refine AW.exit ?_
            | refine AW.ret ?_
            | refine thenA_exit ?_
            | refine thenA_ret ?_
            | refine blockA_normal ?_
            | refine blockA_hit ?_
            | refine blockA_miss rfl ?_
            | refine blockA_ret ?_
            | refine Reg.panic rfl rfl rfl rfl ?_
            | refine thenA_panic ?_
            | refine blockA_panic ?_)
          refine ⟨(.mk 8 (bs []) [x, y] [] t.at_, u4, r4), ⟨hs4, hR⟩, .inl ⟨⟨.refl _, .refl _, .refl _, .refl _, trivial⟩, ⟨SLes.refl _, SLes.refl _, tB_le ?_ rfl trivial⟩, rfl, rfl⟩⟩
          simp only [T.rows_cons, T.rows_nil]
        | false =>
          simp only [h1, Bool.false_eq_true, if_false] at hR
          refine AW.condF rfl ?_
          repeat (first
            | refine AW.seq ?_
            | refine AW.reg ?_
            | refine Reg.opS tab_ok (hint := []) rfl rfl rfl rfl rfl trivial ?_
            | refine Reg.opN tab_ok (hint := []) rfl rfl rfl rfl trivial ?_
            | refine Reg.nil ?_
            | refine thenA_normal ?_
            | refine AW.condT rfl ?_
            | refine AW.condF rfl ?_
            | refine AW.skip ?_
            | refine AW.block ?_
            | refine AW.exit ?_
            | refine AW.ret ?_
            | refine thenA_exit ?_
            | refine thenA_ret ?_
            | refine blockA_normal ?_
            | refine blockA_hit ?_
            | refine blockA_miss rfl ?_
            | refine blockA_ret ?_
            | refine Reg.panic rfl rfl rfl rfl ?_
            | refine thenA_panic ?_
            | refine blockA_panic ?_)
          refine Reg.call tab_ok [0] (sees_any (bs [58]) hs2) callable48 rfl (.inl rfl) rfl rfl rfl (by decide) rfl rfl ?_
          rintro out bx1 ⟨rfl, rfl⟩
          refine after1 rfl rfl rfl rfl rfl ?_
          repeat (first
            | refine AW.seq ?_
            | refine AW.reg ?_
            | refine Reg.opS tab_ok (hint := []) rfl rfl rfl rfl rfl trivial ?_
            | refine Reg.opN tab_ok (hint := []) rfl rfl rfl rfl trivial ?_
            | refine Reg.nil ?_
            | refine thenA_normal ?_
            | refine AW.condT rfl ?_
            | refine AW.condF rfl ?_
            | refine AW.skip ?_
            | refine AW.block ?_
            | refine AW.exit ?_
            | refine AW.ret ?_
            | refine thenA_exit ?_
            | refine thenA_ret ?_
            | refine blockA_normal ?_
            | refine blockA_hit ?_
            | refine blockA_miss rfl ?_
            | refine blockA_ret ?_
            | refine Reg.panic rfl rfl rfl rfl ?_
            | refine thenA_panic ?_
            | refine blockA_panic ?_)
          cases h2 : seesB (bs [58]) (u2 :: r2) with
          | true =>
            simp only [h2, if_true, List.tail_cons] at hR
            refine AW.condT rfl ?_
            repeat (first
              | refine AW.seq ?_
              | refine AW.reg ?_
              | refine Reg.opS tab_ok (hint := []) rfl rfl rfl rfl rfl trivial ?_
              | refine Reg.opN tab_ok (hint := []) rfl rfl rfl rfl trivial ?_
              | refine Reg.nil ?_
              | refine thenA_normal ?_
              | refine AW.condT rfl ?_
              | refine AW.condF rfl ?_
              | refine AW.skip ?_
              | refine AW.block ?_
              | refine AW.exit ?_
              | refine AW.ret ?_
              | refine thenA_exit ?_
              | refine thenA_ret ?_
              | refine blockA_normal ?_
              | refine blockA_hit ?_
              | refine blockA_miss rfl ?_
              | refine blockA_ret ?_
              | refine Reg.panic rfl rfl rfl rfl ?_
              | refine thenA_panic ?_
              | refine blockA_panic ?_)
            rw [hs2.nextL (f := f)]
            obtain ⟨hs3, u3, r3, rfl⟩ := hs2.live (sees_kind h2)
            refine AW.draw [5, 7, 8] [0, 1, 2, 3, 4, 5, 6, 7, 8] mixed ⟨rfl, rfl, rfl, rfl, by decide⟩ ?_
            iterate 5 refine RegD.pureS tab_ok (hint := []) rfl rfl rfl rfl rfl rfl trivial ?_
            refine RegD.call tab_ok [0] [1, 0] (ht _ toks f u3 r3 (by rw [hw]; omega) (by rw [hw]; omega) hs3) callable25 rfl rfl rfl rfl rfl rfl rfl rfl (by decide) rfl rfl ?_
            intro out bx1 ho
            rcases hn3 : termP d (u3 :: r3) with ⟨y, r0⟩ | ⟨p, e⟩
            rotate_left
            · rw [hn3] at ho
              simp only [hn3, PR.err_bind] at hR
              obtain ⟨rfl, s0, rfl⟩ := ho
              refine after1Dp rfl rfl rfl ?_
              repeat (first
                | refine AW.seq ?_
                | refine AW.reg ?_
                | refine Reg.opS tab_ok (hint := []) rfl rfl rfl rfl rfl trivial ?_
                | refine Reg.opN tab_ok (hint := []) rfl rfl rfl rfl trivial ?_
                | refine Reg.nil ?_
                | refine thenA_normal ?_
                | refine AW.condT rfl ?_
                | refine AW.condF rfl ?_
                | refine AW.skip ?_
                | refine AW.block ?_
                | refine AW.exit ?_
                | refine AW.ret ?_
                | refine thenA_exit ?_
                | refine thenA_ret ?_
                | refine blockA_normal ?_
                | refine blockA_hit ?_
                | refine blockA_miss rfl ?_
                | refine blockA_ret ?_
                | refine Reg.panic rfl rfl rfl rfl ?_
                | refine thenA_panic ?_
                | refine blockA_panic ?_)
              subst hR
              exact ⟨rfl, rfl, _, rfl⟩
            rw [hn3] at ho
            simp only [hn3, PR.ok_bind] at hR
            obtain ⟨⟨rfl, rfl⟩, hs4, u4, r4, rfl⟩ := ho
            refine after1D rfl rfl rfl rfl rfl (by exact Stable.cons tab_ok (hint := []) rfl rfl rfl rfl trivial (Stable.cons tab_ok (hint := []) rfl rfl rfl rfl trivial (Stable.nil))) ?_
            iterate 1 refine RegD.pureS tab_ok (hint := []) rfl rfl rfl rfl rfl rfl trivial ?_
            refine RegD.call tab_ok [] [] (of_any 9 t.at_ [tC x, tC y] true) callable55 rfl rfl rfl rfl rfl rfl rfl rfl (by decide) rfl rfl ?_
            rintro out bx1 ⟨rfl, rfl⟩
            refine after0D rfl rfl Stable.nil ?_
            refine RegD.effS tab_ok (hint := []) [] rfl rfl rfl rfl rfl rfl rfl trivial Stable.nil ?_
            refine RegD.nil ?_
            repeat (first
              | refine AW.seq ?_
              | refine AW.reg ?_
              | refine Reg.opS tab_ok (hint := []) rfl rfl rfl rfl rfl trivial ?_
              | refine Reg.opN tab_ok (hint := []) rfl rfl rfl rfl trivial ?_
              | refine Reg.nil ?_
              | refine thenA_normal ?_
              | refine AW.condT rfl ?_
              | refine AW.condF rfl ?_
              | refine AW.skip ?_
              | refine AW.block ?_
              | refine AW.exit ?_
              | refine AW.ret ?_
              | refine thenA_exit ?_
              | refine thenA_ret ?_
              | refine blockA_normal ?_
              | refine blockA_hit ?_
              | refine blockA_miss rfl ?_
              | refine blockA_ret ?_
              | refine Reg.panic rfl rfl rfl rfl ?_
              | refine thenA_panic ?_
              | refine blockA_panic ?_)
            refine ⟨(.mk 9 (bs []) [x, y] [] t.at_, u4, r4), ⟨hs4, hR⟩, .inl ⟨⟨.refl _, .refl _, .refl _, .refl _, trivial⟩, ⟨SLes.refl _, SLes.refl _, tB_le ?_ rfl trivial⟩, rfl, rfl⟩⟩
            simp only [T.rows_cons, T.rows_nil]
          | false =>
            simp only [h2, Bool.false_eq_true, if_false, PR.ok_bind] at hR
            refine AW.condF rfl ?_
            repeat (first
              | refine AW.seq ?_
              | refine AW.reg ?_
              | refine Reg.opS tab_ok (hint := []) rfl rfl rfl rfl rfl trivial ?_
              | refine Reg.opN tab_ok (hint := []) rfl rfl rfl rfl trivial ?_
              | refine Reg.nil ?_
              | refine thenA_normal ?_
              | refine AW.condT rfl ?_
              | refine AW.condF rfl ?_
              | refine AW.skip ?_
              | refine AW.block ?_
              | refine AW.exit ?_
              | refine AW.ret ?_
              | refine thenA_exit ?_
              | refine thenA_ret ?_
              | refine blockA_normal ?_
              | refine blockA_hit ?_
              | refine blockA_miss rfl ?_
              | refine blockA_ret ?_
              | refine Reg.panic rfl rfl rfl rfl ?_
              | refine thenA_panic ?_
              | refine blockA_panic ?_)
            exact ⟨(x, u2, r2), ⟨hs2, hR⟩, .inl ⟨⟨.refl _, .refl _, .refl _, .refl _, trivial⟩, BxLe.refl _, rfl, rfl⟩⟩
      · clear hR hs2 hn2
        rintro ⟨x, u2, r2⟩ ⟨hs2, hR⟩
        simp only at hs2 hR
        repeat (first
          | refine AW.seq ?_
          | refine AW.reg ?_
          | refine Reg.opS tab_ok (hint := []) rfl rfl rfl rfl rfl trivial ?_
          | refine Reg.opN tab_ok (hint := []) rfl rfl rfl rfl trivial ?_
          | refine Reg.nil ?_
          | refine thenA_normal ?_
          | refine AW.condT rfl ?_
          | refine AW.condF rfl ?_
          | refine AW.skip ?_
          | refine AW.block ?_
          | refine AW.exit ?_
          | refine AW.ret ?_
          | refine thenA_exit ?_
          | refine thenA_ret ?_
          | refine blockA_normal ?_
          | refine blockA_hit ?_
          | refine blockA_miss rfl ?_
          | refine blockA_ret ?_
          | refine Reg.panic rfl rfl rfl rfl ?_
          | refine thenA_panic ?_
          | refine blockA_panic ?_)
        refine Reg.call tab_ok [0] (want_any (bs [41]) hs2) callable50 rfl (.inl rfl) rfl rfl rfl (by decide) rfl rfl ?_
        intro out bx1 ho
        rcases hn4 : wantP (bs [41]) (u2 :: r2) with ⟨x0, r0⟩ | ⟨p, e⟩
        rotate_left
        · rw [hn4] at ho
          simp only [hn4, PR.err_bind] at hR
          obtain ⟨rfl, s0, rfl⟩ := ho
          refine after1p rfl rfl rfl ?_
          repeat (first
            | refine AW.seq ?_
            | refine AW.reg ?_
            | refine Reg.opS tab_ok (hint := []) rfl rfl rfl rfl rfl trivial ?_
            | refine Reg.opN tab_ok (hint := []) rfl rfl rfl rfl trivial ?_
            | refine Reg.nil ?_
            | refine thenA_normal ?_
            | refine AW.condT rfl ?_
            | refine AW.condF rfl ?_
            | refine AW.skip ?_
            | refine AW.block ?_
            | refine AW.exit ?_
            | refine AW.ret ?_
            | refine thenA_exit ?_
            | refine thenA_ret ?_
            | refine blockA_normal ?_
            | refine blockA_hit ?_
            | refine blockA_miss rfl ?_
            | refine blockA_ret ?_
            | refine Reg.panic rfl rfl rfl rfl ?_
            | refine thenA_panic ?_
            | refine blockA_panic ?_)
          subst hR
          exact ⟨rfl, rfl, _, rfl⟩
        rw [hn4] at ho
        simp only [hn4, PR.ok_bind] at hR
        obtain ⟨⟨rfl, rfl⟩, hs3, u3, r3, rfl⟩ := ho
        refine after1 rfl rfl rfl rfl rfl ?_
        repeat (first
          | refine AW.seq ?_
          | refine AW.reg ?_
          | refine Reg.opS tab_ok (hint := []) rfl rfl rfl rfl rfl trivial ?_
          | refine Reg.opN tab_ok (hint := []) rfl rfl rfl rfl trivial ?_
          | refine Reg.nil ?_
          | refine thenA_normal ?_
          | refine AW.condT rfl ?_
          | refine AW.condF rfl ?_
          | refine AW.skip ?_
          | refine AW.block ?_
          | refine AW.exit ?_
          | refine AW.ret ?_
          | refine thenA_exit ?_
          | refine thenA_ret ?_
          | refine blockA_normal ?_
          | refine blockA_hit ?_
          | refine blockA_miss rfl ?_
          | refine blockA_ret ?_
          | refine Reg.panic rfl rfl rfl rfl ?_
          | refine thenA_panic ?_
          | refine blockA_panic ?_)
        subst hR
        exact ⟨_, rfl, rfl, rfl, ⟨⟨_, rfl, .refl _⟩, rfl⟩, hs3, u3, r3, rfl⟩

end Go.Proofs.YtamkldohfhidiaaDoor
