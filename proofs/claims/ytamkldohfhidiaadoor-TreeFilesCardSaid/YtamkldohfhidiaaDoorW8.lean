import Derived.Test.YtamkldohfhidiaaDoorW7
namespace Go.Proofs.YtamkldohfhidiaaDoor
open Go Go.Abs

variable {G : Glob} {toks s : List Tok} {f : Bool} {t : Tok}

theorem term_zero : TermOk G 0 := by
  intro l toks f t s hl hl1 h
  refine ACalls.body tab_ok Tryd.func25 rfl rfl ?_
  repeat (first
    | refine AW.seq ?_
    | refine AW.reg ?_
    | refine Reg.opS tab_ok (hint := []) rfl rfl rfl rfl rfl trivial ?_
    | refine Reg.opN tab_ok (hint := []) rfl rfl rfl rfl trivial ?_
    | refine Reg.nil ?_
    | refine thenA_normal ?_
    | refine AW.condT rfl ?_
    | refine AW.condF rfl ?_
    | refine AW.skip ?_
    | refine AW.block ?_
    | refine AW.exit ?_
    | refine AW.ret ?_
    | refine thenA_exit ?_
    | refine thenA_ret ?_
    | refine blockA_normal ?_
    | refine blockA_hit ?_
    | refine blockA_miss rfl ?_
    | refine blockA_ret ?_
    | refine Reg.panic rfl rfl rfl rfl ?_
    | refine thenA_panic ?_
    | refine blockA_panic ?_)
  refine Reg.call tab_ok [0] (deep_no l (by omega) h) callable47 rfl (.inl rfl) rfl rfl rfl (by decide) rfl rfl ?_
  rintro out bx1 ⟨rfl, rfl⟩
  refine after1p rfl rfl rfl ?_
  repeat (first
    | refine AW.seq ?_
    | refine AW.reg ?_
    | refine Reg.opS tab_ok (hint := []) rfl rfl rfl rfl rfl trivial ?_
    | refine Reg.opN tab_ok (hint := []) rfl rfl rfl rfl trivial ?_
    | refine Reg.nil ?_
    | refine thenA_normal ?_
    | refine AW.condT rfl ?_
    | refine AW.condF rfl ?_
    | refine AW.skip ?_
    | refine AW.block ?_
    | refine AW.exit ?_
    | refine AW.ret ?_
    | refine thenA_exit ?_
    | refine thenA_ret ?_
    | refine blockA_normal ?_
    | refine blockA_hit ?_
    | refine blockA_miss rfl ?_
    | refine blockA_ret ?_
    | refine Reg.panic rfl rfl rfl rfl ?_
    | refine thenA_panic ?_
    | refine blockA_panic ?_)
  exact ⟨rfl, rfl, _, rfl⟩

theorem binds_shape (h : bindsP (t :: s) = true) : ∃ x c r, s = x :: c :: r ∧ x.kind = 1 ∧ t.kind ≠ 0 ∧ (c.text.toList == (bs [58]).toList) = true := by
  unfold bindsP at h
  split at h
  · rename_i a b c r heq
    cases heq
    simp only [Bool.and_eq_true] at h
    exact ⟨b, c, r, rfl, by simpa using h.2.1, sees_kind h.1, h.2.2⟩
  · cases h

theorem ACalls.args {P : Program} {g : FuncId} {args args' : List SV} {bx : List Box} {Q : Out → List Box → Prop} (h : SLes args args') (hc : ACalls P G g args' bx Q) : ACalls P G g args bx Q :=
  fun w ok g vs h1 h2 => hc w ok g vs h1 (h.rep h2)

theorem annLe {n : ByteArray} {p q : Int} {a : T} {f1 f2 : Bool} : SLe (.d (.agg [.val (.int .i64 9), .val (.string ⟨#[]⟩), .sl 5 [[.val (.int .i64 1), .val (.string n), .sl 5 [] true, .sl 1 [] true, .val (.int .i64 p)], tC a] f1, .sl 1 [] f2, .val (.int .i64 q)]))
    (treeV (.mk 9 (bs []) [.mk 1 n [] [] p, a] [] q)) := by
  have h0 : AVle (.sl 5 [] true) (.sl 5 (T.rows []) false) := by
    rw [T.rows_nil]
    exact .sl .nil
  have h : AVless [[.val (.int .i64 1), .val (.string n), .sl 5 [] true, .sl 1 [] true, .val (.int .i64 p)], tC a] (T.rows [.mk 1 n [] [] p, a]) := by
    rw [T.rows_cons, T.rows_cons, T.rows_nil]
    exact .cons (.cons (.refl _) (.cons (.refl _) (.cons h0 (.cons (.sl .nil) (.cons (.refl _) .nil))))) (.cons (AVles.refl _) .nil)
  exact .d (.agg (.cons (.refl _) (.cons (.refl _) (.cons (.sl h) (.cons (.sl (AVless.refl _)) (.cons (.refl _) .nil))))))

theorem after_ann {d : Nat} (ht : TermOk G d) {l : Int} (hl : l + (d + 1 : Nat) = 201) (hl1 : 1 ≤ l) (n : ByteArray) (p q : Int) (a : T) (h : Suf toks (t :: s)) :
    ACalls Tryd.prog G 54 [.ptr 0 0, .d (.val (.int .i64 l)), .d (.agg [.val (.int .i64 9), .val (.string ⟨#[]⟩), .sl 5 [[.val (.int .i64 1), .val (.string n), .sl 5 [] true, .sl 1 [] true, .val (.int .i64 p)], tC a] true, .sl 1 [] true, .val (.int .i64 q)])] [rd toks f (t :: s)]
      (PRout toks f treeV (afterL (dimP d) (termP d) rounds (T.mk 9 (bs []) [T.mk 1 n [] [] p, a] [] q) (t :: s))) :=
  ACalls.args (args' := [.ptr 0 0, .d (.val (.int .i64 l)), treeV (T.mk 9 (bs []) [T.mk 1 n [] [] p, a] [] q)])
    (show SLes [_, _, _] [_, _, _] from ⟨.refl _, .refl _, annLe, trivial⟩) (after_any ht hl hl1 _ h)



set_option maxHeartbeats 2000000 in
theorem term_succ {d : Nat} (ht : TermOk G d) : TermOk G (d + 1) := by
  intro l toks f t s hl hl1 h
  refine PRle.weak ?_
  generalize hR : termP (d + 1) (t :: s) = R
  unfold termP termBody at hR
  have hw : IntKind.i64.wrap (l + 1) = l + 1 := wrap_in (by omega) (by omega)
  refine ACalls.body tab_ok Tryd.func25 rfl rfl ?_
  repeat (first
    | refine AW.seq ?_
    | refine AW.reg ?_
    | refine Reg.opS tab_ok (hint := []) rfl rfl rfl rfl rfl trivial ?_
    | refine Reg.opN tab_ok (hint := []) rfl rfl rfl rfl trivial ?_
    | refine Reg.nil ?_
    | refine thenA_normal ?_
    | refine AW.condT rfl ?_
    | refine AW.condF rfl ?_
    | refine AW.skip ?_
    | refine AW.block ?_
    | refine AW.exit ?_
    | refine AW.ret ?_
    | refine thenA_exit ?_
    | refine thenA_ret ?_
    | refine blockA_normal ?_
    | refine blockA_hit ?_
    | refine blockA_miss rfl ?_
    | refine blockA_ret ?_
    | refine Reg.panic rfl rfl rfl rfl ?_
    | refine thenA_panic ?_
    | refine blockA_panic ?_)
  refine Reg.call tab_ok [0] (deep_ok l (by omega)) callable47 rfl (.inl rfl) rfl rfl rfl (by decide) rfl rfl ?_
  rintro out bx1 ⟨rfl, rfl⟩
  refine after1 rfl rfl rfl rfl rfl ?_
  repeat (first
    | refine AW.seq ?_
    | refine AW.reg ?_
    | refine Reg.opS tab_ok (hint := []) rfl rfl rfl rfl rfl trivial ?_
    | refine Reg.opN tab_ok (hint := []) rfl rfl rfl rfl trivial ?_
    | refine Reg.nil ?_
    | refine thenA_normal ?_
    | refine AW.condT rfl ?_
    | refine AW.condF rfl ?_
    | refine AW.skip ?_
    | refine AW.block ?_
    | refine AW.exit ?_
    | refine AW.ret ?_
    | refine thenA_exit ?_
    | refine thenA_ret ?_
    | refine blockA_normal ?_
    | refine blockA_hit ?_
    | refine blockA_miss rfl ?_
    | refine blockA_ret ?_
    | refine Reg.panic rfl rfl rfl rfl ?_
    | refine thenA_panic ?_
    | refine blockA_panic ?_)
  refine Reg.call tab_ok [0] (now_any h) callable27 rfl (.inl rfl) rfl rfl rfl (by decide) rfl rfl ?_
  rintro out bx1 ⟨rfl, rfl⟩
  refine after1 rfl rfl rfl rfl rfl ?_
  repeat (first
    | refine AW.seq ?_
    | refine AW.reg ?_
    | refine Reg.opS tab_ok (hint := []) rfl rfl rfl rfl rfl trivial ?_
    | refine Reg.opN tab_ok (hint := []) rfl rfl rfl rfl trivial ?_
    | refine Reg.nil ?_
    | refine thenA_normal ?_
    | refine AW.condT rfl ?_
    | refine AW.condF rfl ?_
    | refine AW.skip ?_
    | refine AW.block ?_
    | refine AW.exit ?_
    | refine AW.ret ?_
    | refine thenA_exit ?_
    | refine thenA_ret ?_
    | refine blockA_normal ?_
    | refine blockA_hit ?_
    | refine blockA_miss rfl ?_
    | refine blockA_ret ?_
    | refine Reg.panic rfl rfl rfl rfl ?_
    | refine thenA_panic ?_
    | refine blockA_panic ?_)
  refine Reg.call tab_ok [0] (sees_any (bs [92]) h) callable48 rfl (.inl rfl) rfl rfl rfl (by decide) rfl rfl ?_
  rintro out bx1 ⟨rfl, rfl⟩
  refine after1 rfl rfl rfl rfl rfl ?_
  repeat (first
    | refine AW.seq ?_
    | refine AW.reg ?_
    | refine Reg.opS tab_ok (hint := []) rfl rfl rfl rfl rfl trivial ?_
    | refine Reg.opN tab_ok (hint := []) rfl rfl rfl rfl trivial ?_
    | refine Reg.nil ?_
    | refine thenA_normal ?_
    | refine AW.condT rfl ?_
    | refine AW.condF rfl ?_
    | refine AW.skip ?_
    | refine AW.block ?_
    | refine AW.exit ?_
    | refine AW.ret ?_
    | refine thenA_exit ?_
    | refine thenA_ret ?_
    | refine blockA_normal ?_
    | refine blockA_hit ?_
    | refine blockA_miss rfl ?_
    | refine blockA_ret ?_
    | refine Reg.panic rfl rfl rfl rfl ?_
    | refine thenA_panic ?_
    | refine blockA_panic ?_)
  cases h0 : seesB (bs [92]) (t :: s) with
  | true =>
    simp only [h0, if_true, lamP, List.tail_cons] at hR
    refine AW.condT rfl ?_
    repeat (first
      | refine AW.seq ?_
      | refine AW.reg ?_
      | refine Reg.opS tab_ok (hint := []) rfl rfl rfl rfl rfl trivial ?_
      | refine Reg.opN tab_ok (hint := []) rfl rfl rfl rfl trivial ?_
      | refine Reg.nil ?_
      | refine thenA_normal ?_
      | refine AW.condT rfl ?_
      | refine AW.condF rfl ?_
      | refine AW.skip ?_
      | refine AW.block ?_
      | refine AW.exit ?_
      | refine AW.ret ?_
      | refine thenA_exit ?_
      | refine thenA_ret ?_
      | refine blockA_normal ?_
      | refine blockA_hit ?_
      | refine blockA_miss rfl ?_
      | refine blockA_ret ?_
      | refine Reg.panic rfl rfl rfl rfl ?_
      | refine thenA_panic ?_
      | refine blockA_panic ?_)
    rw [h.nextL (f := f)]
    obtain ⟨hs, u, r, rfl⟩ := h.live (sees_kind h0)
    refine Reg.call tab_ok [0] (names_any hs) callable49 rfl (.inl rfl) rfl rfl rfl (by decide) rfl rfl ?_
    intro out bx1 ho
    rcases hn : namesP (u :: r) with ⟨ns, r0⟩ | ⟨p, e⟩
    rotate_left
    · rw [hn] at ho
      simp only [hn, PR.err_bind] at hR
      obtain ⟨rfl, s0, rfl⟩ := ho
      refine after1p rfl rfl rfl ?_
      repeat (first
        | refine AW.seq ?_
        | refine AW.reg ?_
        | refine Reg.opS tab_ok (hint := []) rfl rfl rfl rfl rfl trivial ?_
        | refine Reg.opN tab_ok (hint := []) rfl rfl rfl rfl trivial ?_
        | refine Reg.nil ?_
        | refine thenA_normal ?_
        | refine AW.condT rfl ?_
        | refine AW.condF rfl ?_
        | refine AW.skip ?_
        | refine AW.block ?_
        | refine AW.exit ?_
        | refine AW.ret ?_
        | refine thenA_exit ?_
        | refine thenA_ret ?_
        | refine blockA_normal ?_
        | refine blockA_hit ?_
        | refine blockA_miss rfl ?_
        | refine blockA_ret ?_
        | refine Reg.panic rfl rfl rfl rfl ?_
        | refine thenA_panic ?_
        | refine blockA_panic ?_)
      subst hR
      exact ⟨rfl, rfl, _, rfl⟩
    rw [hn] at ho
    simp only [hn, PR.ok_bind] at hR
    obtain ⟨⟨rfl, rfl⟩, hs2, u2, r2, rfl⟩ := ho
    refine after1 rfl rfl rfl rfl rfl ?_
    repeat (first
      | refine AW.seq ?_
      | refine AW.reg ?_
      | refine Reg.opS tab_ok (hint := []) rfl rfl rfl rfl rfl trivial ?_
      | refine Reg.opN tab_ok (hint := []) rfl rfl rfl rfl trivial ?_
      | refine Reg.nil ?_
      | refine thenA_normal ?_
      | refine AW.condT rfl ?_
      | refine AW.condF rfl ?_
      | refine AW.skip ?_
      | refine AW.block ?_
      | refine AW.exit ?_
      | refine AW.ret ?_
      | refine thenA_exit ?_
      | refine thenA_ret ?_
      | refine blockA_normal ?_
      | refine blockA_hit ?_
      | refine blockA_miss rfl ?_
      | refine blockA_ret ?_
      | refine Reg.panic rfl rfl rfl rfl ?_
      | refine thenA_panic ?_
      | refine blockA_panic ?_)
    refine Reg.call tab_ok [0] (want_any (bs [46]) hs2) callable50 rfl (.inl rfl) rfl rfl rfl (by decide) rfl rfl ?_
    intro out bx1 ho
    rcases hn2 : wantP (bs [46]) (u2 :: r2) with ⟨x0, r0⟩ | ⟨p, e⟩
    rotate_left
    · rw [hn2] at ho
      simp only [hn2, PR.err_bind] at hR
      obtain ⟨rfl, s0, rfl⟩ := ho
      refine after1p rfl rfl rfl ?_
      repeat (first
        | refine AW.seq ?_
        | refine AW.reg ?_
        | refine Reg.opS tab_ok (hint := []) rfl rfl rfl rfl rfl trivial ?_
        | refine Reg.opN tab_ok (hint := []) rfl rfl rfl rfl trivial ?_
        | refine Reg.nil ?_
        | refine thenA_normal ?_
        | refine AW.condT rfl ?_
        | refine AW.condF rfl ?_
        | refine AW.skip ?_
        | refine AW.block ?_
        | refine AW.exit ?_
        | refine AW.ret ?_
        | refine thenA_exit ?_
        | refine thenA_ret ?_
        | refine blockA_normal ?_
        | refine blockA_hit ?_
        | refine blockA_miss rfl ?_
        | refine blockA_ret ?_
        | refine Reg.panic rfl rfl rfl rfl ?_
        | refine thenA_panic ?_
        | refine blockA_panic ?_)
      subst hR
      exact ⟨rfl, rfl, _, rfl⟩
    rw [hn2] at ho
    simp only [hn2, PR.ok_bind] at hR
    obtain ⟨⟨rfl, rfl⟩, hs3, u3, r3, rfl⟩ := ho
    refine after1 rfl rfl rfl rfl rfl ?_
    repeat (first
      | refine AW.seq ?_
      | refine AW.reg ?_
      | refine Reg.opS tab_ok (hint := []) rfl rfl rfl rfl rfl trivial ?_
      | refine Reg.opN tab_ok (hint := []) rfl rfl rfl rfl trivial ?_
      | refine Reg.nil ?_
      | refine thenA_normal ?_
      | refine AW.condT rfl ?_
      | refine AW.condF rfl ?_
      | refine AW.skip ?_
      | refine AW.block ?_
      | refine AW.exit ?_
      | refine AW.ret ?_
      | refine thenA_exit ?_
      | refine thenA_ret ?_
      | refine blockA_normal ?_
      | refine blockA_hit ?_
      | refine blockA_miss rfl ?_
      | refine blockA_ret ?_
      | refine Reg.panic rfl rfl rfl rfl ?_
      | refine thenA_panic ?_
      | refine blockA_panic ?_)
    refine Reg.call tab_ok [0] (ht _ toks f u3 r3 (by rw [hw]; omega) (by rw [hw]; omega) hs3) callable25 rfl (.inl rfl) rfl rfl rfl (by decide) rfl rfl ?_
    intro out bx1 ho
    rcases hn3 : termP d (u3 :: r3) with ⟨x, r0⟩ | ⟨p, e⟩
    rotate_left
    · rw [hn3] at ho
      simp only [hn3, PR.err_bind] at hR
      obtain ⟨rfl, s0, rfl⟩ := ho
      refine after1p rfl rfl rfl ?_
      repeat (first
        | refine AW.seq ?_
        | refine AW.reg ?_
        | refine Reg.opS tab_ok (hint := []) rfl rfl rfl rfl rfl trivial ?_
        | refine Reg.opN tab_ok (hint := []) rfl rfl rfl rfl trivial ?_
        | refine Reg.nil ?_
        | refine thenA_normal ?_
        | refine AW.condT rfl ?_
        | refine AW.condF rfl ?_
        | refine AW.skip ?_
        | refine AW.block ?_
        | refine AW.exit ?_
        | refine AW.ret ?_
        | refine thenA_exit ?_
        | refine thenA_ret ?_
        | refine blockA_normal ?_
        | refine blockA_hit ?_
        | refine blockA_miss rfl ?_
        | refine blockA_ret ?_
        | refine Reg.panic rfl rfl rfl rfl ?_
        | refine thenA_panic ?_
        | refine blockA_panic ?_)
      subst hR
      exact ⟨rfl, rfl, _, rfl⟩
    rw [hn3] at ho
    simp only [hn3, PR.ok_bind] at hR
    obtain ⟨⟨rfl, rfl⟩, hs4, u4, r4, rfl⟩ := ho
    refine after1 rfl rfl rfl rfl rfl ?_
    repeat (first
      | refine AW.seq ?_
      | refine AW.reg ?_
      | refine Reg.opS tab_ok (hint := []) rfl rfl rfl rfl rfl trivial ?_
      | refine Reg.opN tab_ok (hint := []) rfl rfl rfl rfl trivial ?_
      | refine Reg.nil ?_
      | refine thenA_normal ?_
      | refine AW.condT rfl ?_
      | refine AW.condF rfl ?_
      | refine AW.skip ?_
      | refine AW.block ?_
      | refine AW.exit ?_
      | refine AW.ret ?_
      | refine thenA_exit ?_
      | refine thenA_ret ?_
      | refine blockA_normal ?_
      | refine blockA_hit ?_
      | refine blockA_miss rfl ?_
      | refine blockA_ret ?_
      | refine Reg.panic rfl rfl rfl rfl ?_
      | refine thenA_panic ?_
      | refine blockA_panic ?_)
    subst hR
    exact ⟨_, rfl, rfl, rfl, ⟨⟨_, rfl, tC_le (by simp only [T.rows_cons, T.rows_nil]; rfl) rfl⟩, rfl⟩, hs4, u4, r4, rfl⟩
  | false =>
    simp only [h0, Bool.false_eq_true, if_false] at hR
    refine AW.condF rfl ?_
    repeat (first
      | refine AW.seq ?_
      | refine AW.reg ?_
      | refine Reg.opS tab_ok (hint := []) rfl rfl rfl rfl rfl trivial ?_
      | refine Reg.opN tab_ok (hint := []) rfl rfl rfl rfl trivial ?_
      | refine Reg.nil ?_
      | refine thenA_normal ?_
      | refine AW.condT rfl ?_
      | refine AW.condF rfl ?_
      | refine AW.skip ?_
      | refine AW.block ?_
      | refine AW.exit ?_
      | refine AW.ret ?_
      | refine thenA_exit ?_
      | refine thenA_ret ?_
      | refine blockA_normal ?_
      | refine blockA_hit ?_
      | refine blockA_miss rfl ?_
      | refine blockA_ret ?_
      | refine Reg.panic rfl rfl rfl rfl ?_
      | refine thenA_panic ?_
      | refine blockA_panic ?_)
    refine Reg.call tab_ok [0] (sees_any (bs [60]) h) callable48 rfl (.inl rfl) rfl rfl rfl (by decide) rfl rfl ?_
    rintro out bx1 ⟨rfl, rfl⟩
    refine after1 rfl rfl rfl rfl rfl ?_
    repeat (first
      | refine AW.seq ?_
      | refine AW.reg ?_
      | refine Reg.opS tab_ok (hint := []) rfl rfl rfl rfl rfl trivial ?_
      | refine Reg.opN tab_ok (hint := []) rfl rfl rfl rfl trivial ?_
      | refine Reg.nil ?_
      | refine thenA_normal ?_
      | refine AW.condT rfl ?_
      | refine AW.condF rfl ?_
      | refine AW.skip ?_
      | refine AW.block ?_
      | refine AW.exit ?_
      | refine AW.ret ?_
      | refine thenA_exit ?_
      | refine thenA_ret ?_
      | refine blockA_normal ?_
      | refine blockA_hit ?_
      | refine blockA_miss rfl ?_
      | refine blockA_ret ?_
      | refine Reg.panic rfl rfl rfl rfl ?_
      | refine thenA_panic ?_
      | refine blockA_panic ?_)
    cases h1 : seesB (bs [60]) (t :: s) with
    | true =>
      simp only [h1, if_true, lamP, List.tail_cons] at hR
      refine AW.condT rfl ?_
      repeat (first
        | refine AW.seq ?_
        | refine AW.reg ?_
        | refine Reg.opS tab_ok (hint := []) rfl rfl rfl rfl rfl trivial ?_
        | refine Reg.opN tab_ok (hint := []) rfl rfl rfl rfl trivial ?_
        | refine Reg.nil ?_
        | refine thenA_normal ?_
        | refine AW.condT rfl ?_
        | refine AW.condF rfl ?_
        | refine AW.skip ?_
        | refine AW.block ?_
        | refine AW.exit ?_
        | refine AW.ret ?_
        | refine thenA_exit ?_
        | refine thenA_ret ?_
        | refine blockA_normal ?_
        | refine blockA_hit ?_
        | refine blockA_miss rfl ?_
        | refine blockA_ret ?_
        | refine Reg.panic rfl rfl rfl rfl ?_
        | refine thenA_panic ?_
        | refine blockA_panic ?_)
      rw [h.nextL (f := f)]
      obtain ⟨hs, u, r, rfl⟩ := h.live (sees_kind h1)
      refine Reg.call tab_ok [0] (names_any hs) callable49 rfl (.inl rfl) rfl rfl rfl (by decide) rfl rfl ?_
      intro out bx1 ho
      rcases hn : namesP (u :: r) with ⟨ns, r0⟩ | ⟨p, e⟩
      rotate_left
      · rw [hn] at ho
        simp only [hn, PR.err_bind] at hR
        obtain ⟨rfl, s0, rfl⟩ := ho
        refine after1p rfl rfl rfl ?_
        repeat (first
          | refine AW.seq ?_
          | refine AW.reg ?_
          | refine Reg.opS tab_ok (hint := []) rfl rfl rfl rfl rfl trivial ?_
          | refine Reg.opN tab_ok (hint := []) rfl rfl rfl rfl trivial ?_
          | refine Reg.nil ?_
          | refine thenA_normal ?_
          | refine AW.condT rfl ?_
          | refine AW.condF rfl ?_
          | refine AW.skip ?_
          | refine AW.block ?_
          | refine AW.exit ?_
          | refine AW.ret ?_
          | refine thenA_exit ?_
          | refine thenA_ret ?_
          | refine blockA_normal ?_
          | refine blockA_hit ?_
          | refine blockA_miss rfl ?_
          | refine blockA_ret ?_
          | refine Reg.panic rfl rfl rfl rfl ?_
          | refine thenA_panic ?_
          | refine blockA_panic ?_)
        subst hR
        exact ⟨rfl, rfl, _, rfl⟩
      rw [hn] at ho
      simp only [hn, PR.ok_bind] at hR
      obtain ⟨⟨rfl, rfl⟩, hs2, u2, r2, rfl⟩ := ho
      refine after1 rfl rfl rfl rfl rfl ?_
      repeat (first
        | refine AW.seq ?_
        | refine AW.reg ?_
        | refine Reg.opS tab_ok (hint := []) rfl rfl rfl rfl rfl trivial ?_
        | refine Reg.opN tab_ok (hint := []) rfl rfl rfl rfl trivial ?_
        | refine Reg.nil ?_
        | refine thenA_normal ?_
        | refine AW.condT rfl ?_
        | refine AW.condF rfl ?_
        | refine AW.skip ?_
        | refine AW.block ?_
        | refine AW.exit ?_
        | refine AW.ret ?_
        | refine thenA_exit ?_
        | refine thenA_ret ?_
        | refine blockA_normal ?_
        | refine blockA_hit ?_
        | refine blockA_miss rfl ?_
        | refine blockA_ret ?_
        | refine Reg.panic rfl rfl rfl rfl ?_
        | refine thenA_panic ?_
        | refine blockA_panic ?_)
      refine Reg.call tab_ok [0] (want_any (bs [62]) hs2) callable50 rfl (.inl rfl) rfl rfl rfl (by decide) rfl rfl ?_
      intro out bx1 ho
      rcases hn2 : wantP (bs [62]) (u2 :: r2) with ⟨x0, r0⟩ | ⟨p, e⟩
      rotate_left
      · rw [hn2] at ho
        simp only [hn2, PR.err_bind] at hR
        obtain ⟨rfl, s0, rfl⟩ := ho
        refine after1p rfl rfl rfl ?_
        repeat (first
          | refine AW.seq ?_
          | refine AW.reg ?_
          | refine Reg.opS tab_ok (hint := []) rfl rfl rfl rfl rfl trivial ?_
          | refine Reg.opN tab_ok (hint := []) rfl rfl rfl rfl trivial ?_
          | refine Reg.nil ?_
          | refine thenA_normal ?_
          | refine AW.condT rfl ?_
          | refine AW.condF rfl ?_
          | refine AW.skip ?_
          | refine AW.block ?_
          | refine AW.exit ?_
          | refine AW.ret ?_
          | refine thenA_exit ?_
          | refine thenA_ret ?_
          | refine blockA_normal ?_
          | refine blockA_hit ?_
          | refine blockA_miss rfl ?_
          | refine blockA_ret ?_
          | refine Reg.panic rfl rfl rfl rfl ?_
          | refine thenA_panic ?_
          | refine blockA_panic ?_)
        subst hR
        exact ⟨rfl, rfl, _, rfl⟩
      rw [hn2] at ho
      simp only [hn2, PR.ok_bind] at hR
      obtain ⟨⟨rfl, rfl⟩, hs3, u3, r3, rfl⟩ := ho
      refine after1 rfl rfl rfl rfl rfl ?_
      repeat (first
        | refine AW.seq ?_
        | refine AW.reg ?_
        | refine Reg.opS tab_ok (hint := []) rfl rfl rfl rfl rfl trivial ?_
        | refine Reg.opN tab_ok (hint := []) rfl rfl rfl rfl trivial ?_
        | refine Reg.nil ?_
        | refine thenA_normal ?_
        | refine AW.condT rfl ?_
        | refine AW.condF rfl ?_
        | refine AW.skip ?_
        | refine AW.block ?_
        | refine AW.exit ?_
        | refine AW.ret ?_
        | refine thenA_exit ?_
        | refine thenA_ret ?_
        | refine blockA_normal ?_
        | refine blockA_hit ?_
        | refine blockA_miss rfl ?_
        | refine blockA_ret ?_
        | refine Reg.panic rfl rfl rfl rfl ?_
        | refine thenA_panic ?_
        | refine blockA_panic ?_)
      refine Reg.call tab_ok [0] (ht _ toks f u3 r3 (by rw [hw]; omega) (by rw [hw]; omega) hs3) callable25 rfl (.inl rfl) rfl rfl rfl (by decide) rfl rfl ?_
      intro out bx1 ho
      rcases hn3 : termP d (u3 :: r3) with ⟨x, r0⟩ | ⟨p, e⟩
      rotate_left
      · rw [hn3] at ho
        simp only [hn3, PR.err_bind] at hR
        obtain ⟨rfl, s0, rfl⟩ := ho
        refine after1p rfl rfl rfl ?_
        repeat (first
          | refine AW.seq ?_
          | refine AW.reg ?_
          | refine Reg.opS tab_ok (hint := []) rfl rfl rfl rfl rfl trivial ?_
          | refine Reg.opN tab_ok (hint := []) rfl rfl rfl rfl trivial ?_
          | refine Reg.nil ?_
          | refine thenA_normal ?_
          | refine AW.condT rfl ?_
          | refine AW.condF rfl ?_
          | refine AW.skip ?_
          | refine AW.block ?_
          | refine AW.exit ?_
          | refine AW.ret ?_
          | refine thenA_exit ?_
          | refine thenA_ret ?_
          | refine blockA_normal ?_
          | refine blockA_hit ?_
          | refine blockA_miss rfl ?_
          | refine blockA_ret ?_
          | refine Reg.panic rfl rfl rfl rfl ?_
          | refine thenA_panic ?_
          | refine blockA_panic ?_)
        subst hR
        exact ⟨rfl, rfl, _, rfl⟩
      rw [hn3] at ho
      simp only [hn3, PR.ok_bind] at hR
      obtain ⟨⟨rfl, rfl⟩, hs4, u4, r4, rfl⟩ := ho
      refine after1 rfl rfl rfl rfl rfl ?_
      repeat (first
        | refine AW.seq ?_
        | refine AW.reg ?_
        | refine Reg.opS tab_ok (hint := []) rfl rfl rfl rfl rfl trivial ?_
        | refine Reg.opN tab_ok (hint := []) rfl rfl rfl rfl trivial ?_
        | refine Reg.nil ?_
        | refine thenA_normal ?_
        | refine AW.condT rfl ?_
        | refine AW.condF rfl ?_
        | refine AW.skip ?_
        | refine AW.block ?_
        | refine AW.exit ?_
        | refine AW.ret ?_
        | refine thenA_exit ?_
        | refine thenA_ret ?_
        | refine blockA_normal ?_
        | refine blockA_hit ?_
        | refine blockA_miss rfl ?_
        | refine blockA_ret ?_
        | refine Reg.panic rfl rfl rfl rfl ?_
        | refine thenA_panic ?_
        | refine blockA_panic ?_)
      subst hR
      exact ⟨_, rfl, rfl, rfl, ⟨⟨_, rfl, tC_le (by simp only [T.rows_cons, T.rows_nil]; rfl) rfl⟩, rfl⟩, hs4, u4, r4, rfl⟩
    | false =>
      simp only [h1, Bool.false_eq_true, if_false] at hR
      refine AW.condF rfl ?_
      repeat (first
        | refine AW.seq ?_
        | refine AW.reg ?_
        | refine Reg.opS tab_ok (hint := []) rfl rfl rfl rfl rfl trivial ?_
        | refine Reg.opN tab_ok (hint := []) rfl rfl rfl rfl trivial ?_
        | refine Reg.nil ?_
        | refine thenA_normal ?_
        | refine AW.condT rfl ?_
        | refine AW.condF rfl ?_
        | refine AW.skip ?_
        | refine AW.block ?_
        | refine AW.exit ?_
        | refine AW.ret ?_
        | refine thenA_exit ?_
        | refine thenA_ret ?_
        | refine blockA_normal ?_
        | refine blockA_hit ?_
        | refine blockA_miss rfl ?_
        | refine blockA_ret ?_
        | refine Reg.panic rfl rfl rfl rfl ?_
        | refine thenA_panic ?_
        | refine blockA_panic ?_)
      refine Reg.call tab_ok [0] (binds_any h) callable51 rfl (.inl rfl) rfl rfl rfl (by decide) rfl rfl ?_
      rintro out bx1 ⟨rfl, rfl⟩
      refine after1 rfl rfl rfl rfl rfl ?_
      repeat (first
        | refine AW.seq ?_
        | refine AW.reg ?_
        | refine Reg.opS tab_ok (hint := []) rfl rfl rfl rfl rfl trivial ?_
        | refine Reg.opN tab_ok (hint := []) rfl rfl rfl rfl trivial ?_
        | refine Reg.nil ?_
        | refine thenA_normal ?_
        | refine AW.condT rfl ?_
        | refine AW.condF rfl ?_
        | refine AW.skip ?_
        | refine AW.block ?_
        | refine AW.exit ?_
        | refine AW.ret ?_
        | refine thenA_exit ?_
        | refine thenA_ret ?_
        | refine blockA_normal ?_
        | refine blockA_hit ?_
        | refine blockA_miss rfl ?_
        | refine blockA_ret ?_
        | refine Reg.panic rfl rfl rfl rfl ?_
        | refine thenA_panic ?_
        | refine blockA_panic ?_)
      cases h2 : bindsP (t :: s) with
      | true =>
        simp only [h2, if_true] at hR
        refine AW.condT rfl ?_
        obtain ⟨x, c, r, rfl, hx, hk, hc⟩ := binds_shape h2
        simp only [pisP] at hR
        have hs := h.tail
        have hs1 := hs.tail
        obtain ⟨u, r', rfl⟩ := hs1.more' (.inr hc)
        have hs2 := hs1.tail
        repeat (first
          | refine AW.seq ?_
          | refine AW.reg ?_
          | refine Reg.opS tab_ok (hint := []) rfl rfl rfl rfl rfl trivial ?_
          | refine Reg.opN tab_ok (hint := []) rfl rfl rfl rfl trivial ?_
          | refine Reg.nil ?_
          | refine thenA_normal ?_
          | refine AW.condT rfl ?_
          | refine AW.condF rfl ?_
          | refine AW.skip ?_
          | refine AW.block ?_
          | refine AW.exit ?_
          | refine AW.ret ?_
          | refine thenA_exit ?_
          | refine thenA_ret ?_
          | refine blockA_normal ?_
          | refine blockA_hit ?_
          | refine blockA_miss rfl ?_
          | refine blockA_ret ?_
          | refine Reg.panic rfl rfl rfl rfl ?_
          | refine thenA_panic ?_
          | refine blockA_panic ?_)
        rw [h.nextL (f := f)]
        refine Reg.call tab_ok [0] (take_any hs) callable52 rfl (.inl rfl) rfl rfl rfl (by decide) rfl rfl ?_
        rintro out bx1 ⟨rfl, rfl⟩
        refine after1 rfl rfl rfl rfl rfl ?_
        repeat (first
          | refine AW.seq ?_
          | refine AW.reg ?_
          | refine Reg.opS tab_ok (hint := []) rfl rfl rfl rfl rfl trivial ?_
          | refine Reg.opN tab_ok (hint := []) rfl rfl rfl rfl trivial ?_
          | refine Reg.nil ?_
          | refine thenA_normal ?_
          | refine AW.condT rfl ?_
          | refine AW.condF rfl ?_
          | refine AW.skip ?_
          | refine AW.block ?_
          | refine AW.exit ?_
          | refine AW.ret ?_
          | refine thenA_exit ?_
          | refine thenA_ret ?_
          | refine blockA_normal ?_
          | refine blockA_hit ?_
          | refine blockA_miss rfl ?_
          | refine blockA_ret ?_
          | refine Reg.panic rfl rfl rfl rfl ?_
          | refine thenA_panic ?_
          | refine blockA_panic ?_)
        rw [hs1.nextL (f := f)]
        refine Reg.call tab_ok [0] (ht _ toks f u r' (by rw [hw]; omega) (by rw [hw]; omega) hs2) callable25 rfl (.inl rfl) rfl rfl rfl (by decide) rfl rfl ?_
        intro out bx1 ho
        rcases hn : termP d (u :: r') with ⟨a, r0⟩ | ⟨p, e⟩
        rotate_left
        · rw [hn] at ho
          simp only [hn, PR.err_bind] at hR
          obtain ⟨rfl, s0, rfl⟩ := ho
          refine after1p rfl rfl rfl ?_
          repeat (first
            | refine AW.seq ?_
            | refine AW.reg ?_
            | refine Reg.opS tab_ok (hint := []) rfl rfl rfl rfl rfl trivial ?_
            | refine Reg.opN tab_ok (hint := []) rfl rfl rfl rfl trivial ?_
            | refine Reg.nil ?_
            | refine thenA_normal ?_
            | refine AW.condT rfl ?_
            | refine AW.condF rfl ?_
            | refine AW.skip ?_
            | refine AW.block ?_
            | refine AW.exit ?_
            | refine AW.ret ?_
            | refine thenA_exit ?_
            | refine thenA_ret ?_
            | refine blockA_normal ?_
            | refine blockA_hit ?_
            | refine blockA_miss rfl ?_
            | refine blockA_ret ?_
            | refine Reg.panic rfl rfl rfl rfl ?_
            | refine thenA_panic ?_
            | refine blockA_panic ?_)
          subst hR
          exact ⟨rfl, rfl, _, rfl⟩
        rw [hn] at ho
        simp only [hn, PR.ok_bind] at hR
        obtain ⟨⟨rfl, rfl⟩, hs3, u3, r3, rfl⟩ := ho
        refine after1 rfl rfl rfl rfl rfl ?_
        repeat (first
          | refine AW.seq ?_
          | refine AW.reg ?_
          | refine Reg.opS tab_ok (hint := []) rfl rfl rfl rfl rfl trivial ?_
          | refine Reg.opN tab_ok (hint := []) rfl rfl rfl rfl trivial ?_
          | refine Reg.nil ?_
          | refine thenA_normal ?_
          | refine AW.condT rfl ?_
          | refine AW.condF rfl ?_
          | refine AW.skip ?_
          | refine AW.block ?_
          | refine AW.exit ?_
          | refine AW.ret ?_
          | refine thenA_exit ?_
          | refine thenA_ret ?_
          | refine blockA_normal ?_
          | refine blockA_hit ?_
          | refine blockA_miss rfl ?_
          | refine blockA_ret ?_
          | refine Reg.panic rfl rfl rfl rfl ?_
          | refine thenA_panic ?_
          | refine blockA_panic ?_)
        refine Reg.call tab_ok [0] (want_any (bs [41]) hs3) callable50 rfl (.inl rfl) rfl rfl rfl (by decide) rfl rfl ?_
        intro out bx1 ho
        rcases hn2 : wantP (bs [41]) (u3 :: r3) with ⟨x0, r0⟩ | ⟨p, e⟩
        rotate_left
        · rw [hn2] at ho
          simp only [hn2, PR.err_bind] at hR
          obtain ⟨rfl, s0, rfl⟩ := ho
          refine after1p rfl rfl rfl ?_
          repeat (first
            | refine AW.seq ?_
            | refine AW.reg ?_
            | refine Reg.opS tab_ok (hint := []) rfl rfl rfl rfl rfl trivial ?_
            | refine Reg.opN tab_ok (hint := []) rfl rfl rfl rfl trivial ?_
            | refine Reg.nil ?_
            | refine thenA_normal ?_
            | refine AW.condT rfl ?_
            | refine AW.condF rfl ?_
            | refine AW.skip ?_
            | refine AW.block ?_
            | refine AW.exit ?_
            | refine AW.ret ?_
            | refine thenA_exit ?_
            | refine thenA_ret ?_
            | refine blockA_normal ?_
            | refine blockA_hit ?_
            | refine blockA_miss rfl ?_
            | refine blockA_ret ?_
            | refine Reg.panic rfl rfl rfl rfl ?_
            | refine thenA_panic ?_
            | refine blockA_panic ?_)
          subst hR
          exact ⟨rfl, rfl, _, rfl⟩
        rw [hn2] at ho
        simp only [hn2, PR.ok_bind] at hR
        obtain ⟨⟨rfl, rfl⟩, hs4, u4, r4, rfl⟩ := ho
        refine after1 rfl rfl rfl rfl rfl ?_
        repeat (first
          | refine AW.seq ?_
          | refine AW.reg ?_
          | refine Reg.opS tab_ok (hint := []) rfl rfl rfl rfl rfl trivial ?_
          | refine Reg.opN tab_ok (hint := []) rfl rfl rfl rfl trivial ?_
          | refine Reg.nil ?_
          | refine thenA_normal ?_
          | refine AW.condT rfl ?_
          | refine AW.condF rfl ?_
          | refine AW.skip ?_
          | refine AW.block ?_
          | refine AW.exit ?_
          | refine AW.ret ?_
          | refine thenA_exit ?_
          | refine thenA_ret ?_
          | refine blockA_normal ?_
          | refine blockA_hit ?_
          | refine blockA_miss rfl ?_
          | refine blockA_ret ?_
          | refine Reg.panic rfl rfl rfl rfl ?_
          | refine thenA_panic ?_
          | refine blockA_panic ?_)
        refine Reg.call tab_ok [0] (arrow_any hs4) callable53 rfl (.inl rfl) rfl rfl rfl (by decide) rfl rfl ?_
        rintro out bx1 ⟨rfl, rfl⟩
        refine after1 rfl rfl rfl rfl rfl ?_
        repeat (first
          | refine AW.seq ?_
          | refine AW.reg ?_
          | refine Reg.opS tab_ok (hint := []) rfl rfl rfl rfl rfl trivial ?_
          | refine Reg.opN tab_ok (hint := []) rfl rfl rfl rfl trivial ?_
          | refine Reg.nil ?_
          | refine thenA_normal ?_
          | refine AW.condT rfl ?_
          | refine AW.condF rfl ?_
          | refine AW.skip ?_
          | refine AW.block ?_
          | refine AW.exit ?_
          | refine AW.ret ?_
          | refine thenA_exit ?_
          | refine thenA_ret ?_
          | refine blockA_normal ?_
          | refine blockA_hit ?_
          | refine blockA_miss rfl ?_
          | refine blockA_ret ?_
          | refine Reg.panic rfl rfl rfl rfl ?_
          | refine thenA_panic ?_
          | refine blockA_panic ?_)
        cases ha : (arrowP (u4 :: r4) == 0) with
        | true =>
          simp only [ha, if_true] at hR
          refine AW.cond rfl (fun hh => absurd hh (by simp [bne, ha])) (fun _ => ?_)
          repeat (first
            | refine AW.seq ?_
            | refine AW.reg ?_
            | refine Reg.opS tab_ok (hint := []) rfl rfl rfl rfl rfl trivial ?_
            | refine Reg.opN tab_ok (hint := []) rfl rfl rfl rfl trivial ?_
            | refine Reg.nil ?_
            | refine thenA_normal ?_
            | refine AW.condT rfl ?_
            | refine AW.condF rfl ?_
            | refine AW.skip ?_
            | refine AW.block ?_
            | refine AW.exit ?_
            | refine AW.ret ?_
            | refine thenA_exit ?_
            | refine thenA_ret ?_
            | refine blockA_normal ?_
            | refine blockA_hit ?_
            | refine blockA_miss rfl ?_
            | refine blockA_ret ?_
            | refine Reg.panic rfl rfl rfl rfl ?_
            | refine thenA_panic ?_
            | refine blockA_panic ?_)
          refine Reg.call tab_ok [] (of_any 9 t.at_ [[.val (.int .i64 1), .val (.string x.text), .sl 5 [] true, .sl 1 [] true, .val (.int .i64 x.at_)], tC a] true) callable55 rfl (.inl rfl) rfl rfl rfl (by decide) rfl rfl ?_
          rintro out bx1 ⟨rfl, rfl⟩
          refine after0 rfl rfl ?_
          repeat (first
            | refine AW.seq ?_
            | refine AW.reg ?_
            | refine Reg.opS tab_ok (hint := []) rfl rfl rfl rfl rfl trivial ?_
            | refine Reg.opN tab_ok (hint := []) rfl rfl rfl rfl trivial ?_
            | refine Reg.nil ?_
            | refine thenA_normal ?_
            | refine AW.condT rfl ?_
            | refine AW.condF rfl ?_
            | refine AW.skip ?_
            | refine AW.block ?_
            | refine AW.exit ?_
            | refine AW.ret ?_
            | refine thenA_exit ?_
            | refine thenA_ret ?_
            | refine blockA_normal ?_
            | refine blockA_hit ?_
            | refine blockA_miss rfl ?_
            | refine blockA_ret ?_
            | refine Reg.panic rfl rfl rfl rfl ?_
            | refine thenA_panic ?_
            | refine blockA_panic ?_)
          refine Reg.call tab_ok [0] (after_ann ht hl hl1 x.text x.at_ t.at_ a hs4) callable54 rfl (.inl rfl) rfl rfl rfl (by decide) rfl rfl ?_
          intro out bx1 ho
          rw [hR] at ho
          cases R with
          | ok x r0 =>
            obtain ⟨⟨rfl, rfl⟩, hs9, u9, r9, rfl⟩ := ho
            refine after1 rfl rfl rfl rfl rfl ?_
            repeat (first
              | refine AW.seq ?_
              | refine AW.reg ?_
              | refine Reg.opS tab_ok (hint := []) rfl rfl rfl rfl rfl trivial ?_
              | refine Reg.opN tab_ok (hint := []) rfl rfl rfl rfl trivial ?_
              | refine Reg.nil ?_
              | refine thenA_normal ?_
              | refine AW.condT rfl ?_
              | refine AW.condF rfl ?_
              | refine AW.skip ?_
              | refine AW.block ?_
              | refine AW.exit ?_
              | refine AW.ret ?_
              | refine thenA_exit ?_
              | refine thenA_ret ?_
              | refine blockA_normal ?_
              | refine blockA_hit ?_
              | refine blockA_miss rfl ?_
              | refine blockA_ret ?_
              | refine Reg.panic rfl rfl rfl rfl ?_
              | refine thenA_panic ?_
              | refine blockA_panic ?_)
            exact ⟨_, rfl, rfl, rfl, ⟨⟨_, rfl, .refl _⟩, rfl⟩, hs9, u9, r9, rfl⟩
          | err p e =>
            obtain ⟨rfl, s0, rfl⟩ := ho
            refine after1p rfl rfl rfl ?_
            repeat (first
              | refine AW.seq ?_
              | refine AW.reg ?_
              | refine Reg.opS tab_ok (hint := []) rfl rfl rfl rfl rfl trivial ?_
              | refine Reg.opN tab_ok (hint := []) rfl rfl rfl rfl trivial ?_
              | refine Reg.nil ?_
              | refine thenA_normal ?_
              | refine AW.condT rfl ?_
              | refine AW.condF rfl ?_
              | refine AW.skip ?_
              | refine AW.block ?_
              | refine AW.exit ?_
              | refine AW.ret ?_
              | refine thenA_exit ?_
              | refine thenA_ret ?_
              | refine blockA_normal ?_
              | refine blockA_hit ?_
              | refine blockA_miss rfl ?_
              | refine blockA_ret ?_
              | refine Reg.panic rfl rfl rfl rfl ?_
              | refine thenA_panic ?_
              | refine blockA_panic ?_)
            exact ⟨rfl, rfl, _, rfl⟩
        | false =>
          simp only [ha, Bool.false_eq_true, if_false, List.tail_cons] at hR
          refine AW.cond rfl (fun _ => ?_) (fun hh => absurd hh (by simp [bne, ha]))
          repeat (first
            | refine AW.seq ?_
            | refine AW.reg ?_
            | refine Reg.opS tab_ok (hint := []) rfl rfl rfl rfl rfl trivial ?_
            | refine Reg.opN tab_ok (hint := []) rfl rfl rfl rfl trivial ?_
            | refine Reg.nil ?_
            | refine thenA_normal ?_
            | refine AW.condT rfl ?_
            | refine AW.condF rfl ?_
            | refine AW.skip ?_
            | refine AW.block ?_
            | refine AW.exit ?_
            | refine AW.ret ?_
            | refine thenA_exit ?_
            | refine thenA_ret ?_
            | refine blockA_normal ?_
            | refine blockA_hit ?_
            | refine blockA_miss rfl ?_
            | refine blockA_ret ?_
            | refine Reg.panic rfl rfl rfl rfl ?_
            | refine thenA_panic ?_
            | refine blockA_panic ?_)
          rw [hs4.nextL (f := f)]
          have hku : u4.kind ≠ 0 := by
            intro e
            simp [arrowP, seesB, e] at ha
          obtain ⟨hs5, v, r5, rfl⟩ := hs4.live hku
          refine AW.draw [9, 12] [0, 1, 2, 3, 4, 5, 6, 7, 8, 9, 10, 11, 12] mixed ⟨rfl, rfl, rfl, rfl, by decide⟩ ?_
          iterate 9 refine RegD.pureS tab_ok (hint := []) rfl rfl rfl rfl rfl rfl trivial ?_
          refine RegD.call tab_ok [0] [5, 4, 3, 2, 1, 0] (ht _ toks f v r5 (by rw [hw]; omega) (by rw [hw]; omega) hs5) callable25 rfl rfl rfl rfl rfl rfl rfl rfl (by decide) rfl rfl ?_
          intro out bx1 ho
          rcases hn3 : termP d (v :: r5) with ⟨b, r0⟩ | ⟨p, e⟩
          rotate_left
          · rw [hn3] at ho
            simp only [hn3, PR.err_bind] at hR
            obtain ⟨rfl, s0, rfl⟩ := ho
            refine after1Dp rfl rfl rfl ?_
            repeat (first
              | refine AW.seq ?_
              | refine AW.reg ?_
              | refine Reg.opS tab_ok (hint := []) rfl rfl rfl rfl rfl trivial ?_
              | refine Reg.opN tab_ok (hint := []) rfl rfl rfl rfl trivial ?_
              | refine Reg.nil ?_
              | refine thenA_normal ?_
              | refine AW.condT rfl ?_
              | refine AW.condF rfl ?_
              | refine AW.skip ?_
              | refine AW.block ?_
              | refine AW.exit ?_
              | refine AW.ret ?_
              | refine thenA_exit ?_
              | refine thenA_ret ?_
              | refine blockA_normal ?_
              | refine blockA_hit ?_
              | refine blockA_miss rfl ?_
              | refine blockA_ret ?_
              | refine Reg.panic rfl rfl rfl rfl ?_
              | refine thenA_panic ?_
              | refine blockA_panic ?_)
            subst hR
            exact ⟨rfl, rfl, _, rfl⟩
          rw [hn3] at ho
          simp only [hn3, PR.ok_bind] at hR
          obtain ⟨⟨rfl, rfl⟩, hs6, u6, r6, rfl⟩ := ho
          refine after1D rfl rfl rfl rfl rfl (by exact Stable.cons tab_ok (hint := []) rfl rfl rfl rfl trivial (Stable.cons tab_ok (hint := []) rfl rfl rfl rfl trivial (Stable.cons tab_ok (hint := []) rfl rfl rfl rfl trivial (Stable.cons tab_ok (hint := []) rfl rfl rfl rfl trivial (Stable.cons tab_ok (hint := []) rfl rfl rfl rfl trivial (Stable.cons tab_ok (hint := []) rfl rfl rfl rfl trivial (Stable.nil))))))) ?_
          iterate 2 refine RegD.pureS tab_ok (hint := []) rfl rfl rfl rfl rfl rfl trivial ?_
          refine RegD.effS tab_ok (hint := []) [] rfl rfl rfl rfl rfl rfl rfl trivial Stable.nil ?_
          refine RegD.nil ?_
          repeat (first
            | refine AW.seq ?_
            | refine AW.reg ?_
            | refine Reg.opS tab_ok (hint := []) rfl rfl rfl rfl rfl trivial ?_
            | refine Reg.opN tab_ok (hint := []) rfl rfl rfl rfl trivial ?_
            | refine Reg.nil ?_
            | refine thenA_normal ?_
            | refine AW.condT rfl ?_
            | refine AW.condF rfl ?_
            | refine AW.skip ?_
            | refine AW.block ?_
            | refine AW.exit ?_
            | refine AW.ret ?_
            | refine thenA_exit ?_
            | refine thenA_ret ?_
            | refine blockA_normal ?_
            | refine blockA_hit ?_
            | refine blockA_miss rfl ?_
            | refine blockA_ret ?_
            | refine Reg.panic rfl rfl rfl rfl ?_
            | refine thenA_panic ?_
            | refine blockA_panic ?_)
          subst hR
          exact ⟨_, rfl, rfl, rfl, ⟨⟨_, rfl, tC_le (by simp only [T.rows_cons, T.rows_nil]; rfl) rfl⟩, rfl⟩, hs6, u6, r6, rfl⟩
      | false =>
        simp only [h2, Bool.false_eq_true, if_false] at hR
        refine AW.condF rfl ?_
        repeat (first
          | refine AW.seq ?_
          | refine AW.reg ?_
          | refine Reg.opS tab_ok (hint := []) rfl rfl rfl rfl rfl trivial ?_
          | refine Reg.opN tab_ok (hint := []) rfl rfl rfl rfl trivial ?_
          | refine Reg.nil ?_
          | refine thenA_normal ?_
          | refine AW.condT rfl ?_
          | refine AW.condF rfl ?_
          | refine AW.skip ?_
          | refine AW.block ?_
          | refine AW.exit ?_
          | refine AW.ret ?_
          | refine thenA_exit ?_
          | refine thenA_ret ?_
          | refine blockA_normal ?_
          | refine blockA_hit ?_
          | refine blockA_miss rfl ?_
          | refine blockA_ret ?_
          | refine Reg.panic rfl rfl rfl rfl ?_
          | refine thenA_panic ?_
          | refine blockA_panic ?_)
        refine Reg.call tab_ok [0] (atom_any ht hl hl1 h) callable56 rfl (.inl rfl) rfl rfl rfl (by decide) rfl rfl ?_
        intro out bx1 ho
        rcases hn : atomP (termP d) (t :: s) with ⟨x, r0⟩ | ⟨p, e⟩
        rotate_left
        · rw [hn] at ho
          simp only [hn, PR.err_bind] at hR
          obtain ⟨rfl, s0, rfl⟩ := ho
          refine after1p rfl rfl rfl ?_
          repeat (first
            | refine AW.seq ?_
            | refine AW.reg ?_
            | refine Reg.opS tab_ok (hint := []) rfl rfl rfl rfl rfl trivial ?_
            | refine Reg.opN tab_ok (hint := []) rfl rfl rfl rfl trivial ?_
            | refine Reg.nil ?_
            | refine thenA_normal ?_
            | refine AW.condT rfl ?_
            | refine AW.condF rfl ?_
            | refine AW.skip ?_
            | refine AW.block ?_
            | refine AW.exit ?_
            | refine AW.ret ?_
            | refine thenA_exit ?_
            | refine thenA_ret ?_
            | refine blockA_normal ?_
            | refine blockA_hit ?_
            | refine blockA_miss rfl ?_
            | refine blockA_ret ?_
            | refine Reg.panic rfl rfl rfl rfl ?_
            | refine thenA_panic ?_
            | refine blockA_panic ?_)
          subst hR
          exact ⟨rfl, rfl, _, rfl⟩
        rw [hn] at ho
        simp only [hn, PR.ok_bind] at hR
        obtain ⟨⟨rfl, rfl⟩, hs, u, r, rfl⟩ := ho
        refine after1 rfl rfl rfl rfl rfl ?_
        repeat (first
          | refine AW.seq ?_
          | refine AW.reg ?_
          | refine Reg.opS tab_ok (hint := []) rfl rfl rfl rfl rfl trivial ?_
          | refine Reg.opN tab_ok (hint := []) rfl rfl rfl rfl trivial ?_
          | refine Reg.nil ?_
          | refine thenA_normal ?_
          | refine AW.condT rfl ?_
          | refine AW.condF rfl ?_
          | refine AW.skip ?_
          | refine AW.block ?_
          | refine AW.exit ?_
          | refine AW.ret ?_
          | refine thenA_exit ?_
          | refine thenA_ret ?_
          | refine blockA_normal ?_
          | refine blockA_hit ?_
          | refine blockA_miss rfl ?_
          | refine blockA_ret ?_
          | refine Reg.panic rfl rfl rfl rfl ?_
          | refine thenA_panic ?_
          | refine blockA_panic ?_)
        refine Reg.call tab_ok [0] (after_any ht hl hl1 x hs) callable54 rfl (.inl rfl) rfl rfl rfl (by decide) rfl rfl ?_
        intro out bx1 ho
        rw [hR] at ho
        cases R with
        | ok x r0 =>
          obtain ⟨⟨rfl, rfl⟩, hs9, u9, r9, rfl⟩ := ho
          refine after1 rfl rfl rfl rfl rfl ?_
          repeat (first
            | refine AW.seq ?_
            | refine AW.reg ?_
            | refine Reg.opS tab_ok (hint := []) rfl rfl rfl rfl rfl trivial ?_
            | refine Reg.opN tab_ok (hint := []) rfl rfl rfl rfl trivial ?_
            | refine Reg.nil ?_
            | refine thenA_normal ?_
            | refine AW.condT rfl ?_
            | refine AW.condF rfl ?_
            | refine AW.skip ?_
            | refine AW.block ?_
            | refine AW.exit ?_
            | refine AW.ret ?_
            | refine thenA_exit ?_
            | refine thenA_ret ?_
            | refine blockA_normal ?_
            | refine blockA_hit ?_
            | refine blockA_miss rfl ?_
            | refine blockA_ret ?_
            | refine Reg.panic rfl rfl rfl rfl ?_
            | refine thenA_panic ?_
            | refine blockA_panic ?_)
          exact ⟨_, rfl, rfl, rfl, ⟨⟨_, rfl, .refl _⟩, rfl⟩, hs9, u9, r9, rfl⟩
        | err p e =>
          obtain ⟨rfl, s0, rfl⟩ := ho
          refine after1p rfl rfl rfl ?_
          repeat (first
            | refine AW.seq ?_
            | refine AW.reg ?_
            | refine Reg.opS tab_ok (hint := []) rfl rfl rfl rfl rfl trivial ?_
            | refine Reg.opN tab_ok (hint := []) rfl rfl rfl rfl trivial ?_
            | refine Reg.nil ?_
            | refine thenA_normal ?_
            | refine AW.condT rfl ?_
            | refine AW.condF rfl ?_
            | refine AW.skip ?_
            | refine AW.block ?_
            | refine AW.exit ?_
            | refine AW.ret ?_
            | refine thenA_exit ?_
            | refine thenA_ret ?_
            | refine blockA_normal ?_
            | refine blockA_hit ?_
            | refine blockA_miss rfl ?_
            | refine blockA_ret ?_
            | refine Reg.panic rfl rfl rfl rfl ?_
            | refine thenA_panic ?_
            | refine blockA_panic ?_)
          exact ⟨rfl, rfl, _, rfl⟩

theorem term_any : ∀ d : Nat, TermOk G d
  | 0 => term_zero
  | d + 1 => term_succ (term_any d)

end Go.Proofs.YtamkldohfhidiaaDoor
