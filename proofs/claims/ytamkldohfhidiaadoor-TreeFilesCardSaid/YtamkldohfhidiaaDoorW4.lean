import Derived.Test.YtamkldohfhidiaaDoorW3
namespace Go.Proofs.YtamkldohfhidiaaDoor
open Go Go.Abs

variable {G : Glob} {toks s : List Tok} {f : Bool} {t : Tok}

theorem Suf.at1 {u : Tok} (h : Suf toks (t :: u :: s)) : (toks.map tokC)[(IntKind.i64.wrap ((toks.length : Int) - ((t :: u :: s).length : Nat) + 1)).toNat]? = some (tokC u) := by
  rw [h.next]
  exact h.tail.at
theorem Suf.next2 {u : Tok} (h : Suf toks (t :: u :: s)) : IntKind.i64.wrap ((toks.length : Int) - ((t :: u :: s).length : Nat) + 2) = (toks.length : Int) - (s.length : Nat) := by
  have h1 := h.le
  have h2 := h.small
  simp only [List.length_cons] at h1 ⊢
  rw [wrap_in (by omega) (by omega)]
  omega
theorem Suf.at2 {u v : Tok} (h : Suf toks (t :: u :: v :: s)) : (toks.map tokC)[(IntKind.i64.wrap ((toks.length : Int) - ((t :: u :: v :: s).length : Nat) + 2)).toNat]? = some (tokC v) := by
  rw [h.next2]
  exact h.tail.tail.at
theorem Suf.ge1 {u : Tok} (h : Suf toks (t :: u :: s)) : 0 ≤ IntKind.i64.wrap ((toks.length : Int) - ((t :: u :: s).length : Nat) + 1) := by
  rw [h.next]
  have := h.tail.le
  omega
theorem Suf.ge2 {u v : Tok} (h : Suf toks (t :: u :: v :: s)) : 0 ≤ IntKind.i64.wrap ((toks.length : Int) - ((t :: u :: v :: s).length : Nat) + 2) := by
  rw [h.next2]
  have := h.tail.tail.le
  omega

theorem binds_any (h : Suf toks (t :: s)) : ACalls Tryd.prog G 51 [.ptr 0 0] [rd toks f (t :: s)] fun out b => out = .ret (.d (.val (.bool (bindsP (t :: s))))) ∧ b = [rd toks f (t :: s)] := by
  generalize hR : bindsP (t :: s) = R
  refine ACalls.body tab_ok Tryd.func51 rfl rfl ?_
  repeat (first
    | refine AW.seq ?_
    | refine AW.reg ?_
    | refine Reg.opS tab_ok (hint := []) rfl rfl rfl rfl rfl trivial ?_
    | refine Reg.opN tab_ok (hint := []) rfl rfl rfl rfl trivial ?_
    | refine Reg.nil ?_
    | refine thenA_normal ?_
    | refine AW.condT rfl ?_
    | refine AW.condF rfl ?_
    | refine AW.skip ?_
    | refine AW.block ?_
    | refine AW.exit ?_
    | refine AW.ret ?_
    | refine thenA_exit ?_
    | refine thenA_ret ?_
    | refine blockA_normal ?_
    | refine blockA_hit ?_
    | refine blockA_miss rfl ?_
    | refine blockA_ret ?_
    | refine Reg.panic rfl rfl rfl rfl ?_
    | refine thenA_panic ?_
    | refine blockA_panic ?_)
  refine AW.draw [1, 32] [0, 1, 2, 3, 4, 5, 6, 7, 8, 9, 10, 11, 12, 13, 14, 15, 16, 17, 18, 19, 20, 21, 22, 23, 24, 25, 26, 27, 28, 29, 30, 31, 32] mixed ⟨by kernel_rfl, by kernel_rfl, by kernel_rfl, by kernel_rfl, by decide⟩ ?_
  iterate 1 refine RegD.pureS tab_ok (hint := []) rfl rfl rfl rfl rfl rfl trivial ?_
  refine RegD.call tab_ok [0] [] (sees_any (bs [40]) h) callable48 rfl rfl rfl rfl rfl rfl rfl rfl (by decide) rfl rfl ?_
  rintro out bx1 ⟨rfl, rfl⟩
  refine after1D rfl rfl rfl rfl rfl Stable.nil ?_
  iterate 1 refine RegD.pureS tab_ok (hint := []) rfl rfl rfl rfl rfl rfl trivial ?_
  cases hs : seesB (bs [40]) (t :: s) with
  | false =>
    have hb : R = false := by
      subst hR
      unfold bindsP
      split
      · rename_i heq
        cases heq
        simp only [seesB] at hs ⊢
        rw [hs]
        rfl
      · rfl
    iterate 13 refine RegD.skipS rfl rfl rfl rfl rfl ?_
    iterate 2 refine RegD.pureS tab_ok (hint := []) rfl rfl rfl rfl rfl rfl trivial ?_
    iterate 13 refine RegD.skipS rfl rfl rfl rfl rfl ?_
    iterate 1 refine RegD.pureS tab_ok (hint := []) rfl rfl rfl rfl rfl rfl trivial ?_
    refine RegD.effS tab_ok (hint := []) [] rfl rfl rfl rfl (by kernel_rfl) rfl rfl trivial Stable.nil ?_
    refine RegD.nil ?_
    repeat (first
      | refine AW.seq ?_
      | refine AW.reg ?_
      | refine Reg.opS tab_ok (hint := []) rfl rfl rfl rfl rfl trivial ?_
      | refine Reg.opN tab_ok (hint := []) rfl rfl rfl rfl trivial ?_
      | refine Reg.nil ?_
      | refine thenA_normal ?_
      | refine AW.condT rfl ?_
      | refine AW.condF rfl ?_
      | refine AW.skip ?_
      | refine AW.block ?_
      | refine AW.exit ?_
      | refine AW.ret ?_
      | refine thenA_exit ?_
      | refine thenA_ret ?_
      | refine blockA_normal ?_
      | refine blockA_hit ?_
      | refine blockA_miss rfl ?_
      | refine blockA_ret ?_
      | refine Reg.panic rfl rfl rfl rfl ?_
      | refine thenA_panic ?_
      | refine blockA_panic ?_)
    subst hb
    exact ⟨_, rfl, rfl, rfl, rfl, rfl⟩
  | true =>
    obtain ⟨u, r, rfl⟩ := h.more (sees_kind hs)
    iterate 9 refine RegD.pureS tab_ok (hint := []) rfl rfl rfl rfl rfl rfl trivial ?_
    refine RegD.pureS tab_ok (hint := tokC u) rfl rfl rfl rfl rfl rfl ⟨rfl, h.ge1, h.at1⟩ ?_
    iterate 3 refine RegD.pureS tab_ok (hint := []) rfl rfl rfl rfl rfl rfl trivial ?_
    cases hu : (u.kind == 1) with
    | false =>
      have hb : R = false := by
        subst hR
        unfold bindsP
        split
        · rename_i heq
          cases heq
          rw [hu]
          simp
        · rfl
      iterate 2 refine RegD.pureS tab_ok (hint := []) rfl rfl rfl rfl rfl rfl trivial ?_
      iterate 13 refine RegD.skipS rfl rfl rfl rfl rfl ?_
      iterate 1 refine RegD.pureS tab_ok (hint := []) rfl rfl rfl rfl rfl rfl trivial ?_
      refine RegD.effS tab_ok (hint := []) [] rfl rfl rfl rfl (by kernel_rfl) rfl rfl trivial Stable.nil ?_
      refine RegD.nil ?_
      repeat (first
        | refine AW.seq ?_
        | refine AW.reg ?_
        | refine Reg.opS tab_ok (hint := []) rfl rfl rfl rfl rfl trivial ?_
        | refine Reg.opN tab_ok (hint := []) rfl rfl rfl rfl trivial ?_
        | refine Reg.nil ?_
        | refine thenA_normal ?_
        | refine AW.condT rfl ?_
        | refine AW.condF rfl ?_
        | refine AW.skip ?_
        | refine AW.block ?_
        | refine AW.exit ?_
        | refine AW.ret ?_
        | refine thenA_exit ?_
        | refine thenA_ret ?_
        | refine blockA_normal ?_
        | refine blockA_hit ?_
        | refine blockA_miss rfl ?_
        | refine blockA_ret ?_
        | refine Reg.panic rfl rfl rfl rfl ?_
        | refine thenA_panic ?_
        | refine blockA_panic ?_)
      subst hb
      exact ⟨_, rfl, rfl, rfl, rfl, rfl⟩
    | true =>
      obtain ⟨v, r2, rfl⟩ := h.tail.more (fun e => by rw [e] at hu; cases hu)
      iterate 11 refine RegD.pureS tab_ok (hint := []) rfl rfl rfl rfl rfl rfl trivial ?_
      refine RegD.pureS tab_ok (hint := tokC v) rfl rfl rfl rfl rfl rfl ⟨rfl, h.ge2, h.at2⟩ ?_
      iterate 4 refine RegD.pureS tab_ok (hint := []) rfl rfl rfl rfl rfl rfl trivial ?_
      refine RegD.effS tab_ok (hint := []) [] rfl rfl rfl rfl (by kernel_rfl) rfl rfl trivial Stable.nil ?_
      refine RegD.nil ?_
      repeat (first
        | refine AW.seq ?_
        | refine AW.reg ?_
        | refine Reg.opS tab_ok (hint := []) rfl rfl rfl rfl rfl trivial ?_
        | refine Reg.opN tab_ok (hint := []) rfl rfl rfl rfl trivial ?_
        | refine Reg.nil ?_
        | refine thenA_normal ?_
        | refine AW.condT rfl ?_
        | refine AW.condF rfl ?_
        | refine AW.skip ?_
        | refine AW.block ?_
        | refine AW.exit ?_
        | refine AW.ret ?_
        | refine thenA_exit ?_
        | refine thenA_ret ?_
        | refine blockA_normal ?_
        | refine blockA_hit ?_
        | refine blockA_miss rfl ?_
        | refine blockA_ret ?_
        | refine Reg.panic rfl rfl rfl rfl ?_
        | refine thenA_panic ?_
        | refine blockA_panic ?_)
      subst hR
      have hs2 : seesB (bs [40]) [t] = true := hs
      exact ⟨_, rfl, rfl, rfl, by simp only [bindsP, hs2, hu, Bool.true_and], rfl⟩

theorem callable51 : Callable Tryd.prog 51 := ⟨_, Tryd.func51, rfl, rfl⟩

theorem ownSnoc (id : Nat) (ks : List T) (t : T) : SLe (.own id 5 (T.rows ks ++ [tC t])) (.d (.sl 5 (T.rows (ks ++ [t])) false)) := by
  rw [T.rows_snoc]
  exact .own ..
theorem ownSnoc' (id : Nat) (ks : List T) (t : T) : SLe (.own id 5 (T.rows ks ++ [tC t])) (.own id 5 (T.rows (ks ++ [t]))) := by
  rw [T.rows_snoc]
  exact .refl _


set_option maxHeartbeats 2000000 in
theorem face_any (h : Suf toks (t :: s)) : ACalls Tryd.prog G 102 [.ptr 0 0] [rd toks f (t :: s)] (PRout toks f treeV (faceP (t :: s))) := by
  refine PRle.weak ?_
  generalize hR : faceP (t :: s) = R
  unfold faceP at hR
  have hsm := h.small
  have hle := h.le
  refine ACalls.body tab_ok Tryd.func102 rfl rfl ?_
  repeat (first
    | refine AW.seq ?_
    | refine AW.reg ?_
    | refine Reg.opS tab_ok (hint := []) rfl rfl rfl rfl rfl trivial ?_
    | refine Reg.opN tab_ok (hint := []) rfl rfl rfl rfl trivial ?_
    | refine Reg.nil ?_
    | refine thenA_normal ?_
    | refine AW.condT rfl ?_
    | refine AW.condF rfl ?_
    | refine AW.skip ?_
    | refine AW.block ?_
    | refine AW.exit ?_
    | refine AW.ret ?_
    | refine thenA_exit ?_
    | refine thenA_ret ?_
    | refine blockA_normal ?_
    | refine blockA_hit ?_
    | refine blockA_miss rfl ?_
    | refine blockA_ret ?_
    | refine Reg.panic rfl rfl rfl rfl ?_
    | refine thenA_panic ?_
    | refine blockA_panic ?_)
  refine Reg.call tab_ok [0] (now_any h) callable27 rfl (.inl rfl) rfl rfl rfl (by decide) rfl rfl ?_
  rintro out bx1 ⟨rfl, rfl⟩
  refine after1 rfl rfl rfl rfl rfl ?_
  repeat (first
    | refine AW.seq ?_
    | refine AW.reg ?_
    | refine Reg.opS tab_ok (hint := []) rfl rfl rfl rfl rfl trivial ?_
    | refine Reg.opN tab_ok (hint := []) rfl rfl rfl rfl trivial ?_
    | refine Reg.nil ?_
    | refine thenA_normal ?_
    | refine AW.condT rfl ?_
    | refine AW.condF rfl ?_
    | refine AW.skip ?_
    | refine AW.block ?_
    | refine AW.exit ?_
    | refine AW.ret ?_
    | refine thenA_exit ?_
    | refine thenA_ret ?_
    | refine blockA_normal ?_
    | refine blockA_hit ?_
    | refine blockA_miss rfl ?_
    | refine blockA_ret ?_
    | refine Reg.panic rfl rfl rfl rfl ?_
    | refine thenA_panic ?_
    | refine blockA_panic ?_)
  refine Reg.call tab_ok [] (of_any 12 t.at_ [] true) callable55 rfl (.inl rfl) rfl rfl rfl (by decide) rfl rfl ?_
  rintro out bx1 ⟨rfl, rfl⟩
  refine after0 rfl rfl ?_
  repeat (first
    | refine AW.seq ?_
    | refine AW.reg ?_
    | refine Reg.opS tab_ok (hint := []) rfl rfl rfl rfl rfl trivial ?_
    | refine Reg.opN tab_ok (hint := []) rfl rfl rfl rfl trivial ?_
    | refine Reg.nil ?_
    | refine thenA_normal ?_
    | refine AW.condT rfl ?_
    | refine AW.condF rfl ?_
    | refine AW.skip ?_
    | refine AW.block ?_
    | refine AW.exit ?_
    | refine AW.ret ?_
    | refine thenA_exit ?_
    | refine thenA_ret ?_
    | refine blockA_normal ?_
    | refine blockA_hit ?_
    | refine blockA_miss rfl ?_
    | refine blockA_ret ?_
    | refine Reg.panic rfl rfl rfl rfl ?_
    | refine thenA_panic ?_
    | refine blockA_panic ?_)
  refine Reg.call tab_ok [0] (sees_any (bs [49]) h) callable48 rfl (.inl rfl) rfl rfl rfl (by decide) rfl rfl ?_
  rintro out bx1 ⟨rfl, rfl⟩
  refine after1 rfl rfl rfl rfl rfl ?_
  repeat (first
    | refine AW.seq ?_
    | refine AW.reg ?_
    | refine Reg.opS tab_ok (hint := []) rfl rfl rfl rfl rfl trivial ?_
    | refine Reg.opN tab_ok (hint := []) rfl rfl rfl rfl trivial ?_
    | refine Reg.nil ?_
    | refine thenA_normal ?_
    | refine AW.condT rfl ?_
    | refine AW.condF rfl ?_
    | refine AW.skip ?_
    | refine AW.block ?_
    | refine AW.exit ?_
    | refine AW.ret ?_
    | refine thenA_exit ?_
    | refine thenA_ret ?_
    | refine blockA_normal ?_
    | refine blockA_hit ?_
    | refine blockA_miss rfl ?_
    | refine blockA_ret ?_
    | refine Reg.panic rfl rfl rfl rfl ?_
    | refine thenA_panic ?_
    | refine blockA_panic ?_)
  cases h1 : seesB (bs [49]) (t :: s) with
  | true =>
    simp only [h1, if_true, List.tail_cons] at hR
    repeat (first
      | refine AW.seq ?_
      | refine AW.reg ?_
      | refine Reg.opS tab_ok (hint := []) rfl rfl rfl rfl rfl trivial ?_
      | refine Reg.opN tab_ok (hint := []) rfl rfl rfl rfl trivial ?_
      | refine Reg.nil ?_
      | refine thenA_normal ?_
      | refine AW.condT rfl ?_
      | refine AW.condF rfl ?_
      | refine AW.skip ?_
      | refine AW.block ?_
      | refine AW.exit ?_
      | refine AW.ret ?_
      | refine thenA_exit ?_
      | refine thenA_ret ?_
      | refine blockA_normal ?_
      | refine blockA_hit ?_
      | refine blockA_miss rfl ?_
      | refine blockA_ret ?_
      | refine Reg.panic rfl rfl rfl rfl ?_
      | refine thenA_panic ?_
      | refine blockA_panic ?_)
    subst hR
    rw [h.nextL (f := f)]
    exact ⟨_, rfl, rfl, rfl, ⟨⟨_, rfl, tC_le T.rows_nil.symm rfl⟩, rfl⟩, h.live (sees_kind h1)⟩
  | false =>
    simp only [h1, Bool.false_eq_true, if_false] at hR
    refine AW.condF rfl ?_
    refine AW.skip ?_
    repeat (first
      | refine AW.seq ?_
      | refine AW.reg ?_
      | refine Reg.opS tab_ok (hint := []) rfl rfl rfl rfl rfl trivial ?_
      | refine Reg.opN tab_ok (hint := []) rfl rfl rfl rfl trivial ?_
      | refine Reg.nil ?_
      | refine thenA_normal ?_
      | refine AW.condT rfl ?_
      | refine AW.condF rfl ?_
      | refine AW.skip ?_
      | refine AW.block ?_
      | refine AW.exit ?_
      | refine AW.ret ?_
      | refine thenA_exit ?_
      | refine thenA_ret ?_
      | refine blockA_normal ?_
      | refine blockA_hit ?_
      | refine blockA_miss rfl ?_
      | refine blockA_ret ?_
      | refine Reg.panic rfl rfl rfl rfl ?_
      | refine thenA_panic ?_
      | refine blockA_panic ?_)
    refine AW.adoptBox (b := 2) (j := 2) rfl rfl rfl rfl rfl ?_
    refine AW.loop (S := Nat × List T × List Tok) (fun st => Live toks st.2.2 ∧ st.2.2.length < st.1 ∧ st.2.1.length + st.2.2.length ≤ toks.length ∧ (faceL st.1 st.2.1 st.2.2).bind (fun ks r => PR.ok (T.mk 12 (bs []) ks [] (atP (t :: s))) r) = R)
      (fun _ => [(0, .ptr 0 0), (2, .ptr 1 0), (3, .ptr 2 0)])
      (fun st => [rd toks f st.2.2, tB0, .cells [.d (.val (.int .i64 12)), .d (.val (.string ⟨#[]⟩)), .own 3 5 (T.rows st.2.1), .d (.sl 1 [] true), .d (.val (.int .i64 t.at_))], .acc 5 st.2.1.length]) (fun st => st.1) (rounds, [], t :: s)
      ⟨⟨h, t, s, rfl⟩, by unfold rounds; simp only; omega, by simpa using hle, hR⟩ (fun _ => rfl) ⟨⟨.refl _, .refl _, .refl _, trivial⟩, ?_, rfl, rfl⟩ ?_
    · simp only [T.rows_nil]
      exact BxLe.refl _
    clear hR hle
    rintro ⟨n, ks, s'⟩ ⟨⟨hs, u, r', rfl⟩, hlen, hks, hR⟩
    simp only at hlen hks hR
    obtain ⟨m, rfl⟩ : ∃ m, n = m + 1 := ⟨n - 1, by simp at hlen; omega⟩
    simp only [faceL] at hR
    repeat (first
      | refine AW.seq ?_
      | refine AW.reg ?_
      | refine Reg.opS tab_ok (hint := []) rfl rfl rfl rfl rfl trivial ?_
      | refine Reg.opN tab_ok (hint := []) rfl rfl rfl rfl trivial ?_
      | refine Reg.nil ?_
      | refine thenA_normal ?_
      | refine AW.condT rfl ?_
      | refine AW.condF rfl ?_
      | refine AW.skip ?_
      | refine AW.block ?_
      | refine AW.exit ?_
      | refine AW.ret ?_
      | refine thenA_exit ?_
      | refine thenA_ret ?_
      | refine blockA_normal ?_
      | refine blockA_hit ?_
      | refine blockA_miss rfl ?_
      | refine blockA_ret ?_
      | refine Reg.panic rfl rfl rfl rfl ?_
      | refine thenA_panic ?_
      | refine blockA_panic ?_)
    refine Reg.call tab_ok [0] (now_any hs) callable27 rfl (.inl rfl) rfl rfl rfl (by decide) rfl rfl ?_
    rintro out bx1 ⟨rfl, rfl⟩
    refine after1 rfl rfl rfl rfl rfl ?_
    repeat (first
      | refine AW.seq ?_
      | refine AW.reg ?_
      | refine Reg.opS tab_ok (hint := []) rfl rfl rfl rfl rfl trivial ?_
      | refine Reg.opN tab_ok (hint := []) rfl rfl rfl rfl trivial ?_
      | refine Reg.nil ?_
      | refine thenA_normal ?_
      | refine AW.condT rfl ?_
      | refine AW.condF rfl ?_
      | refine AW.skip ?_
      | refine AW.block ?_
      | refine AW.exit ?_
      | refine AW.ret ?_
      | refine thenA_exit ?_
      | refine thenA_ret ?_
      | refine blockA_normal ?_
      | refine blockA_hit ?_
      | refine blockA_miss rfl ?_
      | refine blockA_ret ?_
      | refine Reg.panic rfl rfl rfl rfl ?_
      | refine thenA_panic ?_
      | refine blockA_panic ?_)
    refine Reg.call tab_ok [0] (want_any (bs [40]) hs) callable50 rfl (.inl rfl) rfl rfl rfl (by decide) rfl rfl ?_
    intro out bx1 ho
    rcases hn1 : wantP (bs [40]) (u :: r') with ⟨x0, r0⟩ | ⟨p, e⟩
    rotate_left
    · rw [hn1] at ho
      simp only [hn1, PR.err_bind] at hR
      obtain ⟨rfl, s0, rfl⟩ := ho
      refine after1p rfl rfl rfl ?_
      repeat (first
        | refine AW.seq ?_
        | refine AW.reg ?_
        | refine Reg.opS tab_ok (hint := []) rfl rfl rfl rfl rfl trivial ?_
        | refine Reg.opN tab_ok (hint := []) rfl rfl rfl rfl trivial ?_
        | refine Reg.nil ?_
        | refine thenA_normal ?_
        | refine AW.condT rfl ?_
        | refine AW.condF rfl ?_
        | refine AW.skip ?_
        | refine AW.block ?_
        | refine AW.exit ?_
        | refine AW.ret ?_
        | refine thenA_exit ?_
        | refine thenA_ret ?_
        | refine blockA_normal ?_
        | refine blockA_hit ?_
        | refine blockA_miss rfl ?_
        | refine blockA_ret ?_
        | refine Reg.panic rfl rfl rfl rfl ?_
        | refine thenA_panic ?_
        | refine blockA_panic ?_)
      subst hR
      exact ⟨rfl, rfl, _, rfl⟩
    rw [hn1] at ho
    simp only [hn1, PR.ok_bind] at hR
    obtain ⟨⟨rfl, rfl⟩, hs1, u1, r1, rfl⟩ := ho
    refine after1 rfl rfl rfl rfl rfl ?_
    repeat (first
      | refine AW.seq ?_
      | refine AW.reg ?_
      | refine Reg.opS tab_ok (hint := []) rfl rfl rfl rfl rfl trivial ?_
      | refine Reg.opN tab_ok (hint := []) rfl rfl rfl rfl trivial ?_
      | refine Reg.nil ?_
      | refine thenA_normal ?_
      | refine AW.condT rfl ?_
      | refine AW.condF rfl ?_
      | refine AW.skip ?_
      | refine AW.block ?_
      | refine AW.exit ?_
      | refine AW.ret ?_
      | refine thenA_exit ?_
      | refine thenA_ret ?_
      | refine blockA_normal ?_
      | refine blockA_hit ?_
      | refine blockA_miss rfl ?_
      | refine blockA_ret ?_
      | refine Reg.panic rfl rfl rfl rfl ?_
      | refine thenA_panic ?_
      | refine blockA_panic ?_)
    refine Reg.call tab_ok [0] (name_any hs1) callable57 rfl (.inl rfl) rfl rfl rfl (by decide) rfl rfl ?_
    intro out bx1 ho
    rcases hn2 : nameP (u1 :: r1) with ⟨x, r0⟩ | ⟨p, e⟩
    rotate_left
    · rw [hn2] at ho
      simp only [hn2, PR.err_bind] at hR
      obtain ⟨rfl, s0, rfl⟩ := ho
      refine after1p rfl rfl rfl ?_
      repeat (first
        | refine AW.seq ?_
        | refine AW.reg ?_
        | refine Reg.opS tab_ok (hint := []) rfl rfl rfl rfl rfl trivial ?_
        | refine Reg.opN tab_ok (hint := []) rfl rfl rfl rfl trivial ?_
        | refine Reg.nil ?_
        | refine thenA_normal ?_
        | refine AW.condT rfl ?_
        | refine AW.condF rfl ?_
        | refine AW.skip ?_
        | refine AW.block ?_
        | refine AW.exit ?_
        | refine AW.ret ?_
        | refine thenA_exit ?_
        | refine thenA_ret ?_
        | refine blockA_normal ?_
        | refine blockA_hit ?_
        | refine blockA_miss rfl ?_
        | refine blockA_ret ?_
        | refine Reg.panic rfl rfl rfl rfl ?_
        | refine thenA_panic ?_
        | refine blockA_panic ?_)
      subst hR
      exact ⟨rfl, rfl, _, rfl⟩
    rw [hn2] at ho
    simp only [hn2, PR.ok_bind] at hR
    obtain ⟨⟨rfl, rfl⟩, hs2, u2, r2, rfl⟩ := ho
    refine after1 rfl rfl rfl rfl rfl ?_
    repeat (first
      | refine AW.seq ?_
      | refine AW.reg ?_
      | refine Reg.opS tab_ok (hint := []) rfl rfl rfl rfl rfl trivial ?_
      | refine Reg.opN tab_ok (hint := []) rfl rfl rfl rfl trivial ?_
      | refine Reg.nil ?_
      | refine thenA_normal ?_
      | refine AW.condT rfl ?_
      | refine AW.condF rfl ?_
      | refine AW.skip ?_
      | refine AW.block ?_
      | refine AW.exit ?_
      | refine AW.ret ?_
      | refine thenA_exit ?_
      | refine thenA_ret ?_
      | refine blockA_normal ?_
      | refine blockA_hit ?_
      | refine blockA_miss rfl ?_
      | refine blockA_ret ?_
      | refine Reg.panic rfl rfl rfl rfl ?_
      | refine thenA_panic ?_
      | refine blockA_panic ?_)
    refine Reg.call tab_ok [0] (want_any (bs [61]) hs2) callable50 rfl (.inl rfl) rfl rfl rfl (by decide) rfl rfl ?_
    intro out bx1 ho
    rcases hn3 : wantP (bs [61]) (u2 :: r2) with ⟨x0, r0⟩ | ⟨p, e⟩
    rotate_left
    · rw [hn3] at ho
      simp only [hn3, PR.err_bind] at hR
      obtain ⟨rfl, s0, rfl⟩ := ho
      refine after1p rfl rfl rfl ?_
      repeat (first
        | refine AW.seq ?_
        | refine AW.reg ?_
        | refine Reg.opS tab_ok (hint := []) rfl rfl rfl rfl rfl trivial ?_
        | refine Reg.opN tab_ok (hint := []) rfl rfl rfl rfl trivial ?_
        | refine Reg.nil ?_
        | refine thenA_normal ?_
        | refine AW.condT rfl ?_
        | refine AW.condF rfl ?_
        | refine AW.skip ?_
        | refine AW.block ?_
        | refine AW.exit ?_
        | refine AW.ret ?_
        | refine thenA_exit ?_
        | refine thenA_ret ?_
        | refine blockA_normal ?_
        | refine blockA_hit ?_
        | refine blockA_miss rfl ?_
        | refine blockA_ret ?_
        | refine Reg.panic rfl rfl rfl rfl ?_
        | refine thenA_panic ?_
        | refine blockA_panic ?_)
      subst hR
      exact ⟨rfl, rfl, _, rfl⟩
    rw [hn3] at ho
    simp only [hn3, PR.ok_bind] at hR
    obtain ⟨⟨rfl, rfl⟩, hs3, u3, r3, rfl⟩ := ho
    refine after1 rfl rfl rfl rfl rfl ?_
    repeat (first
      | refine AW.seq ?_
      | refine AW.reg ?_
      | refine Reg.opS tab_ok (hint := []) rfl rfl rfl rfl rfl trivial ?_
      | refine Reg.opN tab_ok (hint := []) rfl rfl rfl rfl trivial ?_
      | refine Reg.nil ?_
      | refine thenA_normal ?_
      | refine AW.condT rfl ?_
      | refine AW.condF rfl ?_
      | refine AW.skip ?_
      | refine AW.block ?_
      | refine AW.exit ?_
      | refine AW.ret ?_
      | refine thenA_exit ?_
      | refine thenA_ret ?_
      | refine blockA_normal ?_
      | refine blockA_hit ?_
      | refine blockA_miss rfl ?_
      | refine blockA_ret ?_
      | refine Reg.panic rfl rfl rfl rfl ?_
      | refine thenA_panic ?_
      | refine blockA_panic ?_)
    refine Reg.call tab_ok [0] (sees_any (bs [48]) hs3) callable48 rfl (.inl rfl) rfl rfl rfl (by decide) rfl rfl ?_
    rintro out bx1 ⟨rfl, rfl⟩
    refine after1 rfl rfl rfl rfl rfl ?_
    repeat (first
      | refine AW.seq ?_
      | refine AW.reg ?_
      | refine Reg.opS tab_ok (hint := []) rfl rfl rfl rfl rfl trivial ?_
      | refine Reg.opN tab_ok (hint := []) rfl rfl rfl rfl trivial ?_
      | refine Reg.nil ?_
      | refine thenA_normal ?_
      | refine AW.condT rfl ?_
      | refine AW.condF rfl ?_
      | refine AW.skip ?_
      | refine AW.block ?_
      | refine AW.exit ?_
      | refine AW.ret ?_
      | refine thenA_exit ?_
      | refine thenA_ret ?_
      | refine blockA_normal ?_
      | refine blockA_hit ?_
      | refine blockA_miss rfl ?_
      | refine blockA_ret ?_
      | refine Reg.panic rfl rfl rfl rfl ?_
      | refine thenA_panic ?_
      | refine blockA_panic ?_)
    cases h0 : seesB (bs [48]) (u3 :: r3) with
    | true =>
      simp only [h0, Bool.true_or, if_true] at hR
      iterate 3 refine Reg.ifN rfl rfl rfl rfl rfl rfl rfl rfl ?_
      repeat (first
        | refine AW.seq ?_
        | refine AW.reg ?_
        | refine Reg.opS tab_ok (hint := []) rfl rfl rfl rfl rfl trivial ?_
        | refine Reg.opN tab_ok (hint := []) rfl rfl rfl rfl trivial ?_
        | refine Reg.nil ?_
        | refine thenA_normal ?_
        | refine AW.condT rfl ?_
        | refine AW.condF rfl ?_
        | refine AW.skip ?_
        | refine AW.block ?_
        | refine AW.exit ?_
        | refine AW.ret ?_
        | refine thenA_exit ?_
        | refine thenA_ret ?_
        | refine blockA_normal ?_
        | refine blockA_hit ?_
        | refine blockA_miss rfl ?_
        | refine blockA_ret ?_
        | refine Reg.panic rfl rfl rfl rfl ?_
        | refine thenA_panic ?_
        | refine blockA_panic ?_)
      obtain ⟨hs4, v, r4, rfl⟩ := hs3.live (sees_kind h0)
      refine Reg.call tab_ok [0] (take_any hs3) callable52 rfl (.inl rfl) rfl rfl rfl (by decide) rfl rfl ?_
      rintro out bx1 ⟨rfl, rfl⟩
      refine after1 rfl rfl rfl rfl rfl ?_
      repeat (first
        | refine AW.seq ?_
        | refine AW.reg ?_
        | refine Reg.opS tab_ok (hint := []) rfl rfl rfl rfl rfl trivial ?_
        | refine Reg.opN tab_ok (hint := []) rfl rfl rfl rfl trivial ?_
        | refine Reg.nil ?_
        | refine thenA_normal ?_
        | refine AW.condT rfl ?_
        | refine AW.condF rfl ?_
        | refine AW.skip ?_
        | refine AW.block ?_
        | refine AW.exit ?_
        | refine AW.ret ?_
        | refine thenA_exit ?_
        | refine thenA_ret ?_
        | refine blockA_normal ?_
        | refine blockA_hit ?_
        | refine blockA_miss rfl ?_
        | refine blockA_ret ?_
        | refine Reg.panic rfl rfl rfl rfl ?_
        | refine thenA_panic ?_
        | refine blockA_panic ?_)
      refine Reg.call tab_ok [0] (want_any (bs [41]) hs4) callable50 rfl (.inl rfl) rfl rfl rfl (by decide) rfl rfl ?_
      intro out bx1 ho
      rcases hn4 : wantP (bs [41]) (v :: r4) with ⟨x0, r0⟩ | ⟨p, e⟩
      rotate_left
      · rw [hn4] at ho
        simp only [hn4, PR.err_bind] at hR
        obtain ⟨rfl, s0, rfl⟩ := ho
        refine after1p rfl rfl rfl ?_
        repeat (first
          | refine AW.seq ?_
          | refine AW.reg ?_
          | refine Reg.opS tab_ok (hint := []) rfl rfl rfl rfl rfl trivial ?_
          | refine Reg.opN tab_ok (hint := []) rfl rfl rfl rfl trivial ?_
          | refine Reg.nil ?_
          | refine thenA_normal ?_
          | refine AW.condT rfl ?_
          | refine AW.condF rfl ?_
          | refine AW.skip ?_
          | refine AW.block ?_
          | refine AW.exit ?_
          | refine AW.ret ?_
          | refine thenA_exit ?_
          | refine thenA_ret ?_
          | refine blockA_normal ?_
          | refine blockA_hit ?_
          | refine blockA_miss rfl ?_
          | refine blockA_ret ?_
          | refine Reg.panic rfl rfl rfl rfl ?_
          | refine thenA_panic ?_
          | refine blockA_panic ?_)
        subst hR
        exact ⟨rfl, rfl, _, rfl⟩
      rw [hn4] at ho
      simp only [hn4, PR.ok_bind] at hR
      obtain ⟨⟨rfl, rfl⟩, hs5, u5, r5, rfl⟩ := ho
      refine after1 rfl rfl rfl rfl rfl ?_
      refine Reg.nil ?_
      refine thenA_normal ?_
      refine AW.le (fr' := [(0, .ptr 0 0), (2, .ptr 1 0), (3, .ptr 2 0), (5, .ptr 4 0)]) (bx' := [rd toks f (u5 :: r5), tB0, .cells [.d (.val (.int .i64 12)), .d (.val (.string ⟨#[]⟩)), .own 3 5 (T.rows ks), .d (.sl 1 [] true), .d (.val (.int .i64 t.at_))], .acc 5 ks.length, tB (.mk 13 x [] [u3.text] u.at_)])
        ⟨⟨.refl _, .refl _, .refl _, .refl _, trivial⟩, ⟨SLes.refl _, SLes.refl _, SLes.refl _, ⟨rfl, rfl⟩, tB_le T.rows_nil.symm rfl trivial⟩, rfl, rfl⟩ (Nat.le_refl _) ?_
      repeat (first
        | refine AW.seq ?_
        | refine AW.reg ?_
        | refine Reg.opS tab_ok (hint := []) rfl rfl rfl rfl rfl trivial ?_
        | refine Reg.opN tab_ok (hint := []) rfl rfl rfl rfl trivial ?_
        | refine Reg.nil ?_
        | refine thenA_normal ?_
        | refine AW.condT rfl ?_
        | refine AW.condF rfl ?_
        | refine AW.skip ?_
        | refine AW.block ?_
        | refine AW.exit ?_
        | refine AW.ret ?_
        | refine thenA_exit ?_
        | refine thenA_ret ?_
        | refine blockA_normal ?_
        | refine blockA_hit ?_
        | refine blockA_miss rfl ?_
        | refine blockA_ret ?_
        | refine Reg.panic rfl rfl rfl rfl ?_
        | refine thenA_panic ?_
        | refine blockA_panic ?_)
      refine Reg.append tab_ok rfl rfl rfl rfl rfl rfl rfl rfl rfl ?_ rfl rfl ?_ ?_ ?_ ?_
      · rw [T.rows_len]
        rfl
      · simp
        exact ⟨rfl, rfl, rfl, rfl, rfl⟩
      · rw [T.rows_len]
        have := hs.le
        simp
        omega
      · rw [T.rows_len]
        have := hs.le
        simp
        omega
      repeat (first
        | refine AW.seq ?_
        | refine AW.reg ?_
        | refine Reg.opS tab_ok (hint := []) rfl rfl rfl rfl rfl trivial ?_
        | refine Reg.opN tab_ok (hint := []) rfl rfl rfl rfl trivial ?_
        | refine Reg.nil ?_
        | refine thenA_normal ?_
        | refine AW.condT rfl ?_
        | refine AW.condF rfl ?_
        | refine AW.skip ?_
        | refine AW.block ?_
        | refine AW.exit ?_
        | refine AW.ret ?_
        | refine thenA_exit ?_
        | refine thenA_ret ?_
        | refine blockA_normal ?_
        | refine blockA_hit ?_
        | refine blockA_miss rfl ?_
        | refine blockA_ret ?_
        | refine Reg.panic rfl rfl rfl rfl ?_
        | refine thenA_panic ?_
        | refine blockA_panic ?_)
      refine Reg.call tab_ok [0] (sees_any (bs [40]) hs5) callable48 rfl (.inl rfl) rfl rfl rfl (by decide) rfl rfl ?_
      rintro out bx1 ⟨rfl, rfl⟩
      refine after1 rfl rfl rfl rfl rfl ?_
      repeat (first
        | refine AW.seq ?_
        | refine AW.reg ?_
        | refine Reg.opS tab_ok (hint := []) rfl rfl rfl rfl rfl trivial ?_
        | refine Reg.opN tab_ok (hint := []) rfl rfl rfl rfl trivial ?_
        | refine Reg.nil ?_
        | refine thenA_normal ?_
        | refine AW.condT rfl ?_
        | refine AW.condF rfl ?_
        | refine AW.skip ?_
        | refine AW.block ?_
        | refine AW.exit ?_
        | refine AW.ret ?_
        | refine thenA_exit ?_
        | refine thenA_ret ?_
        | refine blockA_normal ?_
        | refine blockA_hit ?_
        | refine blockA_miss rfl ?_
        | refine blockA_ret ?_
        | refine Reg.panic rfl rfl rfl rfl ?_
        | refine thenA_panic ?_
        | refine blockA_panic ?_)
      cases hb : seesB (bs [40]) (u5 :: r5) with
      | false =>
        simp only [hb, Bool.false_eq_true, if_false, PR.ok_bind] at hR
        refine AW.condT rfl ?_
        refine AW.le (fr' := [(0, .ptr 0 0), (2, .ptr 1 0), (3, .ptr 2 0)]) (bx' := [rd toks f (u5 :: r5), tB0, tB (T.mk 12 (bs []) (ks ++ [T.mk 13 x [] [u3.text] u.at_]) [] t.at_), .acc 5 (T.rows ks ++ [tC (.mk 13 x [] [u3.text] u.at_)]).length, tB (.mk 13 x [] [u3.text] u.at_)])
          ⟨⟨.refl _, .refl _, .refl _, trivial⟩, ⟨SLes.refl _, SLes.refl _, ⟨.refl _, .refl _, ownSnoc 3 ks (.mk 13 x [] [u3.text] u.at_), .full .., .refl _, trivial⟩, ⟨rfl, by simp⟩, SLes.refl _, trivial⟩, rfl, rfl⟩ (Nat.le_refl _) ?_
        repeat (first
          | refine AW.seq ?_
          | refine AW.reg ?_
          | refine Reg.opS tab_ok (hint := []) rfl rfl rfl rfl rfl trivial ?_
          | refine Reg.opN tab_ok (hint := []) rfl rfl rfl rfl trivial ?_
          | refine Reg.nil ?_
          | refine thenA_normal ?_
          | refine AW.condT rfl ?_
          | refine AW.condF rfl ?_
          | refine AW.skip ?_
          | refine AW.block ?_
          | refine AW.exit ?_
          | refine AW.ret ?_
          | refine thenA_exit ?_
          | refine thenA_ret ?_
          | refine blockA_normal ?_
          | refine blockA_hit ?_
          | refine blockA_miss rfl ?_
          | refine blockA_ret ?_
          | refine Reg.panic rfl rfl rfl rfl ?_
          | refine thenA_panic ?_
          | refine blockA_panic ?_)
        subst hR
        exact ⟨_, rfl, rfl, rfl, ⟨⟨_, rfl, .refl _⟩, rfl⟩, hs5, u5, r5, rfl⟩
      | true =>
        simp only [hb, if_true] at hR
        repeat (first
          | refine AW.seq ?_
          | refine AW.reg ?_
          | refine Reg.opS tab_ok (hint := []) rfl rfl rfl rfl rfl trivial ?_
          | refine Reg.opN tab_ok (hint := []) rfl rfl rfl rfl trivial ?_
          | refine Reg.nil ?_
          | refine thenA_normal ?_
          | refine AW.condT rfl ?_
          | refine AW.condF rfl ?_
          | refine AW.skip ?_
          | refine AW.block ?_
          | refine AW.exit ?_
          | refine AW.ret ?_
          | refine thenA_exit ?_
          | refine thenA_ret ?_
          | refine blockA_normal ?_
          | refine blockA_hit ?_
          | refine blockA_miss rfl ?_
          | refine blockA_ret ?_
          | refine Reg.panic rfl rfl rfl rfl ?_
          | refine thenA_panic ?_
          | refine blockA_panic ?_)
        refine ⟨(m, ks ++ [.mk 13 x [] [u3.text] u.at_], u5 :: r5), ⟨⟨hs5, u5, r5, rfl⟩, ?_, ?_, hR⟩, ?_, ?_⟩
        · have g1 := wantP_short _ _ _ _ hn1
          have g2 := nameP_short _ _ _ hn2
          have g3 := wantP_short _ _ _ _ hn3
          have g4 := wantP_short _ _ _ _ hn4
          simp only [List.length_cons] at g1 g2 g3 g4 hlen ⊢
          omega
        · have g1 := wantP_short _ _ _ _ hn1
          have g2 := nameP_short _ _ _ hn2
          have g3 := wantP_short _ _ _ _ hn3
          have g4 := wantP_short _ _ _ _ hn4
          simp only [List.length_cons, List.length_append, List.length_nil] at g1 g2 g3 g4 hks ⊢
          omega
        · simp
        · exact ⟨⟨.refl _, .refl _, .refl _, trivial⟩, ⟨SLes.refl _, SLes.refl _, ⟨.refl _, .refl _, ownSnoc' 3 ks (.mk 13 x [] [u3.text] u.at_), .refl _, .refl _, trivial⟩, ⟨rfl, by simp [T.rows_len]⟩, trivial⟩, rfl, rfl⟩
    | false =>
      iterate 1 refine Reg.ifS tab_ok (hint := []) rfl rfl rfl rfl rfl rfl rfl rfl rfl trivial ?_
      refine Reg.call tab_ok [0] (sees_any (bs [49]) hs3) callable48 rfl (.inr ⟨_, _, _, _, _, rfl, rfl, rfl, rfl, rfl⟩) rfl rfl rfl (by decide) rfl rfl ?_
      rintro out bx1 ⟨rfl, rfl⟩
      refine after1 rfl rfl rfl rfl rfl ?_
      iterate 1 refine Reg.ifS tab_ok (hint := []) rfl rfl rfl rfl rfl rfl rfl rfl rfl trivial ?_
      repeat (first
        | refine AW.seq ?_
        | refine AW.reg ?_
        | refine Reg.opS tab_ok (hint := []) rfl rfl rfl rfl rfl trivial ?_
        | refine Reg.opN tab_ok (hint := []) rfl rfl rfl rfl trivial ?_
        | refine Reg.nil ?_
        | refine thenA_normal ?_
        | refine AW.condT rfl ?_
        | refine AW.condF rfl ?_
        | refine AW.skip ?_
        | refine AW.block ?_
        | refine AW.exit ?_
        | refine AW.ret ?_
        | refine thenA_exit ?_
        | refine thenA_ret ?_
        | refine blockA_normal ?_
        | refine blockA_hit ?_
        | refine blockA_miss rfl ?_
        | refine blockA_ret ?_
        | refine Reg.panic rfl rfl rfl rfl ?_
        | refine thenA_panic ?_
        | refine blockA_panic ?_)
      cases h2 : seesB (bs [49]) (u3 :: r3) with
      | true =>
        simp only [h0, h2, Bool.or_true, if_true] at hR
        repeat (first
          | refine AW.seq ?_
          | refine AW.reg ?_
          | refine Reg.opS tab_ok (hint := []) rfl rfl rfl rfl rfl trivial ?_
          | refine Reg.opN tab_ok (hint := []) rfl rfl rfl rfl trivial ?_
          | refine Reg.nil ?_
          | refine thenA_normal ?_
          | refine AW.condT rfl ?_
          | refine AW.condF rfl ?_
          | refine AW.skip ?_
          | refine AW.block ?_
          | refine AW.exit ?_
          | refine AW.ret ?_
          | refine thenA_exit ?_
          | refine thenA_ret ?_
          | refine blockA_normal ?_
          | refine blockA_hit ?_
          | refine blockA_miss rfl ?_
          | refine blockA_ret ?_
          | refine Reg.panic rfl rfl rfl rfl ?_
          | refine thenA_panic ?_
          | refine blockA_panic ?_)
        obtain ⟨hs4, v, r4, rfl⟩ := hs3.live (sees_kind h2)
        refine Reg.call tab_ok [0] (take_any hs3) callable52 rfl (.inl rfl) rfl rfl rfl (by decide) rfl rfl ?_
        rintro out bx1 ⟨rfl, rfl⟩
        refine after1 rfl rfl rfl rfl rfl ?_
        repeat (first
          | refine AW.seq ?_
          | refine AW.reg ?_
          | refine Reg.opS tab_ok (hint := []) rfl rfl rfl rfl rfl trivial ?_
          | refine Reg.opN tab_ok (hint := []) rfl rfl rfl rfl trivial ?_
          | refine Reg.nil ?_
          | refine thenA_normal ?_
          | refine AW.condT rfl ?_
          | refine AW.condF rfl ?_
          | refine AW.skip ?_
          | refine AW.block ?_
          | refine AW.exit ?_
          | refine AW.ret ?_
          | refine thenA_exit ?_
          | refine thenA_ret ?_
          | refine blockA_normal ?_
          | refine blockA_hit ?_
          | refine blockA_miss rfl ?_
          | refine blockA_ret ?_
          | refine Reg.panic rfl rfl rfl rfl ?_
          | refine thenA_panic ?_
          | refine blockA_panic ?_)
        refine Reg.call tab_ok [0] (want_any (bs [41]) hs4) callable50 rfl (.inl rfl) rfl rfl rfl (by decide) rfl rfl ?_
        intro out bx1 ho
        rcases hn4 : wantP (bs [41]) (v :: r4) with ⟨x0, r0⟩ | ⟨p, e⟩
        rotate_left
        · rw [hn4] at ho
          simp only [hn4, PR.err_bind] at hR
          obtain ⟨rfl, s0, rfl⟩ := ho
          refine after1p rfl rfl rfl ?_
          repeat (first
            | refine AW.seq ?_
            | refine AW.reg ?_
            | refine Reg.opS tab_ok (hint := []) rfl rfl rfl rfl rfl trivial ?_
            | refine Reg.opN tab_ok (hint := []) rfl rfl rfl rfl trivial ?_
            | refine Reg.nil ?_
            | refine thenA_normal ?_
            | refine AW.condT rfl ?_
            | refine AW.condF rfl ?_
            | refine AW.skip ?_
            | refine AW.block ?_
            | refine AW.exit ?_
            | refine AW.ret ?_
            | refine thenA_exit ?_
            | refine thenA_ret ?_
            | refine blockA_normal ?_
            | refine blockA_hit ?_
            | refine blockA_miss rfl ?_
            | refine blockA_ret ?_
            | refine Reg.panic rfl rfl rfl rfl ?_
            | refine thenA_panic ?_
            | refine blockA_panic ?_)
          subst hR
          exact ⟨rfl, rfl, _, rfl⟩
        rw [hn4] at ho
        simp only [hn4, PR.ok_bind] at hR
        obtain ⟨⟨rfl, rfl⟩, hs5, u5, r5, rfl⟩ := ho
        refine after1 rfl rfl rfl rfl rfl ?_
        refine Reg.nil ?_
        refine thenA_normal ?_
        refine AW.le (fr' := [(0, .ptr 0 0), (2, .ptr 1 0), (3, .ptr 2 0), (5, .ptr 4 0)]) (bx' := [rd toks f (u5 :: r5), tB0, .cells [.d (.val (.int .i64 12)), .d (.val (.string ⟨#[]⟩)), .own 3 5 (T.rows ks), .d (.sl 1 [] true), .d (.val (.int .i64 t.at_))], .acc 5 ks.length, tB (.mk 13 x [] [u3.text] u.at_)])
          ⟨⟨.refl _, .refl _, .refl _, .refl _, trivial⟩, ⟨SLes.refl _, SLes.refl _, SLes.refl _, ⟨rfl, rfl⟩, tB_le T.rows_nil.symm rfl trivial⟩, rfl, rfl⟩ (Nat.le_refl _) ?_
        repeat (first
          | refine AW.seq ?_
          | refine AW.reg ?_
          | refine Reg.opS tab_ok (hint := []) rfl rfl rfl rfl rfl trivial ?_
          | refine Reg.opN tab_ok (hint := []) rfl rfl rfl rfl trivial ?_
          | refine Reg.nil ?_
          | refine thenA_normal ?_
          | refine AW.condT rfl ?_
          | refine AW.condF rfl ?_
          | refine AW.skip ?_
          | refine AW.block ?_
          | refine AW.exit ?_
          | refine AW.ret ?_
          | refine thenA_exit ?_
          | refine thenA_ret ?_
          | refine blockA_normal ?_
          | refine blockA_hit ?_
          | refine blockA_miss rfl ?_
          | refine blockA_ret ?_
          | refine Reg.panic rfl rfl rfl rfl ?_
          | refine thenA_panic ?_
          | refine blockA_panic ?_)
        refine Reg.append tab_ok rfl rfl rfl rfl rfl rfl rfl rfl rfl ?_ rfl rfl ?_ ?_ ?_ ?_
        · rw [T.rows_len]
          rfl
        · simp
          exact ⟨rfl, rfl, rfl, rfl, rfl⟩
        · rw [T.rows_len]
          have := hs.le
          simp
          omega
        · rw [T.rows_len]
          have := hs.le
          simp
          omega
        repeat (first
          | refine AW.seq ?_
          | refine AW.reg ?_
          | refine Reg.opS tab_ok (hint := []) rfl rfl rfl rfl rfl trivial ?_
          | refine Reg.opN tab_ok (hint := []) rfl rfl rfl rfl trivial ?_
          | refine Reg.nil ?_
          | refine thenA_normal ?_
          | refine AW.condT rfl ?_
          | refine AW.condF rfl ?_
          | refine AW.skip ?_
          | refine AW.block ?_
          | refine AW.exit ?_
          | refine AW.ret ?_
          | refine thenA_exit ?_
          | refine thenA_ret ?_
          | refine blockA_normal ?_
          | refine blockA_hit ?_
          | refine blockA_miss rfl ?_
          | refine blockA_ret ?_
          | refine Reg.panic rfl rfl rfl rfl ?_
          | refine thenA_panic ?_
          | refine blockA_panic ?_)
        refine Reg.call tab_ok [0] (sees_any (bs [40]) hs5) callable48 rfl (.inl rfl) rfl rfl rfl (by decide) rfl rfl ?_
        rintro out bx1 ⟨rfl, rfl⟩
        refine after1 rfl rfl rfl rfl rfl ?_
        repeat (first
          | refine AW.seq ?_
          | refine AW.reg ?_
          | refine Reg.opS tab_ok (hint := []) rfl rfl rfl rfl rfl trivial ?_
          | refine Reg.opN tab_ok (hint := []) rfl rfl rfl rfl trivial ?_
          | refine Reg.nil ?_
          | refine thenA_normal ?_
          | refine AW.condT rfl ?_
          | refine AW.condF rfl ?_
          | refine AW.skip ?_
          | refine AW.block ?_
          | refine AW.exit ?_
          | refine AW.ret ?_
          | refine thenA_exit ?_
          | refine thenA_ret ?_
          | refine blockA_normal ?_
          | refine blockA_hit ?_
          | refine blockA_miss rfl ?_
          | refine blockA_ret ?_
          | refine Reg.panic rfl rfl rfl rfl ?_
          | refine thenA_panic ?_
          | refine blockA_panic ?_)
        cases hb : seesB (bs [40]) (u5 :: r5) with
        | false =>
          simp only [hb, Bool.false_eq_true, if_false, PR.ok_bind] at hR
          refine AW.condT rfl ?_
          refine AW.le (fr' := [(0, .ptr 0 0), (2, .ptr 1 0), (3, .ptr 2 0)]) (bx' := [rd toks f (u5 :: r5), tB0, tB (T.mk 12 (bs []) (ks ++ [T.mk 13 x [] [u3.text] u.at_]) [] t.at_), .acc 5 (T.rows ks ++ [tC (.mk 13 x [] [u3.text] u.at_)]).length, tB (.mk 13 x [] [u3.text] u.at_)])
            ⟨⟨.refl _, .refl _, .refl _, trivial⟩, ⟨SLes.refl _, SLes.refl _, ⟨.refl _, .refl _, ownSnoc 3 ks (.mk 13 x [] [u3.text] u.at_), .full .., .refl _, trivial⟩, ⟨rfl, by simp⟩, SLes.refl _, trivial⟩, rfl, rfl⟩ (Nat.le_refl _) ?_
          repeat (first
            | refine AW.seq ?_
            | refine AW.reg ?_
            | refine Reg.opS tab_ok (hint := []) rfl rfl rfl rfl rfl trivial ?_
            | refine Reg.opN tab_ok (hint := []) rfl rfl rfl rfl trivial ?_
            | refine Reg.nil ?_
            | refine thenA_normal ?_
            | refine AW.condT rfl ?_
            | refine AW.condF rfl ?_
            | refine AW.skip ?_
            | refine AW.block ?_
            | refine AW.exit ?_
            | refine AW.ret ?_
            | refine thenA_exit ?_
            | refine thenA_ret ?_
            | refine blockA_normal ?_
            | refine blockA_hit ?_
            | refine blockA_miss rfl ?_
            | refine blockA_ret ?_
            | refine Reg.panic rfl rfl rfl rfl ?_
            | refine thenA_panic ?_
            | refine blockA_panic ?_)
          subst hR
          exact ⟨_, rfl, rfl, rfl, ⟨⟨_, rfl, .refl _⟩, rfl⟩, hs5, u5, r5, rfl⟩
        | true =>
          simp only [hb, if_true] at hR
          repeat (first
            | refine AW.seq ?_
            | refine AW.reg ?_
            | refine Reg.opS tab_ok (hint := []) rfl rfl rfl rfl rfl trivial ?_
            | refine Reg.opN tab_ok (hint := []) rfl rfl rfl rfl trivial ?_
            | refine Reg.nil ?_
            | refine thenA_normal ?_
            | refine AW.condT rfl ?_
            | refine AW.condF rfl ?_
            | refine AW.skip ?_
            | refine AW.block ?_
            | refine AW.exit ?_
            | refine AW.ret ?_
            | refine thenA_exit ?_
            | refine thenA_ret ?_
            | refine blockA_normal ?_
            | refine blockA_hit ?_
            | refine blockA_miss rfl ?_
            | refine blockA_ret ?_
            | refine Reg.panic rfl rfl rfl rfl ?_
            | refine thenA_panic ?_
            | refine blockA_panic ?_)
          refine ⟨(m, ks ++ [.mk 13 x [] [u3.text] u.at_], u5 :: r5), ⟨⟨hs5, u5, r5, rfl⟩, ?_, ?_, hR⟩, ?_, ?_⟩
          · have g1 := wantP_short _ _ _ _ hn1
            have g2 := nameP_short _ _ _ hn2
            have g3 := wantP_short _ _ _ _ hn3
            have g4 := wantP_short _ _ _ _ hn4
            simp only [List.length_cons] at g1 g2 g3 g4 hlen ⊢
            omega
          · have g1 := wantP_short _ _ _ _ hn1
            have g2 := nameP_short _ _ _ hn2
            have g3 := wantP_short _ _ _ _ hn3
            have g4 := wantP_short _ _ _ _ hn4
            simp only [List.length_cons, List.length_append, List.length_nil] at g1 g2 g3 g4 hks ⊢
            omega
          · simp
          · exact ⟨⟨.refl _, .refl _, .refl _, trivial⟩, ⟨SLes.refl _, SLes.refl _, ⟨.refl _, .refl _, ownSnoc' 3 ks (.mk 13 x [] [u3.text] u.at_), .refl _, .refl _, trivial⟩, ⟨rfl, by simp [T.rows_len]⟩, trivial⟩, rfl, rfl⟩
      | false =>
        simp only [h0, h2, Bool.or_false, Bool.false_eq_true, if_false, failP, PR.err_bind] at hR
        repeat (first
          | refine AW.seq ?_
          | refine AW.reg ?_
          | refine Reg.opS tab_ok (hint := []) rfl rfl rfl rfl rfl trivial ?_
          | refine Reg.opN tab_ok (hint := []) rfl rfl rfl rfl trivial ?_
          | refine Reg.nil ?_
          | refine thenA_normal ?_
          | refine AW.condT rfl ?_
          | refine AW.condF rfl ?_
          | refine AW.skip ?_
          | refine AW.block ?_
          | refine AW.exit ?_
          | refine AW.ret ?_
          | refine thenA_exit ?_
          | refine thenA_ret ?_
          | refine blockA_normal ?_
          | refine blockA_hit ?_
          | refine blockA_miss rfl ?_
          | refine blockA_ret ?_
          | refine Reg.panic rfl rfl rfl rfl ?_
          | refine thenA_panic ?_
          | refine blockA_panic ?_)
        refine Reg.call tab_ok [0] (fail_any 61 hs3) callable46 rfl (.inl rfl) rfl rfl rfl (by decide) rfl rfl ?_
        rintro out bx1 ⟨rfl, rfl⟩
        refine after1p rfl rfl rfl ?_
        repeat (first
          | refine AW.seq ?_
          | refine AW.reg ?_
          | refine Reg.opS tab_ok (hint := []) rfl rfl rfl rfl rfl trivial ?_
          | refine Reg.opN tab_ok (hint := []) rfl rfl rfl rfl trivial ?_
          | refine Reg.nil ?_
          | refine thenA_normal ?_
          | refine AW.condT rfl ?_
          | refine AW.condF rfl ?_
          | refine AW.skip ?_
          | refine AW.block ?_
          | refine AW.exit ?_
          | refine AW.ret ?_
          | refine thenA_exit ?_
          | refine thenA_ret ?_
          | refine blockA_normal ?_
          | refine blockA_hit ?_
          | refine blockA_miss rfl ?_
          | refine blockA_ret ?_
          | refine Reg.panic rfl rfl rfl rfl ?_
          | refine thenA_panic ?_
          | refine blockA_panic ?_)
        subst hR
        exact ⟨rfl, rfl, _, rfl⟩

theorem callable102 : Callable Tryd.prog 102 := ⟨_, Tryd.func102, rfl, rfl⟩

end Go.Proofs.YtamkldohfhidiaaDoor
