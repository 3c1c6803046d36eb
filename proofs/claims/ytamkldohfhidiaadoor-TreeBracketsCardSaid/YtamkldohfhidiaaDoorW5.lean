import Derived.Test.YtamkldohfhidiaaDoorW4
import Derived.Test.YtamkldohfhidiaaDoorAbs3
namespace Go.Proofs.YtamkldohfhidiaaDoor
open Go Go.Abs

variable {G : Glob} {toks s : List Tok} {f : Bool} {t : Tok}

def TermOk (G : Glob) (d : Nat) : Prop := ∀ (l : Int) (toks : List Tok) (f : Bool) (t : Tok) (s : List Tok), l + d = 201 → 1 ≤ l → Suf toks (t :: s) →
  ACalls Tryd.prog G 25 [.ptr 0 0, .d (.val (.int .i64 l))] [rd toks f (t :: s)] (PRout toks f treeV (termP d (t :: s)))

theorem callable25 : Callable Tryd.prog 25 := ⟨_, Tryd.func25, rfl, rfl⟩
theorem callable54 : Callable Tryd.prog 54 := ⟨_, Tryd.func54, rfl, rfl⟩
theorem callable56 : Callable Tryd.prog 56 := ⟨_, Tryd.func56, rfl, rfl⟩
theorem callable81 : Callable Tryd.prog 81 := ⟨_, Tryd.func81, rfl, rfl⟩

theorem ownPair (id : Nat) (e z : T) : SLe (.own id 5 ([tC e] ++ [tC z])) (.d (.sl 5 (T.rows [e, z]) false)) := by
  rw [T.rows_cons, T.rows_cons, T.rows_nil]
  exact .own ..

theorem box_any {d : Nat} (ht : TermOk G d) {l : Int} (hl : l + (d + 1 : Nat) = 201) (hl1 : 1 ≤ l) (h : Suf toks (t :: s)) (hk : t.kind ≠ 0) :
    ACalls Tryd.prog G 81 [.ptr 0 0, .d (.val (.int .i64 l))] [rd toks f (t :: s)] (PRout toks f treeV (boxP (termP d) (t :: s))) := by
  refine PRle.weak ?_
  generalize hR : boxP (termP d) (t :: s) = R
  unfold boxP at hR
  rw [List.tail_cons] at hR
  have hsm := h.small
  have hle := h.le
  have hw : IntKind.i64.wrap (l + 1) = l + 1 := wrap_in (by omega) (by omega)
  refine ACalls.body tab_ok Tryd.func81 rfl rfl ?_
  repeat (first
    | refine AW.seq ?_
    | refine AW.reg ?_
    | refine Reg.opS tab_ok (hint := []) rfl rfl rfl rfl rfl trivial ?_
    | refine Reg.opN tab_ok (hint := []) rfl rfl rfl rfl trivial ?_
    | refine Reg.nil ?_
    | refine thenA_normal ?_
    | refine AW.condT rfl ?_
    | refine AW.condF rfl ?_
    | refine AW.skip ?_
    | refine AW.block ?_
    | refine AW.exit ?_
    | refine AW.ret ?_
    | refine thenA_exit ?_
    | refine thenA_ret ?_
    | refine blockA_normal ?_
    | refine blockA_hit ?_
    | refine blockA_miss rfl ?_
    | refine blockA_ret ?_
    | refine Reg.panic rfl rfl rfl rfl ?_
    | refine thenA_panic ?_
    | refine blockA_panic ?_)
  refine Reg.call tab_ok [0] (take_any h) callable52 rfl (.inl rfl) rfl rfl rfl (by decide) rfl rfl ?_
  rintro out bx1 ⟨rfl, rfl⟩
  refine after1 rfl rfl rfl rfl rfl ?_
  repeat (first
    | refine AW.seq ?_
    | refine AW.reg ?_
    | refine Reg.opS tab_ok (hint := []) rfl rfl rfl rfl rfl trivial ?_
    | refine Reg.opN tab_ok (hint := []) rfl rfl rfl rfl trivial ?_
    | refine Reg.nil ?_
    | refine thenA_normal ?_
    | refine AW.condT rfl ?_
    | refine AW.condF rfl ?_
    | refine AW.skip ?_
    | refine AW.block ?_
    | refine AW.exit ?_
    | refine AW.ret ?_
    | refine thenA_exit ?_
    | refine thenA_ret ?_
    | refine blockA_normal ?_
    | refine blockA_hit ?_
    | refine blockA_miss rfl ?_
    | refine blockA_ret ?_
    | refine Reg.panic rfl rfl rfl rfl ?_
    | refine thenA_panic ?_
    | refine blockA_panic ?_)
  refine Reg.call tab_ok [] (of_any 10 t.at_ [] true) callable55 rfl (.inl rfl) rfl rfl rfl (by decide) rfl rfl ?_
  rintro out bx1 ⟨rfl, rfl⟩
  refine after0 rfl rfl ?_
  repeat (first
    | refine AW.seq ?_
    | refine AW.reg ?_
    | refine Reg.opS tab_ok (hint := []) rfl rfl rfl rfl rfl trivial ?_
    | refine Reg.opN tab_ok (hint := []) rfl rfl rfl rfl trivial ?_
    | refine Reg.nil ?_
    | refine thenA_normal ?_
    | refine AW.condT rfl ?_
    | refine AW.condF rfl ?_
    | refine AW.skip ?_
    | refine AW.block ?_
    | refine AW.exit ?_
    | refine AW.ret ?_
    | refine thenA_exit ?_
    | refine thenA_ret ?_
    | refine blockA_normal ?_
    | refine blockA_hit ?_
    | refine blockA_miss rfl ?_
    | refine blockA_ret ?_
    | refine Reg.panic rfl rfl rfl rfl ?_
    | refine thenA_panic ?_
    | refine blockA_panic ?_)
  refine AW.adoptBox (b := 2) (j := 2) rfl rfl rfl rfl rfl ?_
  refine AW.loop (S := Nat × List T × List Tok) (fun st => Live toks st.2.2 ∧ st.2.2.length < st.1 ∧ st.2.1.length + st.2.2.length ≤ toks.length ∧ (boxL (termP d) st.1 st.2.1 st.2.2).bind (fun ks r => PR.ok (T.mk 10 (bs []) ks [] (atP (t :: s))) r) = R)
    (fun _ => [(0, .ptr 0 0), (1, .d (.val (.int .i64 l))), (4, .ptr 1 0), (5, .ptr 2 0)])
    (fun st => [rd toks f st.2.2, tB0, .cells [.d (.val (.int .i64 10)), .d (.val (.string ⟨#[]⟩)), .own 3 5 (T.rows st.2.1), .d (.sl 1 [] true), .d (.val (.int .i64 t.at_))], .acc 5 st.2.1.length]) (fun st => st.1) (rounds, [], s)
    ⟨h.live hk, by simp only [List.length_cons] at hle; unfold rounds; simp only; omega, by simp only [List.length_cons] at hle; simp only [List.length_nil]; omega, hR⟩ (fun _ => rfl) ⟨⟨.refl _, .refl _, .refl _, .refl _, trivial⟩, ?_, rfl, rfl⟩ ?_
  · simp only [T.rows_nil]
    exact BxLe.refl _
  clear hR hle
  rintro ⟨n, ks, s'⟩ ⟨⟨hs, u, r', rfl⟩, hlen, hks, hR⟩
  simp only at hlen hks hR
  obtain ⟨m, rfl⟩ : ∃ m, n = m + 1 := ⟨n - 1, by simp at hlen; omega⟩
  simp only [boxL] at hR
  repeat (first
    | refine AW.seq ?_
    | refine AW.reg ?_
    | refine Reg.opS tab_ok (hint := []) rfl rfl rfl rfl rfl trivial ?_
    | refine Reg.opN tab_ok (hint := []) rfl rfl rfl rfl trivial ?_
    | refine Reg.nil ?_
    | refine thenA_normal ?_
    | refine AW.condT rfl ?_
    | refine AW.condF rfl ?_
    | refine AW.skip ?_
    | refine AW.block ?_
    | refine AW.exit ?_
    | refine AW.ret ?_
    | refine thenA_exit ?_
    | refine thenA_ret ?_
    | refine blockA_normal ?_
    | refine blockA_hit ?_
    | refine blockA_miss rfl ?_
    | refine blockA_ret ?_
    | refine Reg.panic rfl rfl rfl rfl ?_
    | refine thenA_panic ?_
    | refine blockA_panic ?_)
  refine Reg.call tab_ok [0] (sees_any (bs [93]) hs) callable48 rfl (.inl rfl) rfl rfl rfl (by decide) rfl rfl ?_
  rintro out bx1 ⟨rfl, rfl⟩
  refine after1 rfl rfl rfl rfl rfl ?_
  repeat (first
    | refine AW.seq ?_
    | refine AW.reg ?_
    | refine Reg.opS tab_ok (hint := []) rfl rfl rfl rfl rfl trivial ?_
    | refine Reg.opN tab_ok (hint := []) rfl rfl rfl rfl trivial ?_
    | refine Reg.nil ?_
    | refine thenA_normal ?_
    | refine AW.condT rfl ?_
    | refine AW.condF rfl ?_
    | refine AW.skip ?_
    | refine AW.block ?_
    | refine AW.exit ?_
    | refine AW.ret ?_
    | refine thenA_exit ?_
    | refine thenA_ret ?_
    | refine blockA_normal ?_
    | refine blockA_hit ?_
    | refine blockA_miss rfl ?_
    | refine blockA_ret ?_
    | refine Reg.panic rfl rfl rfl rfl ?_
    | refine thenA_panic ?_
    | refine blockA_panic ?_)
  cases h1 : seesB (bs [93]) (u :: r') with
  | true =>
    simp only [h1, if_true, List.tail_cons, PR.ok_bind] at hR
    refine AW.condF rfl ?_
    refine AW.le (fr' := [(0, .ptr 0 0), (4, .ptr 1 0), (5, .ptr 2 0)]) (bx' := [rd toks f (u :: r'), tB0, tB (T.mk 10 (bs []) ks [] t.at_), .acc 5 ks.length])
      ⟨⟨.refl _, .refl _, .refl _, trivial⟩, ⟨SLes.refl _, SLes.refl _, ⟨.refl _, .refl _, .own .., .full .., .refl _, trivial⟩, ⟨rfl, rfl⟩, trivial⟩, rfl, rfl⟩ (Nat.le_refl _) ?_
    repeat (first
      | refine AW.seq ?_
      | refine AW.reg ?_
      | refine Reg.opS tab_ok (hint := []) rfl rfl rfl rfl rfl trivial ?_
      | refine Reg.opN tab_ok (hint := []) rfl rfl rfl rfl trivial ?_
      | refine Reg.nil ?_
      | refine thenA_normal ?_
      | refine AW.condT rfl ?_
      | refine AW.condF rfl ?_
      | refine AW.skip ?_
      | refine AW.block ?_
      | refine AW.exit ?_
      | refine AW.ret ?_
      | refine thenA_exit ?_
      | refine thenA_ret ?_
      | refine blockA_normal ?_
      | refine blockA_hit ?_
      | refine blockA_miss rfl ?_
      | refine blockA_ret ?_
      | refine Reg.panic rfl rfl rfl rfl ?_
      | refine thenA_panic ?_
      | refine blockA_panic ?_)
    rw [hs.nextL (f := f)]
    subst hR
    exact ⟨_, rfl, rfl, rfl, ⟨⟨_, rfl, .refl _⟩, rfl⟩, hs.live (sees_kind h1)⟩
  | false =>
    simp only [h1, Bool.false_eq_true, if_false] at hR
    refine AW.condT rfl ?_
    repeat (first
      | refine AW.seq ?_
      | refine AW.reg ?_
      | refine Reg.opS tab_ok (hint := []) rfl rfl rfl rfl rfl trivial ?_
      | refine Reg.opN tab_ok (hint := []) rfl rfl rfl rfl trivial ?_
      | refine Reg.nil ?_
      | refine thenA_normal ?_
      | refine AW.condT rfl ?_
      | refine AW.condF rfl ?_
      | refine AW.skip ?_
      | refine AW.block ?_
      | refine AW.exit ?_
      | refine AW.ret ?_
      | refine thenA_exit ?_
      | refine thenA_ret ?_
      | refine blockA_normal ?_
      | refine blockA_hit ?_
      | refine blockA_miss rfl ?_
      | refine blockA_ret ?_
      | refine Reg.panic rfl rfl rfl rfl ?_
      | refine thenA_panic ?_
      | refine blockA_panic ?_)
    refine AW.cut (S := Tok × List Tok) (C := fun st => Suf toks (st.1 :: st.2) ∧ st.2.length ≤ r'.length ∧ ((elemP (termP d) (st.1 :: st.2)).bind fun e r => boxL (termP d) m (ks ++ [e]) r).bind (fun ks r => PR.ok (T.mk 10 (bs []) ks [] (atP (t :: s))) r) = R)
      (fun _ => [(0, .ptr 0 0), (1, .d (.val (.int .i64 l))), (4, .ptr 1 0), (5, .ptr 2 0)])
      (fun st => [rd toks f (st.1 :: st.2), tB0, .cells [.d (.val (.int .i64 10)), .d (.val (.string ⟨#[]⟩)), .own 3 5 (T.rows ks), .d (.sl 1 [] true), .d (.val (.int .i64 t.at_))], .acc 5 ks.length]) (fun _ => Nat.le_refl _) ?_ _ ?_
    · cases ks with
      | nil =>
        simp only [List.isEmpty_nil, if_true, PR.ok_bind] at hR
        refine AW.cond rfl (fun hh => absurd hh (by simp [T.rows_nil])) (fun _ => ?_)
        repeat (first
          | refine AW.seq ?_
          | refine AW.reg ?_
          | refine Reg.opS tab_ok (hint := []) rfl rfl rfl rfl rfl trivial ?_
          | refine Reg.opN tab_ok (hint := []) rfl rfl rfl rfl trivial ?_
          | refine Reg.nil ?_
          | refine thenA_normal ?_
          | refine AW.condT rfl ?_
          | refine AW.condF rfl ?_
          | refine AW.skip ?_
          | refine AW.block ?_
          | refine AW.exit ?_
          | refine AW.ret ?_
          | refine thenA_exit ?_
          | refine thenA_ret ?_
          | refine blockA_normal ?_
          | refine blockA_hit ?_
          | refine blockA_miss rfl ?_
          | refine blockA_ret ?_
          | refine Reg.panic rfl rfl rfl rfl ?_
          | refine thenA_panic ?_
          | refine blockA_panic ?_)
        exact ⟨(u, r'), ⟨hs, Nat.le_refl _, hR⟩, .inl ⟨⟨.refl _, .refl _, .refl _, .refl _, trivial⟩, BxLe.refl _, rfl, rfl⟩⟩
      | cons k0 ks0 =>
        simp only [List.isEmpty_cons, Bool.false_eq_true, if_false] at hR
        refine AW.cond rfl (fun _ => ?_) (fun hh => absurd hh (by simp [T.rows_cons]))
        repeat (first
          | refine AW.seq ?_
          | refine AW.reg ?_
          | refine Reg.opS tab_ok (hint := []) rfl rfl rfl rfl rfl trivial ?_
          | refine Reg.opN tab_ok (hint := []) rfl rfl rfl rfl trivial ?_
          | refine Reg.nil ?_
          | refine thenA_normal ?_
          | refine AW.condT rfl ?_
          | refine AW.condF rfl ?_
          | refine AW.skip ?_
          | refine AW.block ?_
          | refine AW.exit ?_
          | refine AW.ret ?_
          | refine thenA_exit ?_
          | refine thenA_ret ?_
          | refine blockA_normal ?_
          | refine blockA_hit ?_
          | refine blockA_miss rfl ?_
          | refine blockA_ret ?_
          | refine Reg.panic rfl rfl rfl rfl ?_
          | refine thenA_panic ?_
          | refine blockA_panic ?_)
        refine Reg.call tab_ok [0] (want_any (bs [44]) hs) callable50 rfl (.inl rfl) rfl rfl rfl (by decide) rfl rfl ?_
        intro out bx1 ho
        rcases hn1 : wantP (bs [44]) (u :: r') with ⟨x0, r0⟩ | ⟨p, e⟩
        rotate_left
        · rw [hn1] at ho
          simp only [hn1, PR.err_bind] at hR
          obtain ⟨rfl, s0, rfl⟩ := ho
          refine after1p rfl rfl rfl ?_
          repeat (first
            | refine AW.seq ?_
            | refine AW.reg ?_
            | refine Reg.opS tab_ok (hint := []) rfl rfl rfl rfl rfl trivial ?_
            | refine Reg.opN tab_ok (hint := []) rfl rfl rfl rfl trivial ?_
            | refine Reg.nil ?_
            | refine thenA_normal ?_
            | refine AW.condT rfl ?_
            | refine AW.condF rfl ?_
            | refine AW.skip ?_
            | refine AW.block ?_
            | refine AW.exit ?_
            | refine AW.ret ?_
            | refine thenA_exit ?_
            | refine thenA_ret ?_
            | refine blockA_normal ?_
            | refine blockA_hit ?_
            | refine blockA_miss rfl ?_
            | refine blockA_ret ?_
            | refine Reg.panic rfl rfl rfl rfl ?_
            | refine thenA_panic ?_
            | refine blockA_panic ?_)
          subst hR
          exact ⟨rfl, rfl, _, rfl⟩
        rw [hn1] at ho
        simp only [hn1, PR.ok_bind] at hR
        obtain ⟨⟨rfl, rfl⟩, hs1, u1, r1, rfl⟩ := ho
        refine after1 rfl rfl rfl rfl rfl ?_
        repeat (first
          | refine AW.seq ?_
          | refine AW.reg ?_
          | refine Reg.opS tab_ok (hint := []) rfl rfl rfl rfl rfl trivial ?_
          | refine Reg.opN tab_ok (hint := []) rfl rfl rfl rfl trivial ?_
          | refine Reg.nil ?_
          | refine thenA_normal ?_
          | refine AW.condT rfl ?_
          | refine AW.condF rfl ?_
          | refine AW.skip ?_
          | refine AW.block ?_
          | refine AW.exit ?_
          | refine AW.ret ?_
          | refine thenA_exit ?_
          | refine thenA_ret ?_
          | refine blockA_normal ?_
          | refine blockA_hit ?_
          | refine blockA_miss rfl ?_
          | refine blockA_ret ?_
          | refine Reg.panic rfl rfl rfl rfl ?_
          | refine thenA_panic ?_
          | refine blockA_panic ?_)
        refine ⟨(u1, r1), ⟨hs1, ?_, hR⟩, .inl ⟨⟨.refl _, .refl _, .refl _, .refl _, trivial⟩, BxLe.refl _, rfl, rfl⟩⟩
        have := wantP_short _ _ _ _ hn1
        simp only [List.length_cons] at this
        show r1.length ≤ r'.length
        omega
    · clear hR hs h1
      rintro ⟨u1, r1⟩ ⟨hs1, hr1, hR⟩
      simp only at hs1 hr1 hR
      unfold elemP at hR
      repeat (first
        | refine AW.seq ?_
        | refine AW.reg ?_
        | refine Reg.opS tab_ok (hint := []) rfl rfl rfl rfl rfl trivial ?_
        | refine Reg.opN tab_ok (hint := []) rfl rfl rfl rfl trivial ?_
        | refine Reg.nil ?_
        | refine thenA_normal ?_
        | refine AW.condT rfl ?_
        | refine AW.condF rfl ?_
        | refine AW.skip ?_
        | refine AW.block ?_
        | refine AW.exit ?_
        | refine AW.ret ?_
        | refine thenA_exit ?_
        | refine thenA_ret ?_
        | refine blockA_normal ?_
        | refine blockA_hit ?_
        | refine blockA_miss rfl ?_
        | refine blockA_ret ?_
        | refine Reg.panic rfl rfl rfl rfl ?_
        | refine thenA_panic ?_
        | refine blockA_panic ?_)
      refine Reg.call tab_ok [0] (now_any hs1) callable27 rfl (.inl rfl) rfl rfl rfl (by decide) rfl rfl ?_
      rintro out bx1 ⟨rfl, rfl⟩
      refine after1 rfl rfl rfl rfl rfl ?_
      repeat (first
        | refine AW.seq ?_
        | refine AW.reg ?_
        | refine Reg.opS tab_ok (hint := []) rfl rfl rfl rfl rfl trivial ?_
        | refine Reg.opN tab_ok (hint := []) rfl rfl rfl rfl trivial ?_
        | refine Reg.nil ?_
        | refine thenA_normal ?_
        | refine AW.condT rfl ?_
        | refine AW.condF rfl ?_
        | refine AW.skip ?_
        | refine AW.block ?_
        | refine AW.exit ?_
        | refine AW.ret ?_
        | refine thenA_exit ?_
        | refine thenA_ret ?_
        | refine blockA_normal ?_
        | refine blockA_hit ?_
        | refine blockA_miss rfl ?_
        | refine blockA_ret ?_
        | refine Reg.panic rfl rfl rfl rfl ?_
        | refine thenA_panic ?_
        | refine blockA_panic ?_)
      refine Reg.call tab_ok [0] (face_any hs1) callable102 rfl (.inl rfl) rfl rfl rfl (by decide) rfl rfl ?_
      intro out bx1 ho
      rcases hn2 : faceP (u1 :: r1) with ⟨e, r0⟩ | ⟨p, e⟩
      rotate_left
      · rw [hn2] at ho
        simp only [hn2, PR.err_bind] at hR
        obtain ⟨rfl, s0, rfl⟩ := ho
        refine after1p rfl rfl rfl ?_
        repeat (first
          | refine AW.seq ?_
          | refine AW.reg ?_
          | refine Reg.opS tab_ok (hint := []) rfl rfl rfl rfl rfl trivial ?_
          | refine Reg.opN tab_ok (hint := []) rfl rfl rfl rfl trivial ?_
          | refine Reg.nil ?_
          | refine thenA_normal ?_
          | refine AW.condT rfl ?_
          | refine AW.condF rfl ?_
          | refine AW.skip ?_
          | refine AW.block ?_
          | refine AW.exit ?_
          | refine AW.ret ?_
          | refine thenA_exit ?_
          | refine thenA_ret ?_
          | refine blockA_normal ?_
          | refine blockA_hit ?_
          | refine blockA_miss rfl ?_
          | refine blockA_ret ?_
          | refine Reg.panic rfl rfl rfl rfl ?_
          | refine thenA_panic ?_
          | refine blockA_panic ?_)
        subst hR
        exact ⟨rfl, rfl, _, rfl⟩
      rw [hn2] at ho
      simp only [hn2, PR.ok_bind] at hR
      obtain ⟨⟨rfl, rfl⟩, hs2, u2, r2, rfl⟩ := ho
      refine after1 rfl rfl rfl rfl rfl ?_
      have hf := faceP_short _ _ _ hn2
      simp only [List.length_cons] at hf
      repeat (first
        | refine AW.seq ?_
        | refine AW.reg ?_
        | refine Reg.opS tab_ok (hint := []) rfl rfl rfl rfl rfl trivial ?_
        | refine Reg.opN tab_ok (hint := []) rfl rfl rfl rfl trivial ?_
        | refine Reg.nil ?_
        | refine thenA_normal ?_
        | refine AW.condT rfl ?_
        | refine AW.condF rfl ?_
        | refine AW.skip ?_
        | refine AW.block ?_
        | refine AW.exit ?_
        | refine AW.ret ?_
        | refine thenA_exit ?_
        | refine thenA_ret ?_
        | refine blockA_normal ?_
        | refine blockA_hit ?_
        | refine blockA_miss rfl ?_
        | refine blockA_ret ?_
        | refine Reg.panic rfl rfl rfl rfl ?_
        | refine thenA_panic ?_
        | refine blockA_panic ?_)
      refine Reg.call tab_ok [] (of_any 11 u1.at_ [tC e] true) callable55 rfl (.inl rfl) rfl rfl rfl (by decide) rfl rfl ?_
      rintro out bx1 ⟨rfl, rfl⟩
      refine after0 rfl rfl ?_
      repeat (first
        | refine AW.seq ?_
        | refine AW.reg ?_
        | refine Reg.opS tab_ok (hint := []) rfl rfl rfl rfl rfl trivial ?_
        | refine Reg.opN tab_ok (hint := []) rfl rfl rfl rfl trivial ?_
        | refine Reg.nil ?_
        | refine thenA_normal ?_
        | refine AW.condT rfl ?_
        | refine AW.condF rfl ?_
        | refine AW.skip ?_
        | refine AW.block ?_
        | refine AW.exit ?_
        | refine AW.ret ?_
        | refine thenA_exit ?_
        | refine thenA_ret ?_
        | refine blockA_normal ?_
        | refine blockA_hit ?_
        | refine blockA_miss rfl ?_
        | refine blockA_ret ?_
        | refine Reg.panic rfl rfl rfl rfl ?_
        | refine thenA_panic ?_
        | refine blockA_panic ?_)
      refine Reg.call tab_ok [0] (sees_any (bs [45, 62]) hs2) callable48 rfl (.inl rfl) rfl rfl rfl (by decide) rfl rfl ?_
      rintro out bx1 ⟨rfl, rfl⟩
      refine after1 rfl rfl rfl rfl rfl ?_
      repeat (first
        | refine AW.seq ?_
        | refine AW.reg ?_
        | refine Reg.opS tab_ok (hint := []) rfl rfl rfl rfl rfl trivial ?_
        | refine Reg.opN tab_ok (hint := []) rfl rfl rfl rfl trivial ?_
        | refine Reg.nil ?_
        | refine thenA_normal ?_
        | refine AW.condT rfl ?_
        | refine AW.condF rfl ?_
        | refine AW.skip ?_
        | refine AW.block ?_
        | refine AW.exit ?_
        | refine AW.ret ?_
        | refine thenA_exit ?_
        | refine thenA_ret ?_
        | refine blockA_normal ?_
        | refine blockA_hit ?_
        | refine blockA_miss rfl ?_
        | refine blockA_ret ?_
        | refine Reg.panic rfl rfl rfl rfl ?_
        | refine thenA_panic ?_
        | refine blockA_panic ?_)
      refine AW.cut (S := T × Tok × List Tok) (C := fun st => Suf toks (st.2.1 :: st.2.2) ∧ st.2.2.length < r1.length ∧ (boxL (termP d) m (ks ++ [st.1]) (st.2.1 :: st.2.2)).bind (fun ks r => PR.ok (T.mk 10 (bs []) ks [] (atP (t :: s))) r) = R)
        (F := fun _ => [(0, .ptr 0 0), (1, .d (.val (.int .i64 l))), (4, .ptr 1 0), (5, .ptr 2 0), (6, .ptr 4 0)])
        (X := fun st => [rd toks f (st.2.1 :: st.2.2), tB0, .cells [.d (.val (.int .i64 10)), .d (.val (.string ⟨#[]⟩)), .own 3 5 (T.rows ks), .d (.sl 1 [] true), .d (.val (.int .i64 t.at_))], .acc 5 ks.length, tB st.1]) (fun _ => by simp) ?_ _ ?_
      · cases hb : seesB (bs [45, 62]) (u2 :: r2) with
        | false =>
          simp only [hb, Bool.false_eq_true, if_false, PR.ok_bind] at hR
          refine AW.condF rfl ?_
          repeat (first
            | refine AW.seq ?_
            | refine AW.reg ?_
            | refine Reg.opS tab_ok (hint := []) rfl rfl rfl rfl rfl trivial ?_
            | refine Reg.opN tab_ok (hint := []) rfl rfl rfl rfl trivial ?_
            | refine Reg.nil ?_
            | refine thenA_normal ?_
            | refine AW.condT rfl ?_
            | refine AW.condF rfl ?_
            | refine AW.skip ?_
            | refine AW.block ?_
            | refine AW.exit ?_
            | refine AW.ret ?_
            | refine thenA_exit ?_
            | refine thenA_ret ?_
            | refine blockA_normal ?_
            | refine blockA_hit ?_
            | refine blockA_miss rfl ?_
            | refine blockA_ret ?_
            | refine Reg.panic rfl rfl rfl rfl ?_
            | refine thenA_panic ?_
            | refine blockA_panic ?_)
          refine ⟨(.mk 11 (bs []) [e] [] u1.at_, u2, r2), ⟨hs2, by simp only; omega, hR⟩, .inl ⟨⟨.refl _, .refl _, .refl _, .refl _, .refl _, trivial⟩, ⟨SLes.refl _, SLes.refl _, SLes.refl _, ⟨rfl, rfl⟩, tB_le ?_ rfl trivial⟩, rfl, rfl⟩⟩
          simp only [T.rows_cons, T.rows_nil]
        | true =>
          simp only [hb, if_true, List.tail_cons] at hR
          refine AW.condT rfl ?_
          repeat (first
            | refine AW.seq ?_
            | refine AW.reg ?_
            | refine Reg.opS tab_ok (hint := []) rfl rfl rfl rfl rfl trivial ?_
            | refine Reg.opN tab_ok (hint := []) rfl rfl rfl rfl trivial ?_
            | refine Reg.nil ?_
            | refine thenA_normal ?_
            | refine AW.condT rfl ?_
            | refine AW.condF rfl ?_
            | refine AW.skip ?_
            | refine AW.block ?_
            | refine AW.exit ?_
            | refine AW.ret ?_
            | refine thenA_exit ?_
            | refine thenA_ret ?_
            | refine blockA_normal ?_
            | refine blockA_hit ?_
            | refine blockA_miss rfl ?_
            | refine blockA_ret ?_
            | refine Reg.panic rfl rfl rfl rfl ?_
            | refine thenA_panic ?_
            | refine blockA_panic ?_)
          rw [hs2.nextL (f := f)]
          obtain ⟨hs3, u3, r3, rfl⟩ := hs2.live (sees_kind hb)
          refine AW.draw [5, 7, 9] [0, 1, 2, 3, 4, 5, 6, 7, 8, 9] mixed ⟨rfl, rfl, rfl, rfl, by decide⟩ ?_
          iterate 5 refine RegD.pureS tab_ok (hint := []) rfl rfl rfl rfl rfl rfl trivial ?_
          refine RegD.call tab_ok [0] [1, 0] (ht _ toks f u3 r3 (by rw [hw]; omega) (by rw [hw]; omega) hs3) callable25 rfl rfl rfl rfl rfl rfl rfl rfl (by decide) rfl rfl ?_
          intro out bx1 ho
          rcases hn3 : termP d (u3 :: r3) with ⟨z, r0⟩ | ⟨p, e⟩
          rotate_left
          · rw [hn3] at ho
            simp only [hn3, PR.err_bind] at hR
            obtain ⟨rfl, s0, rfl⟩ := ho
            refine after1Dp rfl rfl rfl ?_
            repeat (first
              | refine AW.seq ?_
              | refine AW.reg ?_
              | refine Reg.opS tab_ok (hint := []) rfl rfl rfl rfl rfl trivial ?_
              | refine Reg.opN tab_ok (hint := []) rfl rfl rfl rfl trivial ?_
              | refine Reg.nil ?_
              | refine thenA_normal ?_
              | refine AW.condT rfl ?_
              | refine AW.condF rfl ?_
              | refine AW.skip ?_
              | refine AW.block ?_
              | refine AW.exit ?_
              | refine AW.ret ?_
              | refine thenA_exit ?_
              | refine thenA_ret ?_
              | refine blockA_normal ?_
              | refine blockA_hit ?_
              | refine blockA_miss rfl ?_
              | refine blockA_ret ?_
              | refine Reg.panic rfl rfl rfl rfl ?_
              | refine thenA_panic ?_
              | refine blockA_panic ?_)
            subst hR
            exact ⟨rfl, rfl, _, rfl⟩
          rw [hn3] at ho
          simp only [hn3, PR.ok_bind] at hR
          obtain ⟨⟨rfl, rfl⟩, hs4, u4, r4, rfl⟩ := ho
          refine after1D rfl rfl rfl rfl rfl (by exact Stable.cons tab_ok (hint := []) rfl rfl rfl rfl trivial (Stable.cons tab_ok (hint := []) rfl rfl rfl rfl trivial (Stable.nil))) ?_
          iterate 1 refine RegD.pureS tab_ok (hint := []) rfl rfl rfl rfl rfl rfl trivial ?_
          refine RegD.appendNew tab_ok rfl rfl rfl rfl rfl rfl rfl rfl rfl rfl rfl rfl rfl ?_ ?_ ?_ ?_
          · simp
            exact ⟨rfl, rfl, rfl, rfl, rfl⟩
          · simp
          · simp
          iterate 1 refine RegD.pureS tab_ok (hint := []) rfl rfl rfl rfl rfl rfl trivial ?_
          refine RegD.effS tab_ok (hint := []) [] rfl rfl rfl rfl rfl rfl rfl trivial Stable.nil ?_
          refine RegD.nil ?_
          repeat (first
            | refine AW.seq ?_
            | refine AW.reg ?_
            | refine Reg.opS tab_ok (hint := []) rfl rfl rfl rfl rfl trivial ?_
            | refine Reg.opN tab_ok (hint := []) rfl rfl rfl rfl trivial ?_
            | refine Reg.nil ?_
            | refine thenA_normal ?_
            | refine AW.condT rfl ?_
            | refine AW.condF rfl ?_
            | refine AW.skip ?_
            | refine AW.block ?_
            | refine AW.exit ?_
            | refine AW.ret ?_
            | refine thenA_exit ?_
            | refine thenA_ret ?_
            | refine blockA_normal ?_
            | refine blockA_hit ?_
            | refine blockA_miss rfl ?_
            | refine blockA_ret ?_
            | refine Reg.panic rfl rfl rfl rfl ?_
            | refine thenA_panic ?_
            | refine blockA_panic ?_)
          refine ⟨(.mk 11 (bs []) [e, z] [] u1.at_, u4, r4), ⟨hs4, ?_, hR⟩, .inr ⟨[(0, .ptr 0 0), (1, .d (.val (.int .i64 l))), (4, .ptr 1 0), (5, .ptr 2 0), (6, .ptr 4 0)], [rd toks f (u4 :: r4), tB0, .cells [.d (.val (.int .i64 10)), .d (.val (.string ⟨#[]⟩)), .own 3 5 (T.rows ks), .d (.sl 1 [] true), .d (.val (.int .i64 t.at_))], .acc 5 ks.length, tB (T.mk 11 (bs []) [e, z] [] u1.at_), .acc 5 2],
            Nat.le_refl _, ⟨⟨.refl _, .refl _, .refl _, .refl _, .refl _, trivial⟩, ⟨SLes.refl _, SLes.refl _, SLes.refl _, ⟨rfl, rfl⟩, ?_⟩, rfl, rfl⟩, ⟨⟨.refl _, .refl _, .refl _, .refl _, .refl _, trivial⟩, BxLe.refl _, rfl, rfl⟩⟩⟩
          · have := termP_short _ _ _ _ hn3
            simp only [List.length_cons] at this hf ⊢
            omega
          · exact ⟨⟨.refl _, .refl _, ownPair 5 e z, .full .., .refl _, trivial⟩, ⟨rfl, rfl⟩, trivial⟩
      · clear hR hn2 hs2 hf
        rintro ⟨e2, u2, r2⟩ ⟨hs2, hr2, hR⟩
        simp only at hs2 hr2 hR
        repeat (first
          | refine AW.seq ?_
          | refine AW.reg ?_
          | refine Reg.opS tab_ok (hint := []) rfl rfl rfl rfl rfl trivial ?_
          | refine Reg.opN tab_ok (hint := []) rfl rfl rfl rfl trivial ?_
          | refine Reg.nil ?_
          | refine thenA_normal ?_
          | refine AW.condT rfl ?_
          | refine AW.condF rfl ?_
          | refine AW.skip ?_
          | refine AW.block ?_
          | refine AW.exit ?_
          | refine AW.ret ?_
          | refine thenA_exit ?_
          | refine thenA_ret ?_
          | refine blockA_normal ?_
          | refine blockA_hit ?_
          | refine blockA_miss rfl ?_
          | refine blockA_ret ?_
          | refine Reg.panic rfl rfl rfl rfl ?_
          | refine thenA_panic ?_
          | refine blockA_panic ?_)
        refine Reg.append tab_ok rfl rfl rfl rfl rfl rfl rfl rfl rfl ?_ rfl rfl ?_ ?_ ?_ ?_
        · rw [T.rows_len]
          rfl
        · simp
          exact ⟨rfl, rfl, rfl, rfl, rfl⟩
        · rw [T.rows_len]
          simp
          omega
        · rw [T.rows_len]
          simp
          omega
        repeat (first
          | refine AW.seq ?_
          | refine AW.reg ?_
          | refine Reg.opS tab_ok (hint := []) rfl rfl rfl rfl rfl trivial ?_
          | refine Reg.opN tab_ok (hint := []) rfl rfl rfl rfl trivial ?_
          | refine Reg.nil ?_
          | refine thenA_normal ?_
          | refine AW.condT rfl ?_
          | refine AW.condF rfl ?_
          | refine AW.skip ?_
          | refine AW.block ?_
          | refine AW.exit ?_
          | refine AW.ret ?_
          | refine thenA_exit ?_
          | refine thenA_ret ?_
          | refine blockA_normal ?_
          | refine blockA_hit ?_
          | refine blockA_miss rfl ?_
          | refine blockA_ret ?_
          | refine Reg.panic rfl rfl rfl rfl ?_
          | refine thenA_panic ?_
          | refine blockA_panic ?_)
        refine ⟨(m, ks ++ [e2], u2 :: r2), ⟨⟨hs2, u2, r2, rfl⟩, ?_, ?_, hR⟩, ?_, ?_⟩
        · simp only [List.length_cons] at hlen ⊢
          omega
        · simp only [List.length_cons, List.length_append, List.length_nil] at hks ⊢
          omega
        · simp
        · exact ⟨⟨.refl _, .refl _, .refl _, .refl _, trivial⟩, ⟨SLes.refl _, SLes.refl _, ⟨.refl _, .refl _, ownSnoc' 3 ks e2, .refl _, .refl _, trivial⟩, ⟨rfl, by simp [T.rows_len]⟩, trivial⟩, rfl, rfl⟩

end Go.Proofs.YtamkldohfhidiaaDoor
