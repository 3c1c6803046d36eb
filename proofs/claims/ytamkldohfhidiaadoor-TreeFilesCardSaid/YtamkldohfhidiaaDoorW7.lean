import Derived.Test.YtamkldohfhidiaaDoorW6
namespace Go.Proofs.YtamkldohfhidiaaDoor
open Go Go.Abs

variable {G : Glob} {toks s : List Tok} {f : Bool} {t : Tok}


theorem after_any {d : Nat} (ht : TermOk G d) {l : Int} (hl : l + (d + 1 : Nat) = 201) (hl1 : 1 ≤ l) (x : T) (h : Suf toks (t :: s)) :
    ACalls Tryd.prog G 54 [.ptr 0 0, .d (.val (.int .i64 l)), treeV x] [rd toks f (t :: s)] (PRout toks f treeV (afterL (dimP d) (termP d) rounds x (t :: s))) := by
  refine PRle.weak ?_
  generalize hR : afterL (dimP d) (termP d) rounds x (t :: s) = R
  have hsm := h.small
  have hle := h.le
  have hw : IntKind.i64.wrap (l + 1) = l + 1 := wrap_in (by omega) (by omega)
  have hd := dim_any (G := G) d
  refine ACalls.body tab_ok Tryd.func54 rfl rfl ?_
  repeat (first
    | refine AW.seq ?_
    | refine AW.reg ?_
    | refine Reg.opS tab_ok (hint := []) rfl rfl rfl rfl rfl trivial ?_
    | refine Reg.opN tab_ok (hint := []) rfl rfl rfl rfl trivial ?_
    | refine Reg.nil ?_
    | refine thenA_normal ?_
    | refine AW.condT rfl ?_
    | refine AW.condF rfl ?_
    | refine AW.skip ?_
    | refine AW.block ?_
    | refine AW.exit ?_
    | refine AW.ret ?_
    | refine thenA_exit ?_
    | refine thenA_ret ?_
    | refine blockA_normal ?_
    | refine blockA_hit ?_
    | refine blockA_miss rfl ?_
    | refine blockA_ret ?_
    | refine Reg.panic rfl rfl rfl rfl ?_
    | refine thenA_panic ?_
    | refine blockA_panic ?_)
  refine AW.loop (S := Nat × T × List Tok) (fun st => Live toks st.2.2 ∧ st.2.2.length < st.1 ∧ afterL (dimP d) (termP d) st.1 st.2.1 st.2.2 = R)
    (fun st => [(0, .ptr 0 0), (1, .d (.val (.int .i64 l))), (5, .ptr 1 0), (6, .ptr 2 0)])
    (fun st => [rd toks f st.2.2, tB st.2.1, tB0]) (fun st => st.1) (rounds, x, t :: s)
    ⟨⟨h, t, s, rfl⟩, by unfold rounds; simp only; omega, hR⟩ (fun _ => rfl) ⟨⟨.refl _, .refl _, .refl _, .refl _, trivial⟩, BxLe.refl _, rfl, rfl⟩ ?_
  clear hR h hle
  rintro ⟨n, y, s'⟩ ⟨⟨hs, u, r', rfl⟩, hlen, hR⟩
  simp only at hlen hR
  obtain ⟨m, rfl⟩ : ∃ m, n = m + 1 := ⟨n - 1, by simp at hlen; omega⟩
  simp only [afterL] at hR
  have hs' : Suf toks (u :: r') := hs
  clear hs
  repeat (first
    | refine AW.seq ?_
    | refine AW.reg ?_
    | refine Reg.opS tab_ok (hint := []) rfl rfl rfl rfl rfl trivial ?_
    | refine Reg.opN tab_ok (hint := []) rfl rfl rfl rfl trivial ?_
    | refine Reg.nil ?_
    | refine thenA_normal ?_
    | refine AW.condT rfl ?_
    | refine AW.condF rfl ?_
    | refine AW.skip ?_
    | refine AW.block ?_
    | refine AW.exit ?_
    | refine AW.ret ?_
    | refine thenA_exit ?_
    | refine thenA_ret ?_
    | refine blockA_normal ?_
    | refine blockA_hit ?_
    | refine blockA_miss rfl ?_
    | refine blockA_ret ?_
    | refine Reg.panic rfl rfl rfl rfl ?_
    | refine thenA_panic ?_
    | refine blockA_panic ?_)
  refine Reg.call tab_ok [0] (sees_any (bs [64]) hs') callable48 rfl (.inl rfl) rfl rfl rfl (by decide) rfl rfl ?_
  rintro out bx1 ⟨rfl, rfl⟩
  refine after1 rfl rfl rfl rfl rfl ?_
  repeat (first
    | refine AW.seq ?_
    | refine AW.reg ?_
    | refine Reg.opS tab_ok (hint := []) rfl rfl rfl rfl rfl trivial ?_
    | refine Reg.opN tab_ok (hint := []) rfl rfl rfl rfl trivial ?_
    | refine Reg.nil ?_
    | refine thenA_normal ?_
    | refine AW.condT rfl ?_
    | refine AW.condF rfl ?_
    | refine AW.skip ?_
    | refine AW.block ?_
    | refine AW.exit ?_
    | refine AW.ret ?_
    | refine thenA_exit ?_
    | refine thenA_ret ?_
    | refine blockA_normal ?_
    | refine blockA_hit ?_
    | refine blockA_miss rfl ?_
    | refine blockA_ret ?_
    | refine Reg.panic rfl rfl rfl rfl ?_
    | refine thenA_panic ?_
    | refine blockA_panic ?_)
  cases hb : seesB (bs [64]) (u :: r') with
  | true =>
    simp only [hb, if_true, List.tail_cons] at hR
    refine AW.condT rfl ?_
    repeat (first
      | refine AW.seq ?_
      | refine AW.reg ?_
      | refine Reg.opS tab_ok (hint := []) rfl rfl rfl rfl rfl trivial ?_
      | refine Reg.opN tab_ok (hint := []) rfl rfl rfl rfl trivial ?_
      | refine Reg.nil ?_
      | refine thenA_normal ?_
      | refine AW.condT rfl ?_
      | refine AW.condF rfl ?_
      | refine AW.skip ?_
      | refine AW.block ?_
      | refine AW.exit ?_
      | refine AW.ret ?_
      | refine thenA_exit ?_
      | refine thenA_ret ?_
      | refine blockA_normal ?_
      | refine blockA_hit ?_
      | refine blockA_miss rfl ?_
      | refine blockA_ret ?_
      | refine Reg.panic rfl rfl rfl rfl ?_
      | refine thenA_panic ?_
      | refine blockA_panic ?_)
    rw [hs'.nextL (f := f)]
    obtain ⟨hs2, v, r2, rfl⟩ := hs'.live (sees_kind hb)
    refine AW.draw [6, 8, 9] [0, 1, 2, 3, 4, 5, 6, 7, 8, 9] mixed ⟨rfl, rfl, rfl, rfl, by decide⟩ ?_
    iterate 6 refine RegD.pureS tab_ok (hint := []) rfl rfl rfl rfl rfl rfl trivial ?_
    refine RegD.call tab_ok [0] [2, 1, 0] (hd _ toks f v r2 (by rw [hw]; omega) (by rw [hw]; omega) hs2) callable80 rfl rfl rfl rfl rfl rfl rfl rfl (by decide) rfl rfl ?_
    intro out bx1 ho
    rcases hn2 : dimP d (v :: r2) with ⟨z, r0⟩ | ⟨p, e⟩
    rotate_left
    · rw [hn2] at ho
      simp only [hn2, PR.err_bind] at hR
      obtain ⟨rfl, s0, rfl⟩ := ho
      refine after1Dp rfl rfl rfl ?_
      repeat (first
        | refine AW.seq ?_
        | refine AW.reg ?_
        | refine Reg.opS tab_ok (hint := []) rfl rfl rfl rfl rfl trivial ?_
        | refine Reg.opN tab_ok (hint := []) rfl rfl rfl rfl trivial ?_
        | refine Reg.nil ?_
        | refine thenA_normal ?_
        | refine AW.condT rfl ?_
        | refine AW.condF rfl ?_
        | refine AW.skip ?_
        | refine AW.block ?_
        | refine AW.exit ?_
        | refine AW.ret ?_
        | refine thenA_exit ?_
        | refine thenA_ret ?_
        | refine blockA_normal ?_
        | refine blockA_hit ?_
        | refine blockA_miss rfl ?_
        | refine blockA_ret ?_
        | refine Reg.panic rfl rfl rfl rfl ?_
        | refine thenA_panic ?_
        | refine blockA_panic ?_)
      subst hR
      exact ⟨rfl, rfl, _, rfl⟩
    rw [hn2] at ho
    simp only [hn2, PR.ok_bind] at hR
    obtain ⟨⟨rfl, rfl⟩, hs3, w, r3, rfl⟩ := ho
    refine after1D rfl rfl rfl rfl rfl (by exact Stable.cons tab_ok (hint := []) rfl rfl rfl rfl trivial (Stable.cons tab_ok (hint := []) rfl rfl rfl rfl trivial (Stable.cons tab_ok (hint := []) rfl rfl rfl rfl trivial (Stable.nil)))) ?_
    iterate 1 refine RegD.pureS tab_ok (hint := []) rfl rfl rfl rfl rfl rfl trivial ?_
    refine RegD.call tab_ok [] [] (of_any 7 y.at_ [tC y, tC z] true) callable55 rfl rfl rfl rfl rfl rfl rfl rfl (by decide) rfl rfl ?_
    rintro out bx1 ⟨rfl, rfl⟩
    refine after0D rfl rfl Stable.nil ?_
    refine RegD.effS tab_ok (hint := []) [] rfl rfl rfl rfl rfl rfl rfl trivial Stable.nil ?_
    refine RegD.nil ?_
    repeat (first
      | refine AW.seq ?_
      | refine AW.reg ?_
      | refine Reg.opS tab_ok (hint := []) rfl rfl rfl rfl rfl trivial ?_
      | refine Reg.opN tab_ok (hint := []) rfl rfl rfl rfl trivial ?_
      | refine Reg.nil ?_
      | refine thenA_normal ?_
      | refine AW.condT rfl ?_
      | refine AW.condF rfl ?_
      | refine AW.skip ?_
      | refine AW.block ?_
      | refine AW.exit ?_
      | refine AW.ret ?_
      | refine thenA_exit ?_
      | refine thenA_ret ?_
      | refine blockA_normal ?_
      | refine blockA_hit ?_
      | refine blockA_miss rfl ?_
      | refine blockA_ret ?_
      | refine Reg.panic rfl rfl rfl rfl ?_
      | refine thenA_panic ?_
      | refine blockA_panic ?_)
    refine ⟨(m, .mk 7 (bs []) [y, z] [] y.at_, w :: r3), ⟨⟨hs3, w, r3, rfl⟩, ?_, hR⟩, ?_, ⟨.refl _, .refl _, .refl _, .refl _, trivial⟩, ⟨SLes.refl _, tB_le ?_ rfl ⟨SLes.refl _, trivial⟩⟩, rfl, rfl⟩
    · have := dimP_short d _ _ _ hn2
      simp only [List.length_cons] at this hlen ⊢
      omega
    · simp
    · simp only [T.rows_cons, T.rows_nil]
  | false =>
    simp only [hb, Bool.false_eq_true, if_false] at hR
    refine AW.condF rfl ?_
    refine AW.seq ?_
    refine AW.cut (S := Unit) (C := fun _ => True)
      (F := fun _ => [(0, .ptr 0 0), (1, .d (.val (.int .i64 l))), (5, .ptr 1 0), (6, .ptr 2 0), (49, .d (.val (.bool (isName (u :: r') || (seesB (bs [40]) (u :: r') || seesB (bs [91]) (u :: r'))))))])
      (X := fun _ => [rd toks f (u :: r'), tB y, tB0]) (fun _ => Nat.le_refl _) ?_ _ ?_
    · repeat (first
        | refine AW.seq ?_
        | refine AW.reg ?_
        | refine Reg.opS tab_ok (hint := []) rfl rfl rfl rfl rfl trivial ?_
        | refine Reg.opN tab_ok (hint := []) rfl rfl rfl rfl trivial ?_
        | refine Reg.nil ?_
        | refine thenA_normal ?_
        | refine AW.condT rfl ?_
        | refine AW.condF rfl ?_
        | refine AW.skip ?_
        | refine AW.block ?_
        | refine AW.exit ?_
        | refine AW.ret ?_
        | refine thenA_exit ?_
        | refine thenA_ret ?_
        | refine blockA_normal ?_
        | refine blockA_hit ?_
        | refine blockA_miss rfl ?_
        | refine blockA_ret ?_
        | refine Reg.panic rfl rfl rfl rfl ?_
        | refine thenA_panic ?_
        | refine blockA_panic ?_)
      refine Reg.call tab_ok [0] (now_any hs') callable27 rfl (.inl rfl) rfl rfl rfl (by decide) rfl rfl ?_
      rintro out bx1 ⟨rfl, rfl⟩
      refine after1 rfl rfl rfl rfl rfl ?_
      repeat (first
        | refine AW.seq ?_
        | refine AW.reg ?_
        | refine Reg.opS tab_ok (hint := []) rfl rfl rfl rfl rfl trivial ?_
        | refine Reg.opN tab_ok (hint := []) rfl rfl rfl rfl trivial ?_
        | refine Reg.nil ?_
        | refine thenA_normal ?_
        | refine AW.condT rfl ?_
        | refine AW.condF rfl ?_
        | refine AW.skip ?_
        | refine AW.block ?_
        | refine AW.exit ?_
        | refine AW.ret ?_
        | refine thenA_exit ?_
        | refine thenA_ret ?_
        | refine blockA_normal ?_
        | refine blockA_hit ?_
        | refine blockA_miss rfl ?_
        | refine blockA_ret ?_
        | refine Reg.panic rfl rfl rfl rfl ?_
        | refine thenA_panic ?_
        | refine blockA_panic ?_)
      have hnm : isName (u :: r') = (u.kind == 1) := rfl
      cases hk : (u.kind == 1) with
      | true =>
        rw [hk] at hnm
        rw [hnm]
        iterate 2 refine Reg.ifN rfl rfl rfl rfl rfl rfl rfl rfl ?_
        repeat (first
          | refine AW.seq ?_
          | refine AW.reg ?_
          | refine Reg.opS tab_ok (hint := []) rfl rfl rfl rfl rfl trivial ?_
          | refine Reg.opN tab_ok (hint := []) rfl rfl rfl rfl trivial ?_
          | refine Reg.nil ?_
          | refine thenA_normal ?_
          | refine AW.condT rfl ?_
          | refine AW.condF rfl ?_
          | refine AW.skip ?_
          | refine AW.block ?_
          | refine AW.exit ?_
          | refine AW.ret ?_
          | refine thenA_exit ?_
          | refine thenA_ret ?_
          | refine blockA_normal ?_
          | refine blockA_hit ?_
          | refine blockA_miss rfl ?_
          | refine blockA_ret ?_
          | refine Reg.panic rfl rfl rfl rfl ?_
          | refine thenA_panic ?_
          | refine blockA_panic ?_)
        iterate 2 refine Reg.ifN rfl rfl rfl rfl rfl rfl rfl rfl ?_
        repeat (first
          | refine AW.seq ?_
          | refine AW.reg ?_
          | refine Reg.opS tab_ok (hint := []) rfl rfl rfl rfl rfl trivial ?_
          | refine Reg.opN tab_ok (hint := []) rfl rfl rfl rfl trivial ?_
          | refine Reg.nil ?_
          | refine thenA_normal ?_
          | refine AW.condT rfl ?_
          | refine AW.condF rfl ?_
          | refine AW.skip ?_
          | refine AW.block ?_
          | refine AW.exit ?_
          | refine AW.ret ?_
          | refine thenA_exit ?_
          | refine thenA_ret ?_
          | refine blockA_normal ?_
          | refine blockA_hit ?_
          | refine blockA_miss rfl ?_
          | refine blockA_ret ?_
          | refine Reg.panic rfl rfl rfl rfl ?_
          | refine thenA_panic ?_
          | refine blockA_panic ?_)
        exact ⟨(), trivial, .inl ⟨⟨.refl _, .refl _, .refl _, .refl _, .refl _, trivial⟩, BxLe.refl _, rfl, rfl⟩⟩
      | false =>
        rw [hk] at hnm
        rw [hnm]
        iterate 1 refine Reg.ifS tab_ok (hint := []) rfl rfl rfl rfl rfl rfl rfl rfl rfl trivial ?_
        refine Reg.call tab_ok [0] (sees_any (bs [40]) hs') callable48 rfl (.inr ⟨_, _, _, _, _, rfl, rfl, rfl, rfl, rfl⟩) rfl rfl rfl (by decide) rfl rfl ?_
        rintro out bx1 ⟨rfl, rfl⟩
        refine after1 rfl rfl rfl rfl rfl ?_
        repeat (first
          | refine AW.seq ?_
          | refine AW.reg ?_
          | refine Reg.opS tab_ok (hint := []) rfl rfl rfl rfl rfl trivial ?_
          | refine Reg.opN tab_ok (hint := []) rfl rfl rfl rfl trivial ?_
          | refine Reg.nil ?_
          | refine thenA_normal ?_
          | refine AW.condT rfl ?_
          | refine AW.condF rfl ?_
          | refine AW.skip ?_
          | refine AW.block ?_
          | refine AW.exit ?_
          | refine AW.ret ?_
          | refine thenA_exit ?_
          | refine thenA_ret ?_
          | refine blockA_normal ?_
          | refine blockA_hit ?_
          | refine blockA_miss rfl ?_
          | refine blockA_ret ?_
          | refine Reg.panic rfl rfl rfl rfl ?_
          | refine thenA_panic ?_
          | refine blockA_panic ?_)
        cases h2 : seesB (bs [40]) (u :: r') with
        | true =>
          iterate 2 refine Reg.ifN rfl rfl rfl rfl rfl rfl rfl rfl ?_
          repeat (first
            | refine AW.seq ?_
            | refine AW.reg ?_
            | refine Reg.opS tab_ok (hint := []) rfl rfl rfl rfl rfl trivial ?_
            | refine Reg.opN tab_ok (hint := []) rfl rfl rfl rfl trivial ?_
            | refine Reg.nil ?_
            | refine thenA_normal ?_
            | refine AW.condT rfl ?_
            | refine AW.condF rfl ?_
            | refine AW.skip ?_
            | refine AW.block ?_
            | refine AW.exit ?_
            | refine AW.ret ?_
            | refine thenA_exit ?_
            | refine thenA_ret ?_
            | refine blockA_normal ?_
            | refine blockA_hit ?_
            | refine blockA_miss rfl ?_
            | refine blockA_ret ?_
            | refine Reg.panic rfl rfl rfl rfl ?_
            | refine thenA_panic ?_
            | refine blockA_panic ?_)
          exact ⟨(), trivial, .inl ⟨⟨.refl _, .refl _, .refl _, .refl _, .refl _, trivial⟩, BxLe.refl _, rfl, rfl⟩⟩
        | false =>
          iterate 1 refine Reg.ifS tab_ok (hint := []) rfl rfl rfl rfl rfl rfl rfl rfl rfl trivial ?_
          refine Reg.call tab_ok [0] (sees_any (bs [91]) hs') callable48 rfl (.inr ⟨_, _, _, _, _, rfl, rfl, rfl, rfl, rfl⟩) rfl rfl rfl (by decide) rfl rfl ?_
          rintro out bx1 ⟨rfl, rfl⟩
          refine after1 rfl rfl rfl rfl rfl ?_
          repeat (first
            | refine AW.seq ?_
            | refine AW.reg ?_
            | refine Reg.opS tab_ok (hint := []) rfl rfl rfl rfl rfl trivial ?_
            | refine Reg.opN tab_ok (hint := []) rfl rfl rfl rfl trivial ?_
            | refine Reg.nil ?_
            | refine thenA_normal ?_
            | refine AW.condT rfl ?_
            | refine AW.condF rfl ?_
            | refine AW.skip ?_
            | refine AW.block ?_
            | refine AW.exit ?_
            | refine AW.ret ?_
            | refine thenA_exit ?_
            | refine thenA_ret ?_
            | refine blockA_normal ?_
            | refine blockA_hit ?_
            | refine blockA_miss rfl ?_
            | refine blockA_ret ?_
            | refine Reg.panic rfl rfl rfl rfl ?_
            | refine thenA_panic ?_
            | refine blockA_panic ?_)
          exact ⟨(), trivial, .inl ⟨⟨.refl _, .refl _, .refl _, .refl _, .refl _, trivial⟩, BxLe.refl _, rfl, rfl⟩⟩
    · rintro ⟨⟩ -
      refine AW.cond rfl (fun hc => ?_) (fun hc => ?_)
      · rw [if_pos hc] at hR
        repeat (first
          | refine AW.seq ?_
          | refine AW.reg ?_
          | refine Reg.opS tab_ok (hint := []) rfl rfl rfl rfl rfl trivial ?_
          | refine Reg.opN tab_ok (hint := []) rfl rfl rfl rfl trivial ?_
          | refine Reg.nil ?_
          | refine thenA_normal ?_
          | refine AW.condT rfl ?_
          | refine AW.condF rfl ?_
          | refine AW.skip ?_
          | refine AW.block ?_
          | refine AW.exit ?_
          | refine AW.ret ?_
          | refine thenA_exit ?_
          | refine thenA_ret ?_
          | refine blockA_normal ?_
          | refine blockA_hit ?_
          | refine blockA_miss rfl ?_
          | refine blockA_ret ?_
          | refine Reg.panic rfl rfl rfl rfl ?_
          | refine thenA_panic ?_
          | refine blockA_panic ?_)
        refine AW.draw [5, 7, 8] [0, 1, 2, 3, 4, 5, 6, 7, 8] mixed ⟨rfl, rfl, rfl, rfl, by decide⟩ ?_
        iterate 5 refine RegD.pureS tab_ok (hint := []) rfl rfl rfl rfl rfl rfl trivial ?_
        refine RegD.call tab_ok [0] [2, 1, 0] (atom_any ht hl hl1 hs') callable56 rfl rfl rfl rfl rfl rfl rfl rfl (by decide) rfl rfl ?_
        intro out bx1 ho
        rcases hn2 : atomP (termP d) (u :: r') with ⟨z, r0⟩ | ⟨p, e⟩
        rotate_left
        · rw [hn2] at ho
          simp only [hn2, PR.err_bind] at hR
          obtain ⟨rfl, s0, rfl⟩ := ho
          refine after1Dp rfl rfl rfl ?_
          repeat (first
            | refine AW.seq ?_
            | refine AW.reg ?_
            | refine Reg.opS tab_ok (hint := []) rfl rfl rfl rfl rfl trivial ?_
            | refine Reg.opN tab_ok (hint := []) rfl rfl rfl rfl trivial ?_
            | refine Reg.nil ?_
            | refine thenA_normal ?_
            | refine AW.condT rfl ?_
            | refine AW.condF rfl ?_
            | refine AW.skip ?_
            | refine AW.block ?_
            | refine AW.exit ?_
            | refine AW.ret ?_
            | refine thenA_exit ?_
            | refine thenA_ret ?_
            | refine blockA_normal ?_
            | refine blockA_hit ?_
            | refine blockA_miss rfl ?_
            | refine blockA_ret ?_
            | refine Reg.panic rfl rfl rfl rfl ?_
            | refine thenA_panic ?_
            | refine blockA_panic ?_)
          subst hR
          exact ⟨rfl, rfl, _, rfl⟩
        rw [hn2] at ho
        simp only [hn2, PR.ok_bind] at hR
        obtain ⟨⟨rfl, rfl⟩, hs3, w, r3, rfl⟩ := ho
        refine after1D rfl rfl rfl rfl rfl (by exact Stable.cons tab_ok (hint := []) rfl rfl rfl rfl trivial (Stable.cons tab_ok (hint := []) rfl rfl rfl rfl trivial (Stable.cons tab_ok (hint := []) rfl rfl rfl rfl trivial (Stable.nil)))) ?_
        iterate 1 refine RegD.pureS tab_ok (hint := []) rfl rfl rfl rfl rfl rfl trivial ?_
        refine RegD.call tab_ok [] [] (of_any 6 y.at_ [tC y, tC z] true) callable55 rfl rfl rfl rfl rfl rfl rfl rfl (by decide) rfl rfl ?_
        rintro out bx1 ⟨rfl, rfl⟩
        refine after0D rfl rfl Stable.nil ?_
        refine RegD.effS tab_ok (hint := []) [] rfl rfl rfl rfl rfl rfl rfl trivial Stable.nil ?_
        refine RegD.nil ?_
        repeat (first
          | refine AW.seq ?_
          | refine AW.reg ?_
          | refine Reg.opS tab_ok (hint := []) rfl rfl rfl rfl rfl trivial ?_
          | refine Reg.opN tab_ok (hint := []) rfl rfl rfl rfl trivial ?_
          | refine Reg.nil ?_
          | refine thenA_normal ?_
          | refine AW.condT rfl ?_
          | refine AW.condF rfl ?_
          | refine AW.skip ?_
          | refine AW.block ?_
          | refine AW.exit ?_
          | refine AW.ret ?_
          | refine thenA_exit ?_
          | refine thenA_ret ?_
          | refine blockA_normal ?_
          | refine blockA_hit ?_
          | refine blockA_miss rfl ?_
          | refine blockA_ret ?_
          | refine Reg.panic rfl rfl rfl rfl ?_
          | refine thenA_panic ?_
          | refine blockA_panic ?_)
        refine ⟨(m, .mk 6 (bs []) [y, z] [] y.at_, w :: r3), ⟨⟨hs3, w, r3, rfl⟩, ?_, hR⟩, ?_, ⟨.refl _, .refl _, .refl _, .refl _, trivial⟩, ⟨SLes.refl _, tB_le ?_ rfl ⟨SLes.refl _, trivial⟩⟩, rfl, rfl⟩
        · have := atomP_short (termP_short d) _ _ _ hn2
          simp only [List.length_cons] at this hlen ⊢
          omega
        · simp
        · simp only [T.rows_cons, T.rows_nil]
      · rw [if_neg (by rw [hc]; exact Bool.false_ne_true)] at hR
        repeat (first
          | refine AW.seq ?_
          | refine AW.reg ?_
          | refine Reg.opS tab_ok (hint := []) rfl rfl rfl rfl rfl trivial ?_
          | refine Reg.opN tab_ok (hint := []) rfl rfl rfl rfl trivial ?_
          | refine Reg.nil ?_
          | refine thenA_normal ?_
          | refine AW.condT rfl ?_
          | refine AW.condF rfl ?_
          | refine AW.skip ?_
          | refine AW.block ?_
          | refine AW.exit ?_
          | refine AW.ret ?_
          | refine thenA_exit ?_
          | refine thenA_ret ?_
          | refine blockA_normal ?_
          | refine blockA_hit ?_
          | refine blockA_miss rfl ?_
          | refine blockA_ret ?_
          | refine Reg.panic rfl rfl rfl rfl ?_
          | refine thenA_panic ?_
          | refine blockA_panic ?_)
        refine Reg.call tab_ok [0] (arrow_any hs') callable53 rfl (.inl rfl) rfl rfl rfl (by decide) rfl rfl ?_
        rintro out bx1 ⟨rfl, rfl⟩
        refine after1 rfl rfl rfl rfl rfl ?_
        repeat (first
          | refine AW.seq ?_
          | refine AW.reg ?_
          | refine Reg.opS tab_ok (hint := []) rfl rfl rfl rfl rfl trivial ?_
          | refine Reg.opN tab_ok (hint := []) rfl rfl rfl rfl trivial ?_
          | refine Reg.nil ?_
          | refine thenA_normal ?_
          | refine AW.condT rfl ?_
          | refine AW.condF rfl ?_
          | refine AW.skip ?_
          | refine AW.block ?_
          | refine AW.exit ?_
          | refine AW.ret ?_
          | refine thenA_exit ?_
          | refine thenA_ret ?_
          | refine blockA_normal ?_
          | refine blockA_hit ?_
          | refine blockA_miss rfl ?_
          | refine blockA_ret ?_
          | refine Reg.panic rfl rfl rfl rfl ?_
          | refine thenA_panic ?_
          | refine blockA_panic ?_)
        cases ha : (arrowP (u :: r') == 0) with
        | true =>
          simp only [ha, if_true] at hR
          refine AW.cond rfl (fun hh => absurd hh (by simp [bne, ha])) (fun _ => ?_)
          repeat (first
            | refine AW.seq ?_
            | refine AW.reg ?_
            | refine Reg.opS tab_ok (hint := []) rfl rfl rfl rfl rfl trivial ?_
            | refine Reg.opN tab_ok (hint := []) rfl rfl rfl rfl trivial ?_
            | refine Reg.nil ?_
            | refine thenA_normal ?_
            | refine AW.condT rfl ?_
            | refine AW.condF rfl ?_
            | refine AW.skip ?_
            | refine AW.block ?_
            | refine AW.exit ?_
            | refine AW.ret ?_
            | refine thenA_exit ?_
            | refine thenA_ret ?_
            | refine blockA_normal ?_
            | refine blockA_hit ?_
            | refine blockA_miss rfl ?_
            | refine blockA_ret ?_
            | refine Reg.panic rfl rfl rfl rfl ?_
            | refine thenA_panic ?_
            | refine blockA_panic ?_)
          subst hR
          exact ⟨_, rfl, rfl, rfl, ⟨⟨_, rfl, .refl _⟩, rfl⟩, hs', u, r', rfl⟩
        | false =>
          simp only [ha, Bool.false_eq_true, if_false, List.tail_cons] at hR
          refine AW.cond rfl (fun _ => ?_) (fun hh => absurd hh (by simp [bne, ha]))
          repeat (first
            | refine AW.seq ?_
            | refine AW.reg ?_
            | refine Reg.opS tab_ok (hint := []) rfl rfl rfl rfl rfl trivial ?_
            | refine Reg.opN tab_ok (hint := []) rfl rfl rfl rfl trivial ?_
            | refine Reg.nil ?_
            | refine thenA_normal ?_
            | refine AW.condT rfl ?_
            | refine AW.condF rfl ?_
            | refine AW.skip ?_
            | refine AW.block ?_
            | refine AW.exit ?_
            | refine AW.ret ?_
            | refine thenA_exit ?_
            | refine thenA_ret ?_
            | refine blockA_normal ?_
            | refine blockA_hit ?_
            | refine blockA_miss rfl ?_
            | refine blockA_ret ?_
            | refine Reg.panic rfl rfl rfl rfl ?_
            | refine thenA_panic ?_
            | refine blockA_panic ?_)
          rw [hs'.nextL (f := f)]
          have hku : u.kind ≠ 0 := by
            intro e
            simp [arrowP, seesB, e] at ha
          obtain ⟨hs2, v, r2, rfl⟩ := hs'.live hku
          refine AW.draw [7, 9, 10] [0, 1, 2, 3, 4, 5, 6, 7, 8, 9, 10] mixed ⟨rfl, rfl, rfl, rfl, by decide⟩ ?_
          iterate 7 refine RegD.pureS tab_ok (hint := []) rfl rfl rfl rfl rfl rfl trivial ?_
          refine RegD.call tab_ok [0] [3, 2, 1, 0] (ht _ toks f v r2 (by rw [hw]; omega) (by rw [hw]; omega) hs2) callable25 rfl rfl rfl rfl rfl rfl rfl rfl (by decide) rfl rfl ?_
          intro out bx1 ho
          rcases hn2 : termP d (v :: r2) with ⟨z, r0⟩ | ⟨p, e⟩
          rotate_left
          · rw [hn2] at ho
            simp only [hn2, PR.err_bind] at hR
            obtain ⟨rfl, s0, rfl⟩ := ho
            refine after1Dp rfl rfl rfl ?_
            repeat (first
              | refine AW.seq ?_
              | refine AW.reg ?_
              | refine Reg.opS tab_ok (hint := []) rfl rfl rfl rfl rfl trivial ?_
              | refine Reg.opN tab_ok (hint := []) rfl rfl rfl rfl trivial ?_
              | refine Reg.nil ?_
              | refine thenA_normal ?_
              | refine AW.condT rfl ?_
              | refine AW.condF rfl ?_
              | refine AW.skip ?_
              | refine AW.block ?_
              | refine AW.exit ?_
              | refine AW.ret ?_
              | refine thenA_exit ?_
              | refine thenA_ret ?_
              | refine blockA_normal ?_
              | refine blockA_hit ?_
              | refine blockA_miss rfl ?_
              | refine blockA_ret ?_
              | refine Reg.panic rfl rfl rfl rfl ?_
              | refine thenA_panic ?_
              | refine blockA_panic ?_)
            subst hR
            exact ⟨rfl, rfl, _, rfl⟩
          rw [hn2] at ho
          simp only [hn2, PR.ok_bind] at hR
          obtain ⟨⟨rfl, rfl⟩, hs3, w, r3, rfl⟩ := ho
          refine after1D rfl rfl rfl rfl rfl (by exact Stable.cons tab_ok (hint := []) rfl rfl rfl rfl trivial (Stable.cons tab_ok (hint := []) rfl rfl rfl rfl trivial (Stable.cons tab_ok (hint := []) rfl rfl rfl rfl trivial (Stable.cons tab_ok (hint := []) rfl rfl rfl rfl trivial (Stable.nil))))) ?_
          iterate 1 refine RegD.pureS tab_ok (hint := []) rfl rfl rfl rfl rfl rfl trivial ?_
          refine RegD.call tab_ok [] [] (of_any (arrowP (u :: v :: r2)) y.at_ [tC y, tC z] true) callable55 rfl rfl rfl rfl rfl rfl rfl rfl (by decide) rfl rfl ?_
          rintro out bx1 ⟨rfl, rfl⟩
          refine after0D rfl rfl Stable.nil ?_
          refine RegD.effS tab_ok (hint := []) [] rfl rfl rfl rfl rfl rfl rfl trivial Stable.nil ?_
          refine RegD.nil ?_
          repeat (first
            | refine AW.seq ?_
            | refine AW.reg ?_
            | refine Reg.opS tab_ok (hint := []) rfl rfl rfl rfl rfl trivial ?_
            | refine Reg.opN tab_ok (hint := []) rfl rfl rfl rfl trivial ?_
            | refine Reg.nil ?_
            | refine thenA_normal ?_
            | refine AW.condT rfl ?_
            | refine AW.condF rfl ?_
            | refine AW.skip ?_
            | refine AW.block ?_
            | refine AW.exit ?_
            | refine AW.ret ?_
            | refine thenA_exit ?_
            | refine thenA_ret ?_
            | refine blockA_normal ?_
            | refine blockA_hit ?_
            | refine blockA_miss rfl ?_
            | refine blockA_ret ?_
            | refine Reg.panic rfl rfl rfl rfl ?_
            | refine thenA_panic ?_
            | refine blockA_panic ?_)
          subst hR
          exact ⟨_, rfl, rfl, rfl, ⟨⟨_, rfl, tC_le (by simp only [T.rows_cons, T.rows_nil]) rfl⟩, rfl⟩, hs3, w, r3, rfl⟩

end Go.Proofs.YtamkldohfhidiaaDoor
