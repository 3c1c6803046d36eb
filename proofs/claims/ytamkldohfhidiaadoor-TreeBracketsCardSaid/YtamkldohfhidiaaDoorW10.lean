import Derived.Test.YtamkldohfhidiaaDoorW9
import Derived.Test.YtamkldohfhidiaaDoorAbs3
namespace Go.Abs
/-- Declarations, up to the end. -/
def declsL : Nat → List T → List Tok → PR (List T)
  | 0, ks, s => .ok ks s
  | n + 1, ks, s => match s with
    | t :: _ => if t.kind == 0 then .ok ks s else (declP s).bind fun d r => declsL n (ks ++ [d]) r
    | [] => .err 0 0
end Go.Abs
namespace Go.Proofs.YtamkldohfhidiaaDoor
open Go Go.Abs

variable {G : Glob} {toks s : List Tok} {f : Bool} {t : Tok}

/-- The box of a slice of trees. -/
abbrev outB (ks : List T) : Box := .cells [.d (.sl 5 (T.rows ks) false)]

theorem zero_ones : ∀ r ∈ ([[.val (.int .i64 0), .val (.string ⟨#[]⟩), .val (.slice none 0 0), .val (.slice none 0 0), .val (.int .i64 0)]] : List (List AV)), ∀ x ∈ r, (SV.d x).one = true := by
  intro r hr x hx
  simp only [List.mem_singleton] at hr
  subst hr
  simp only [List.mem_cons, List.not_mem_nil, or_false] at hx
  rcases hx with rfl | rfl | rfl | rfl | rfl <;> rfl

set_option maxHeartbeats 2000000 in
theorem parse1_any (h : Suf toks (t :: s)) : ACalls Tryd.prog G 26 [.ptr 0 0, .ptr 1 0] [rd toks f (t :: s), .cells [.d (.sl 5 [] true)]] fun out b =>
    match declsL rounds [] (t :: s) with
    | .ok ks r => (out = .ret (.tup []) ∧ b = [rd toks f r, outB ks]) ∧ Live toks r
    | .err p e => out = .panic (wrongA p e) ∧ ∃ s z, b = [rd toks f s, outB z] := by
  have hsm := h.small
  have hle := h.le
  generalize hR : declsL rounds [] (t :: s) = R
  refine ACalls.body tab_ok Tryd.func26 rfl rfl ?_
  refine AW.panicLe ?_
  repeat (first
    | refine AW.seq ?_
    | refine AW.reg ?_
    | refine Reg.opS tab_ok (hint := []) rfl rfl rfl rfl rfl trivial ?_
    | refine Reg.opN tab_ok (hint := []) rfl rfl rfl rfl trivial ?_
    | refine Reg.nil ?_
    | refine thenA_normal ?_
    | refine AW.condT rfl ?_
    | refine AW.condF rfl ?_
    | refine AW.skip ?_
    | refine AW.block ?_
    | refine AW.exit ?_
    | refine AW.ret ?_
    | refine thenA_exit ?_
    | refine thenA_ret ?_
    | refine blockA_normal ?_
    | refine blockA_hit ?_
    | refine blockA_miss rfl ?_
    | refine blockA_ret ?_
    | refine Reg.panic rfl rfl rfl rfl ?_
    | refine thenA_panic ?_
    | refine blockA_panic ?_)
  refine AW.adoptBox (b := 1) (j := 0) rfl rfl rfl rfl rfl ?_
  refine AW.loop (S := Nat × List T × List Tok) (fun st => Live toks st.2.2 ∧ st.2.2.length < st.1 ∧ st.2.1.length + st.2.2.length ≤ toks.length ∧ declsL st.1 st.2.1 st.2.2 = R)
    (fun _ => [(0, .ptr 0 0), (1, .ptr 1 0)])
    (fun st => [rd toks f st.2.2, .cells [.own 2 5 (T.rows st.2.1)], .acc 5 st.2.1.length]) (fun st => st.1) (rounds, [], t :: s)
    ⟨⟨h, t, s, rfl⟩, by unfold rounds; simp only; omega, by simpa using hle, hR⟩ (fun _ => rfl) ⟨⟨.refl _, .refl _, trivial⟩, ?_, rfl, rfl⟩ ?_
  · simp only [T.rows_nil]
    exact BxLe.refl _
  clear hR hle
  rintro ⟨n, ks, s'⟩ ⟨⟨hs, u, r', rfl⟩, hlen, hks, hR⟩
  simp only at hlen hks hR
  obtain ⟨m, rfl⟩ : ∃ m, n = m + 1 := ⟨n - 1, by simp at hlen; omega⟩
  simp only [declsL] at hR
  repeat (first
    | refine AW.seq ?_
    | refine AW.reg ?_
    | refine Reg.opS tab_ok (hint := []) rfl rfl rfl rfl rfl trivial ?_
    | refine Reg.opN tab_ok (hint := []) rfl rfl rfl rfl trivial ?_
    | refine Reg.nil ?_
    | refine thenA_normal ?_
    | refine AW.condT rfl ?_
    | refine AW.condF rfl ?_
    | refine AW.skip ?_
    | refine AW.block ?_
    | refine AW.exit ?_
    | refine AW.ret ?_
    | refine thenA_exit ?_
    | refine thenA_ret ?_
    | refine blockA_normal ?_
    | refine blockA_hit ?_
    | refine blockA_miss rfl ?_
    | refine blockA_ret ?_
    | refine Reg.panic rfl rfl rfl rfl ?_
    | refine thenA_panic ?_
    | refine blockA_panic ?_)
  refine Reg.call tab_ok [0] (now_any hs) callable27 rfl (.inl rfl) rfl rfl rfl (by decide) rfl rfl ?_
  rintro out bx1 ⟨rfl, rfl⟩
  refine after1 rfl rfl rfl rfl rfl ?_
  repeat (first
    | refine AW.seq ?_
    | refine AW.reg ?_
    | refine Reg.opS tab_ok (hint := []) rfl rfl rfl rfl rfl trivial ?_
    | refine Reg.opN tab_ok (hint := []) rfl rfl rfl rfl trivial ?_
    | refine Reg.nil ?_
    | refine thenA_normal ?_
    | refine AW.condT rfl ?_
    | refine AW.condF rfl ?_
    | refine AW.skip ?_
    | refine AW.block ?_
    | refine AW.exit ?_
    | refine AW.ret ?_
    | refine thenA_exit ?_
    | refine thenA_ret ?_
    | refine blockA_normal ?_
    | refine blockA_hit ?_
    | refine blockA_miss rfl ?_
    | refine blockA_ret ?_
    | refine Reg.panic rfl rfl rfl rfl ?_
    | refine thenA_panic ?_
    | refine blockA_panic ?_)
  cases hk : (u.kind == 0) with
  | true =>
    simp only [hk, if_true] at hR
    have hk2 : (u.kind != 0) = false := by simp [bne, hk]
    refine AW.cond rfl (fun hh => ?_) (fun _ => ?_)
    · rw [hk2] at hh
      cases hh
    · refine AW.le (fr' := []) (bx' := [rd toks f (u :: r'), outB ks, .acc 5 ks.length]) ⟨trivial, ⟨SLes.refl _, ⟨.own .., trivial⟩, ⟨rfl, rfl⟩, trivial⟩, rfl, rfl⟩ (Nat.le_refl _) ?_
      repeat (first
        | refine AW.seq ?_
        | refine AW.reg ?_
        | refine Reg.opS tab_ok (hint := []) rfl rfl rfl rfl rfl trivial ?_
        | refine Reg.opN tab_ok (hint := []) rfl rfl rfl rfl trivial ?_
        | refine Reg.nil ?_
        | refine thenA_normal ?_
        | refine AW.condT rfl ?_
        | refine AW.condF rfl ?_
        | refine AW.skip ?_
        | refine AW.block ?_
        | refine AW.exit ?_
        | refine AW.ret ?_
        | refine thenA_exit ?_
        | refine thenA_ret ?_
        | refine blockA_normal ?_
        | refine blockA_hit ?_
        | refine blockA_miss rfl ?_
        | refine blockA_ret ?_
        | refine Reg.panic rfl rfl rfl rfl ?_
        | refine thenA_panic ?_
        | refine blockA_panic ?_)
      subst hR
      exact ⟨_, rfl, rfl, rfl, ⟨rfl, rfl⟩, hs, u, r', rfl⟩
  | false =>
    simp only [hk, Bool.false_eq_true, if_false] at hR
    have hk2 : (u.kind != 0) = true := by simp [bne, hk]
    refine AW.cond rfl (fun _ => ?_) (fun hh => ?_)
    rotate_left
    · rw [hk2] at hh
      cases hh
    repeat (first
      | refine AW.seq ?_
      | refine AW.reg ?_
      | refine Reg.opS tab_ok (hint := []) rfl rfl rfl rfl rfl trivial ?_
      | refine Reg.opN tab_ok (hint := []) rfl rfl rfl rfl trivial ?_
      | refine Reg.nil ?_
      | refine thenA_normal ?_
      | refine AW.condT rfl ?_
      | refine AW.condF rfl ?_
      | refine AW.skip ?_
      | refine AW.block ?_
      | refine AW.exit ?_
      | refine AW.ret ?_
      | refine thenA_exit ?_
      | refine thenA_ret ?_
      | refine blockA_normal ?_
      | refine blockA_hit ?_
      | refine blockA_miss rfl ?_
      | refine blockA_ret ?_
      | refine Reg.panic rfl rfl rfl rfl ?_
      | refine thenA_panic ?_
      | refine blockA_panic ?_)
    refine AW.drawTwo 5 4 [2] [0, 1, 3, 4, 2] mixed ⟨by decide, by kernel_rfl, by kernel_rfl, by kernel_rfl⟩ rfl ⟨by kernel_rfl, by kernel_rfl, by kernel_rfl, by kernel_rfl, by decide⟩ ?_
    iterate 3 refine RegD.pureS tab_ok (hint := []) rfl rfl rfl rfl rfl rfl trivial ?_
    refine RegD.pureO rfl rfl rfl rfl rfl (OpS.buildConst tab_ok (ty := 23) rfl rfl) ?_
    refine RegD.call tab_ok [0] [0, 3, 4] (decl_any hs) callable28 rfl rfl rfl rfl rfl rfl rfl rfl (by decide) rfl rfl ?_
    intro out bx1 ho
    rcases hn : declP (u :: r') with ⟨d, r0⟩ | ⟨p, e⟩
    rotate_left
    · rw [hn] at ho
      simp only [hn, PR.err_bind] at hR
      obtain ⟨rfl, s0, rfl⟩ := ho
      refine after1Dp rfl rfl rfl ?_
      repeat (first
        | refine AW.seq ?_
        | refine AW.reg ?_
        | refine Reg.opS tab_ok (hint := []) rfl rfl rfl rfl rfl trivial ?_
        | refine Reg.opN tab_ok (hint := []) rfl rfl rfl rfl trivial ?_
        | refine Reg.nil ?_
        | refine thenA_normal ?_
        | refine AW.condT rfl ?_
        | refine AW.condF rfl ?_
        | refine AW.skip ?_
        | refine AW.block ?_
        | refine AW.exit ?_
        | refine AW.ret ?_
        | refine thenA_exit ?_
        | refine thenA_ret ?_
        | refine blockA_normal ?_
        | refine blockA_hit ?_
        | refine blockA_miss rfl ?_
        | refine blockA_ret ?_
        | refine Reg.panic rfl rfl rfl rfl ?_
        | refine thenA_panic ?_
        | refine blockA_panic ?_)
      subst hR
      refine ⟨[rd toks f s0, outB ks, .acc 5 ks.length], ⟨trivial, ⟨SLes.refl _, ⟨.own .., trivial⟩, ⟨rfl, rfl⟩, trivial⟩, rfl, rfl⟩, Nat.le_succ _, ?_⟩
      repeat (first
        | refine AW.seq ?_
        | refine AW.reg ?_
        | refine Reg.opS tab_ok (hint := []) rfl rfl rfl rfl rfl trivial ?_
        | refine Reg.opN tab_ok (hint := []) rfl rfl rfl rfl trivial ?_
        | refine Reg.nil ?_
        | refine thenA_normal ?_
        | refine AW.condT rfl ?_
        | refine AW.condF rfl ?_
        | refine AW.skip ?_
        | refine AW.block ?_
        | refine AW.exit ?_
        | refine AW.ret ?_
        | refine thenA_exit ?_
        | refine thenA_ret ?_
        | refine blockA_normal ?_
        | refine blockA_hit ?_
        | refine blockA_miss rfl ?_
        | refine blockA_ret ?_
        | refine Reg.panic rfl rfl rfl rfl ?_
        | refine thenA_panic ?_
        | refine blockA_panic ?_)
      exact ⟨rfl, rfl, _, _, rfl⟩
    rw [hn] at ho
    simp only [hn, PR.ok_bind] at hR
    obtain ⟨⟨rfl, rfl⟩, hs2, u2, r2, rfl⟩ := ho
    refine after1D rfl rfl rfl rfl rfl (by exact Stable.cons tab_ok (hint := []) rfl rfl rfl rfl trivial (Stable.cons tab_ok (hint := []) rfl rfl rfl rfl trivial (Stable.consO rfl rfl rfl rfl (OpS.buildConst tab_ok (ty := 23) rfl rfl) Stable.nil))) ?_
    refine RegD.nil ?_
    refine thenA_normal ?_
    refine Tail.append tab_ok (r := tC d) (k := .i64) rfl ⟨by kernel_rfl, by kernel_rfl, by kernel_rfl, by kernel_rfl, by kernel_rfl, by kernel_rfl, by kernel_rfl, by kernel_rfl, by kernel_rfl, by kernel_rfl⟩ rfl rfl rfl rfl rfl rfl rfl rfl rfl rfl rfl rfl rfl rfl rfl rfl rfl rfl (by decide) (by decide) (by decide) (by decide) (by decide) ?_ rfl rfl rfl ?_ rfl ?_ rfl rfl rfl rfl rfl rfl rfl rfl rfl ?_ ?_ ?_
    · rintro q ⟨⟩
      decide
    · simp [T.rows_len]
    · exact zero_ones
    · rw [T.rows_len]
      have := hs.le
      simp only [List.length_cons] at this hks ⊢
      omega
    · rw [T.rows_len]
      have := hs.le
      simp only [List.length_cons] at this hks ⊢
      omega
    · repeat (first
        | refine AW.seq ?_
        | refine AW.reg ?_
        | refine Reg.opS tab_ok (hint := []) rfl rfl rfl rfl rfl trivial ?_
        | refine Reg.opN tab_ok (hint := []) rfl rfl rfl rfl trivial ?_
        | refine Reg.nil ?_
        | refine thenA_normal ?_
        | refine AW.condT rfl ?_
        | refine AW.condF rfl ?_
        | refine AW.skip ?_
        | refine AW.block ?_
        | refine AW.exit ?_
        | refine AW.ret ?_
        | refine thenA_exit ?_
        | refine thenA_ret ?_
        | refine blockA_normal ?_
        | refine blockA_hit ?_
        | refine blockA_miss rfl ?_
        | refine blockA_ret ?_
        | refine Reg.panic rfl rfl rfl rfl ?_
        | refine thenA_panic ?_
        | refine blockA_panic ?_)
      refine ⟨(m, ks ++ [d], u2 :: r2), ⟨⟨hs2, u2, r2, rfl⟩, ?_, ?_, hR⟩, ?_, ⟨.refl _, .refl _, trivial⟩, ⟨SLes.refl _, ⟨ownSnoc' 2 ks d, trivial⟩, ⟨rfl, by simp [T.rows_len]⟩, trivial⟩, rfl, rfl⟩
      · have := declP_short _ _ _ hn
        simp only [List.length_cons] at this hlen ⊢
        omega
      · have := declP_short _ _ _ hn
        simp only [List.length_cons, List.length_append, List.length_nil] at this hks ⊢
        omega
      · simp

theorem callable26 : Callable Tryd.prog 26 := ⟨_, Tryd.func26, rfl, rfl⟩

end Go.Proofs.YtamkldohfhidiaaDoor
