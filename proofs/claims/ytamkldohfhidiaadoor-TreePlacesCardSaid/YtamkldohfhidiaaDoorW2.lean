import Derived.Test.YtamkldohfhidiaaDoorW1
namespace Go.Proofs.YtamkldohfhidiaaDoor
open Go Go.Abs

variable {G : Glob} {toks s : List Tok} {f : Bool} {t : Tok}

def DimOk (G : Glob) (d : Nat) : Prop := ∀ (l : Int) (toks : List Tok) (f : Bool) (t : Tok) (s : List Tok), l + d = 201 → 1 ≤ l → Suf toks (t :: s) →
  ACalls Tryd.prog G 80 [.ptr 0 0, .d (.val (.int .i64 l))] [rd toks f (t :: s)] (PRout toks f treeV (dimP d (t :: s)))

theorem callable80 : Callable Tryd.prog 80 := ⟨_, Tryd.func80, rfl, rfl⟩
theorem callable101 : Callable Tryd.prog 101 := ⟨_, Tryd.func101, rfl, rfl⟩
theorem callable110 : Callable Tryd.prog 110 := ⟨_, Tryd.func110, rfl, rfl⟩

/-- An empty tree's box. -/
def tB0 : Box := .cells [.d (.val (.int .i64 0)), .d (.val (.string ⟨#[]⟩)), .d (.sl 5 [] true), .d (.sl 1 [] true), .d (.val (.int .i64 0))]

theorem meet_any {d : Nat} (hd : DimOk G d) {l : Int} (hl : l + d = 201) (hl1 : 1 ≤ l) (h : Suf toks (t :: s)) :
    ACalls Tryd.prog G 110 [.ptr 0 0, .d (.val (.int .i64 l))] [rd toks f (t :: s)] (PRout toks f treeV (meetP (dimP d) (t :: s))) := by
  generalize hR : meetP (dimP d) (t :: s) = R
  unfold meetP at hR
  refine ACalls.body tab_ok Tryd.func110 rfl rfl ?_
  repeat (first
    | refine AW.seq ?_
    | refine AW.reg ?_
    | refine Reg.opS tab_ok (hint := []) rfl rfl rfl rfl rfl trivial ?_
    | refine Reg.opN tab_ok (hint := []) rfl rfl rfl rfl trivial ?_
    | refine Reg.nil ?_
    | refine thenA_normal ?_
    | refine AW.condT rfl ?_
    | refine AW.condF rfl ?_
    | refine AW.skip ?_
    | refine AW.block ?_
    | refine AW.exit ?_
    | refine AW.ret ?_
    | refine thenA_exit ?_
    | refine thenA_ret ?_
    | refine blockA_normal ?_
    | refine blockA_hit ?_
    | refine blockA_miss rfl ?_
    | refine blockA_ret ?_
    | refine Reg.panic rfl rfl rfl rfl ?_
    | refine thenA_panic ?_
    | refine blockA_panic ?_)
  refine Reg.call tab_ok [0] (hd l toks f t s hl hl1 h) callable80 rfl (.inl rfl) rfl rfl rfl (by decide) rfl rfl ?_
  intro out bx1 ho
  rcases hn : dimP d (t :: s) with ⟨x, r0⟩ | ⟨p, e⟩
  rotate_left
  · rw [hn] at ho
    simp only [hn, PR.err_bind] at hR
    obtain ⟨rfl, s0, rfl⟩ := ho
    refine after1p rfl rfl rfl ?_
    repeat (first
      | refine AW.seq ?_
      | refine AW.reg ?_
      | refine Reg.opS tab_ok (hint := []) rfl rfl rfl rfl rfl trivial ?_
      | refine Reg.opN tab_ok (hint := []) rfl rfl rfl rfl trivial ?_
      | refine Reg.nil ?_
      | refine thenA_normal ?_
      | refine AW.condT rfl ?_
      | refine AW.condF rfl ?_
      | refine AW.skip ?_
      | refine AW.block ?_
      | refine AW.exit ?_
      | refine AW.ret ?_
      | refine thenA_exit ?_
      | refine thenA_ret ?_
      | refine blockA_normal ?_
      | refine blockA_hit ?_
      | refine blockA_miss rfl ?_
      | refine blockA_ret ?_
      | refine Reg.panic rfl rfl rfl rfl ?_
      | refine thenA_panic ?_
      | refine blockA_panic ?_)
    subst hR
    exact ⟨rfl, rfl, _, rfl⟩
  rw [hn] at ho
  simp only [hn, PR.ok_bind] at hR
  obtain ⟨⟨rfl, rfl⟩, hs, u, r, rfl⟩ := ho
  refine after1 rfl rfl rfl rfl rfl ?_
  have hsm := h.small
  have hle := hs.le
  repeat (first
    | refine AW.seq ?_
    | refine AW.reg ?_
    | refine Reg.opS tab_ok (hint := []) rfl rfl rfl rfl rfl trivial ?_
    | refine Reg.opN tab_ok (hint := []) rfl rfl rfl rfl trivial ?_
    | refine Reg.nil ?_
    | refine thenA_normal ?_
    | refine AW.condT rfl ?_
    | refine AW.condF rfl ?_
    | refine AW.skip ?_
    | refine AW.block ?_
    | refine AW.exit ?_
    | refine AW.ret ?_
    | refine thenA_exit ?_
    | refine thenA_ret ?_
    | refine blockA_normal ?_
    | refine blockA_hit ?_
    | refine blockA_miss rfl ?_
    | refine blockA_ret ?_
    | refine Reg.panic rfl rfl rfl rfl ?_
    | refine thenA_panic ?_
    | refine blockA_panic ?_)
  refine AW.loop (S := Nat × T × List Tok) (fun st => Live toks st.2.2 ∧ st.2.2.length < st.1 ∧ meetL (dimP d) st.1 st.2.1 st.2.2 = R)
    (fun st => [(0, .ptr 0 0), (1, .d (.val (.int .i64 l))), (4, .ptr 1 0), (5, .ptr 2 0)])
    (fun st => [rd toks f st.2.2, tB0, tB st.2.1]) (fun st => st.1) (rounds, x, u :: r)
    ⟨⟨hs, u, r, rfl⟩, by unfold rounds; simp only; omega, hR⟩ (fun _ => rfl) ⟨⟨.refl _, .refl _, .refl _, .refl _, trivial⟩, BxLe.refl _, rfl, rfl⟩ ?_
  clear hR hs hn hle
  rintro ⟨n, y, s'⟩ ⟨⟨hs, u, r', rfl⟩, hlen, hR⟩
  simp only at hlen hR
  obtain ⟨m, rfl⟩ : ∃ m, n = m + 1 := ⟨n - 1, by simp at hlen; omega⟩
  repeat (first
    | refine AW.seq ?_
    | refine AW.reg ?_
    | refine Reg.opS tab_ok (hint := []) rfl rfl rfl rfl rfl trivial ?_
    | refine Reg.opN tab_ok (hint := []) rfl rfl rfl rfl trivial ?_
    | refine Reg.nil ?_
    | refine thenA_normal ?_
    | refine AW.condT rfl ?_
    | refine AW.condF rfl ?_
    | refine AW.skip ?_
    | refine AW.block ?_
    | refine AW.exit ?_
    | refine AW.ret ?_
    | refine thenA_exit ?_
    | refine thenA_ret ?_
    | refine blockA_normal ?_
    | refine blockA_hit ?_
    | refine blockA_miss rfl ?_
    | refine blockA_ret ?_
    | refine Reg.panic rfl rfl rfl rfl ?_
    | refine thenA_panic ?_
    | refine blockA_panic ?_)
  refine Reg.call tab_ok [0] (sees_any (bs [47, 92]) hs) callable48 rfl (.inl rfl) rfl rfl rfl (by decide) rfl rfl ?_
  rintro out bx1 ⟨rfl, rfl⟩
  refine after1 rfl rfl rfl rfl rfl ?_
  repeat (first
    | refine AW.seq ?_
    | refine AW.reg ?_
    | refine Reg.opS tab_ok (hint := []) rfl rfl rfl rfl rfl trivial ?_
    | refine Reg.opN tab_ok (hint := []) rfl rfl rfl rfl trivial ?_
    | refine Reg.nil ?_
    | refine thenA_normal ?_
    | refine AW.condT rfl ?_
    | refine AW.condF rfl ?_
    | refine AW.skip ?_
    | refine AW.block ?_
    | refine AW.exit ?_
    | refine AW.ret ?_
    | refine thenA_exit ?_
    | refine thenA_ret ?_
    | refine blockA_normal ?_
    | refine blockA_hit ?_
    | refine blockA_miss rfl ?_
    | refine blockA_ret ?_
    | refine Reg.panic rfl rfl rfl rfl ?_
    | refine thenA_panic ?_
    | refine blockA_panic ?_)
  cases hb : seesB (bs [47, 92]) (u :: r') with
  | false =>
    simp only [meetL, hb] at hR
    subst hR
    repeat (first
      | refine AW.seq ?_
      | refine AW.reg ?_
      | refine Reg.opS tab_ok (hint := []) rfl rfl rfl rfl rfl trivial ?_
      | refine Reg.opN tab_ok (hint := []) rfl rfl rfl rfl trivial ?_
      | refine Reg.nil ?_
      | refine thenA_normal ?_
      | refine AW.condT rfl ?_
      | refine AW.condF rfl ?_
      | refine AW.skip ?_
      | refine AW.block ?_
      | refine AW.exit ?_
      | refine AW.ret ?_
      | refine thenA_exit ?_
      | refine thenA_ret ?_
      | refine blockA_normal ?_
      | refine blockA_hit ?_
      | refine blockA_miss rfl ?_
      | refine blockA_ret ?_
      | refine Reg.panic rfl rfl rfl rfl ?_
      | refine thenA_panic ?_
      | refine blockA_panic ?_)
    exact ⟨_, rfl, rfl, rfl, ⟨rfl, rfl⟩, hs, u, r', rfl⟩
  | true =>
    simp only [meetL, hb, if_true, List.tail_cons] at hR
    have hs' : Suf toks (u :: r') := hs
    obtain ⟨hs2, v, r2, rfl⟩ := hs'.live (sees_kind hb)
    repeat (first
      | refine AW.seq ?_
      | refine AW.reg ?_
      | refine Reg.opS tab_ok (hint := []) rfl rfl rfl rfl rfl trivial ?_
      | refine Reg.opN tab_ok (hint := []) rfl rfl rfl rfl trivial ?_
      | refine Reg.nil ?_
      | refine thenA_normal ?_
      | refine AW.condT rfl ?_
      | refine AW.condF rfl ?_
      | refine AW.skip ?_
      | refine AW.block ?_
      | refine AW.exit ?_
      | refine AW.ret ?_
      | refine thenA_exit ?_
      | refine thenA_ret ?_
      | refine blockA_normal ?_
      | refine blockA_hit ?_
      | refine blockA_miss rfl ?_
      | refine blockA_ret ?_
      | refine Reg.panic rfl rfl rfl rfl ?_
      | refine thenA_panic ?_
      | refine blockA_panic ?_)
    rw [hs'.nextL (f := f)]
    refine AW.draw [5, 7, 8] [0, 1, 2, 3, 4, 5, 6, 7, 8] mixed ⟨rfl, rfl, rfl, rfl, by decide⟩ ?_
    iterate 5 refine RegD.pureS tab_ok (hint := []) rfl rfl rfl rfl rfl rfl trivial ?_
    refine RegD.call tab_ok [0] [2, 1, 0] (hd l toks f v r2 hl hl1 hs2) callable80 rfl rfl rfl rfl rfl rfl rfl rfl (by decide) rfl rfl ?_
    intro out bx1 ho
    rcases hn2 : dimP d (v :: r2) with ⟨z, r0⟩ | ⟨p, e⟩
    rotate_left
    · rw [hn2] at ho
      simp only [hn2, PR.err_bind] at hR
      obtain ⟨rfl, s0, rfl⟩ := ho
      refine after1Dp rfl rfl rfl ?_
      repeat (first
        | refine AW.seq ?_
        | refine AW.reg ?_
        | refine Reg.opS tab_ok (hint := []) rfl rfl rfl rfl rfl trivial ?_
        | refine Reg.opN tab_ok (hint := []) rfl rfl rfl rfl trivial ?_
        | refine Reg.nil ?_
        | refine thenA_normal ?_
        | refine AW.condT rfl ?_
        | refine AW.condF rfl ?_
        | refine AW.skip ?_
        | refine AW.block ?_
        | refine AW.exit ?_
        | refine AW.ret ?_
        | refine thenA_exit ?_
        | refine thenA_ret ?_
        | refine blockA_normal ?_
        | refine blockA_hit ?_
        | refine blockA_miss rfl ?_
        | refine blockA_ret ?_
        | refine Reg.panic rfl rfl rfl rfl ?_
        | refine thenA_panic ?_
        | refine blockA_panic ?_)
      subst hR
      exact ⟨rfl, rfl, _, rfl⟩
    rw [hn2] at ho
    simp only [hn2, PR.ok_bind] at hR
    obtain ⟨⟨rfl, rfl⟩, hs3, w, r3, rfl⟩ := ho
    refine after1D rfl rfl rfl rfl rfl (by exact Stable.cons tab_ok (hint := []) rfl rfl rfl rfl trivial (Stable.cons tab_ok (hint := []) rfl rfl rfl rfl trivial (Stable.cons tab_ok (hint := []) rfl rfl rfl rfl trivial (Stable.nil)))) ?_
    iterate 1 refine RegD.pureS tab_ok (hint := []) rfl rfl rfl rfl rfl rfl trivial ?_
    refine RegD.call tab_ok [] [] (of_any 15 y.at_ [tC y, tC z] true) callable55 rfl rfl rfl rfl rfl rfl rfl rfl (by decide) rfl rfl ?_
    rintro out bx1 ⟨rfl, rfl⟩
    refine after0D rfl rfl Stable.nil ?_
    refine RegD.effS tab_ok (hint := []) [] rfl rfl rfl rfl rfl rfl rfl trivial Stable.nil ?_
    refine RegD.nil ?_
    repeat (first
      | refine AW.seq ?_
      | refine AW.reg ?_
      | refine Reg.opS tab_ok (hint := []) rfl rfl rfl rfl rfl trivial ?_
      | refine Reg.opN tab_ok (hint := []) rfl rfl rfl rfl trivial ?_
      | refine Reg.nil ?_
      | refine thenA_normal ?_
      | refine AW.condT rfl ?_
      | refine AW.condF rfl ?_
      | refine AW.skip ?_
      | refine AW.block ?_
      | refine AW.exit ?_
      | refine AW.ret ?_
      | refine thenA_exit ?_
      | refine thenA_ret ?_
      | refine blockA_normal ?_
      | refine blockA_hit ?_
      | refine blockA_miss rfl ?_
      | refine blockA_ret ?_
      | refine Reg.panic rfl rfl rfl rfl ?_
      | refine thenA_panic ?_
      | refine blockA_panic ?_)
    refine ⟨(m, .mk 15 (bs []) [y, z] [] y.at_, w :: r3), ⟨⟨hs3, w, r3, rfl⟩, ?_, hR⟩, ?_, ⟨.refl _, .refl _, .refl _, .refl _, trivial⟩, ⟨SLes.refl _, SLes.refl _, tB_le ?_ rfl trivial⟩, rfl, rfl⟩
    · have := dimP_short d _ _ _ hn2
      simp only [List.length_cons] at this hlen ⊢
      omega
    · simp
    · simp only [T.rows_cons, T.rows_nil]

theorem join_any {d : Nat} (hd : DimOk G d) {l : Int} (hl : l + d = 201) (hl1 : 1 ≤ l) (h : Suf toks (t :: s)) :
    ACalls Tryd.prog G 101 [.ptr 0 0, .d (.val (.int .i64 l))] [rd toks f (t :: s)] (PRout toks f treeV (joinP (dimP d) (t :: s))) := by
  generalize hR : joinP (dimP d) (t :: s) = R
  unfold joinP at hR
  refine ACalls.body tab_ok Tryd.func101 rfl rfl ?_
  repeat (first
    | refine AW.seq ?_
    | refine AW.reg ?_
    | refine Reg.opS tab_ok (hint := []) rfl rfl rfl rfl rfl trivial ?_
    | refine Reg.opN tab_ok (hint := []) rfl rfl rfl rfl trivial ?_
    | refine Reg.nil ?_
    | refine thenA_normal ?_
    | refine AW.condT rfl ?_
    | refine AW.condF rfl ?_
    | refine AW.skip ?_
    | refine AW.block ?_
    | refine AW.exit ?_
    | refine AW.ret ?_
    | refine thenA_exit ?_
    | refine thenA_ret ?_
    | refine blockA_normal ?_
    | refine blockA_hit ?_
    | refine blockA_miss rfl ?_
    | refine blockA_ret ?_
    | refine Reg.panic rfl rfl rfl rfl ?_
    | refine thenA_panic ?_
    | refine blockA_panic ?_)
  refine Reg.call tab_ok [0] (meet_any hd hl hl1 h) callable110 rfl (.inl rfl) rfl rfl rfl (by decide) rfl rfl ?_
  intro out bx1 ho
  rcases hn : meetP (dimP d) (t :: s) with ⟨x, r0⟩ | ⟨p, e⟩
  rotate_left
  · rw [hn] at ho
    simp only [hn, PR.err_bind] at hR
    obtain ⟨rfl, s0, rfl⟩ := ho
    refine after1p rfl rfl rfl ?_
    repeat (first
      | refine AW.seq ?_
      | refine AW.reg ?_
      | refine Reg.opS tab_ok (hint := []) rfl rfl rfl rfl rfl trivial ?_
      | refine Reg.opN tab_ok (hint := []) rfl rfl rfl rfl trivial ?_
      | refine Reg.nil ?_
      | refine thenA_normal ?_
      | refine AW.condT rfl ?_
      | refine AW.condF rfl ?_
      | refine AW.skip ?_
      | refine AW.block ?_
      | refine AW.exit ?_
      | refine AW.ret ?_
      | refine thenA_exit ?_
      | refine thenA_ret ?_
      | refine blockA_normal ?_
      | refine blockA_hit ?_
      | refine blockA_miss rfl ?_
      | refine blockA_ret ?_
      | refine Reg.panic rfl rfl rfl rfl ?_
      | refine thenA_panic ?_
      | refine blockA_panic ?_)
    subst hR
    exact ⟨rfl, rfl, _, rfl⟩
  rw [hn] at ho
  simp only [hn, PR.ok_bind] at hR
  obtain ⟨⟨rfl, rfl⟩, hs, u, r, rfl⟩ := ho
  refine after1 rfl rfl rfl rfl rfl ?_
  have hsm := h.small
  have hle := hs.le
  repeat (first
    | refine AW.seq ?_
    | refine AW.reg ?_
    | refine Reg.opS tab_ok (hint := []) rfl rfl rfl rfl rfl trivial ?_
    | refine Reg.opN tab_ok (hint := []) rfl rfl rfl rfl trivial ?_
    | refine Reg.nil ?_
    | refine thenA_normal ?_
    | refine AW.condT rfl ?_
    | refine AW.condF rfl ?_
    | refine AW.skip ?_
    | refine AW.block ?_
    | refine AW.exit ?_
    | refine AW.ret ?_
    | refine thenA_exit ?_
    | refine thenA_ret ?_
    | refine blockA_normal ?_
    | refine blockA_hit ?_
    | refine blockA_miss rfl ?_
    | refine blockA_ret ?_
    | refine Reg.panic rfl rfl rfl rfl ?_
    | refine thenA_panic ?_
    | refine blockA_panic ?_)
  refine AW.loop (S := Nat × T × List Tok) (fun st => Live toks st.2.2 ∧ st.2.2.length < st.1 ∧ joinL (dimP d) st.1 st.2.1 st.2.2 = R)
    (fun st => [(0, .ptr 0 0), (1, .d (.val (.int .i64 l))), (4, .ptr 1 0), (5, .ptr 2 0)])
    (fun st => [rd toks f st.2.2, tB0, tB st.2.1]) (fun st => st.1) (rounds, x, u :: r)
    ⟨⟨hs, u, r, rfl⟩, by unfold rounds; simp only; omega, hR⟩ (fun _ => rfl) ⟨⟨.refl _, .refl _, .refl _, .refl _, trivial⟩, BxLe.refl _, rfl, rfl⟩ ?_
  clear hR hs hn hle
  rintro ⟨n, y, s'⟩ ⟨⟨hs, u, r', rfl⟩, hlen, hR⟩
  simp only at hlen hR
  obtain ⟨m, rfl⟩ : ∃ m, n = m + 1 := ⟨n - 1, by simp at hlen; omega⟩
  repeat (first
    | refine AW.seq ?_
    | refine AW.reg ?_
    | refine Reg.opS tab_ok (hint := []) rfl rfl rfl rfl rfl trivial ?_
    | refine Reg.opN tab_ok (hint := []) rfl rfl rfl rfl trivial ?_
    | refine Reg.nil ?_
    | refine thenA_normal ?_
    | refine AW.condT rfl ?_
    | refine AW.condF rfl ?_
    | refine AW.skip ?_
    | refine AW.block ?_
    | refine AW.exit ?_
    | refine AW.ret ?_
    | refine thenA_exit ?_
    | refine thenA_ret ?_
    | refine blockA_normal ?_
    | refine blockA_hit ?_
    | refine blockA_miss rfl ?_
    | refine blockA_ret ?_
    | refine Reg.panic rfl rfl rfl rfl ?_
    | refine thenA_panic ?_
    | refine blockA_panic ?_)
  refine Reg.call tab_ok [0] (sees_any (bs [92, 47]) hs) callable48 rfl (.inl rfl) rfl rfl rfl (by decide) rfl rfl ?_
  rintro out bx1 ⟨rfl, rfl⟩
  refine after1 rfl rfl rfl rfl rfl ?_
  repeat (first
    | refine AW.seq ?_
    | refine AW.reg ?_
    | refine Reg.opS tab_ok (hint := []) rfl rfl rfl rfl rfl trivial ?_
    | refine Reg.opN tab_ok (hint := []) rfl rfl rfl rfl trivial ?_
    | refine Reg.nil ?_
    | refine thenA_normal ?_
    | refine AW.condT rfl ?_
    | refine AW.condF rfl ?_
    | refine AW.skip ?_
    | refine AW.block ?_
    | refine AW.exit ?_
    | refine AW.ret ?_
    | refine thenA_exit ?_
    | refine thenA_ret ?_
    | refine blockA_normal ?_
    | refine blockA_hit ?_
    | refine blockA_miss rfl ?_
    | refine blockA_ret ?_
    | refine Reg.panic rfl rfl rfl rfl ?_
    | refine thenA_panic ?_
    | refine blockA_panic ?_)
  cases hb : seesB (bs [92, 47]) (u :: r') with
  | false =>
    simp only [joinL, hb] at hR
    subst hR
    repeat (first
      | refine AW.seq ?_
      | refine AW.reg ?_
      | refine Reg.opS tab_ok (hint := []) rfl rfl rfl rfl rfl trivial ?_
      | refine Reg.opN tab_ok (hint := []) rfl rfl rfl rfl trivial ?_
      | refine Reg.nil ?_
      | refine thenA_normal ?_
      | refine AW.condT rfl ?_
      | refine AW.condF rfl ?_
      | refine AW.skip ?_
      | refine AW.block ?_
      | refine AW.exit ?_
      | refine AW.ret ?_
      | refine thenA_exit ?_
      | refine thenA_ret ?_
      | refine blockA_normal ?_
      | refine blockA_hit ?_
      | refine blockA_miss rfl ?_
      | refine blockA_ret ?_
      | refine Reg.panic rfl rfl rfl rfl ?_
      | refine thenA_panic ?_
      | refine blockA_panic ?_)
    exact ⟨_, rfl, rfl, rfl, ⟨rfl, rfl⟩, hs, u, r', rfl⟩
  | true =>
    simp only [joinL, hb, if_true, List.tail_cons] at hR
    have hs' : Suf toks (u :: r') := hs
    obtain ⟨hs2, v, r2, rfl⟩ := hs'.live (sees_kind hb)
    repeat (first
      | refine AW.seq ?_
      | refine AW.reg ?_
      | refine Reg.opS tab_ok (hint := []) rfl rfl rfl rfl rfl trivial ?_
      | refine Reg.opN tab_ok (hint := []) rfl rfl rfl rfl trivial ?_
      | refine Reg.nil ?_
      | refine thenA_normal ?_
      | refine AW.condT rfl ?_
      | refine AW.condF rfl ?_
      | refine AW.skip ?_
      | refine AW.block ?_
      | refine AW.exit ?_
      | refine AW.ret ?_
      | refine thenA_exit ?_
      | refine thenA_ret ?_
      | refine blockA_normal ?_
      | refine blockA_hit ?_
      | refine blockA_miss rfl ?_
      | refine blockA_ret ?_
      | refine Reg.panic rfl rfl rfl rfl ?_
      | refine thenA_panic ?_
      | refine blockA_panic ?_)
    rw [hs'.nextL (f := f)]
    refine AW.draw [5, 7, 8] [0, 1, 2, 3, 4, 5, 6, 7, 8] mixed ⟨rfl, rfl, rfl, rfl, by decide⟩ ?_
    iterate 5 refine RegD.pureS tab_ok (hint := []) rfl rfl rfl rfl rfl rfl trivial ?_
    refine RegD.call tab_ok [0] [2, 1, 0] (meet_any hd hl hl1 hs2) callable110 rfl rfl rfl rfl rfl rfl rfl rfl (by decide) rfl rfl ?_
    intro out bx1 ho
    rcases hn2 : meetP (dimP d) (v :: r2) with ⟨z, r0⟩ | ⟨p, e⟩
    rotate_left
    · rw [hn2] at ho
      simp only [hn2, PR.err_bind] at hR
      obtain ⟨rfl, s0, rfl⟩ := ho
      refine after1Dp rfl rfl rfl ?_
      repeat (first
        | refine AW.seq ?_
        | refine AW.reg ?_
        | refine Reg.opS tab_ok (hint := []) rfl rfl rfl rfl rfl trivial ?_
        | refine Reg.opN tab_ok (hint := []) rfl rfl rfl rfl trivial ?_
        | refine Reg.nil ?_
        | refine thenA_normal ?_
        | refine AW.condT rfl ?_
        | refine AW.condF rfl ?_
        | refine AW.skip ?_
        | refine AW.block ?_
        | refine AW.exit ?_
        | refine AW.ret ?_
        | refine thenA_exit ?_
        | refine thenA_ret ?_
        | refine blockA_normal ?_
        | refine blockA_hit ?_
        | refine blockA_miss rfl ?_
        | refine blockA_ret ?_
        | refine Reg.panic rfl rfl rfl rfl ?_
        | refine thenA_panic ?_
        | refine blockA_panic ?_)
      subst hR
      exact ⟨rfl, rfl, _, rfl⟩
    rw [hn2] at ho
    simp only [hn2, PR.ok_bind] at hR
    obtain ⟨⟨rfl, rfl⟩, hs3, w, r3, rfl⟩ := ho
    refine after1D rfl rfl rfl rfl rfl (by exact Stable.cons tab_ok (hint := []) rfl rfl rfl rfl trivial (Stable.cons tab_ok (hint := []) rfl rfl rfl rfl trivial (Stable.cons tab_ok (hint := []) rfl rfl rfl rfl trivial (Stable.nil)))) ?_
    iterate 1 refine RegD.pureS tab_ok (hint := []) rfl rfl rfl rfl rfl rfl trivial ?_
    refine RegD.call tab_ok [] [] (of_any 14 y.at_ [tC y, tC z] true) callable55 rfl rfl rfl rfl rfl rfl rfl rfl (by decide) rfl rfl ?_
    rintro out bx1 ⟨rfl, rfl⟩
    refine after0D rfl rfl Stable.nil ?_
    refine RegD.effS tab_ok (hint := []) [] rfl rfl rfl rfl rfl rfl rfl trivial Stable.nil ?_
    refine RegD.nil ?_
    repeat (first
      | refine AW.seq ?_
      | refine AW.reg ?_
      | refine Reg.opS tab_ok (hint := []) rfl rfl rfl rfl rfl trivial ?_
      | refine Reg.opN tab_ok (hint := []) rfl rfl rfl rfl trivial ?_
      | refine Reg.nil ?_
      | refine thenA_normal ?_
      | refine AW.condT rfl ?_
      | refine AW.condF rfl ?_
      | refine AW.skip ?_
      | refine AW.block ?_
      | refine AW.exit ?_
      | refine AW.ret ?_
      | refine thenA_exit ?_
      | refine thenA_ret ?_
      | refine blockA_normal ?_
      | refine blockA_hit ?_
      | refine blockA_miss rfl ?_
      | refine blockA_ret ?_
      | refine Reg.panic rfl rfl rfl rfl ?_
      | refine thenA_panic ?_
      | refine blockA_panic ?_)
    refine ⟨(m, .mk 14 (bs []) [y, z] [] y.at_, w :: r3), ⟨⟨hs3, w, r3, rfl⟩, ?_, hR⟩, ?_, ⟨.refl _, .refl _, .refl _, .refl _, trivial⟩, ⟨SLes.refl _, SLes.refl _, tB_le ?_ rfl trivial⟩, rfl, rfl⟩
    · have := meetP_short (dimP_short d) _ _ _ hn2
      simp only [List.length_cons] at this hlen ⊢
      omega
    · simp
    · simp only [T.rows_cons, T.rows_nil]

end Go.Proofs.YtamkldohfhidiaaDoor
