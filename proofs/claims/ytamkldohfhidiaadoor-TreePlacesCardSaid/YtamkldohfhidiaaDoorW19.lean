import Derived.Test.YtamkldohfhidiaaDoorW18
namespace Go.Abs
/-- The text of the token that begins at a place. -/
def beginsP (l : List Tok) (a : Int) : Option ByteArray := (l.find? fun x => x.at_ == a).map (·.text)
mutual
/-- Do a tree and its parts begin at tokens, none ahead of the whole? -/
def withinP (l : List Tok) : T → Int → Bool
  | .mk k n ks _ a, lo => match beginsP l a with
    | none => false
    | some x => !(decide (a < lo) || (decide (k < 1) || (decide (k > 17) || ((k == 1) && !(x.toList == n.toList))))) && withinsP l ks a
def withinsP (l : List Tok) : List T → Int → Bool
  | [], _ => true
  | t :: ts, lo => withinP l t lo && withinsP l ts lo
end
end Go.Abs
namespace Go.Proofs.YtamkldohfhidiaaDoor
open Go Go.Abs

theorem lists_any {G : Glob} (la bs' : List T) (f g : Bool) (hs : T.szs la ≤ 1000000000) (w : Bool) : ACalls Tryd.prog G 15 [.d (.sl 5 (T.rows la) f), .d (.sl 5 (T.rows bs') g), .d (.val (.bool w))] [] fun out x =>
    out = .ret (.d (.val (.bool (samesP w la bs')))) ∧ x = [] := by
  have h := same_any (G := G) 2000000000 (.mk 0 (bs []) la [] 0) (by simp only [T.sz, List.length_nil]; omega) (by omega) (.mk 0 (bs []) bs' [] 0) w
  have e : sameP w (.mk 0 (bs []) la [] 0) (.mk 0 (bs []) bs' [] 0) = samesP w la bs' := by simp [sameP, strsP]
  rw [e] at h
  have h2 := ACalls.argLe (args := [.d (.agg [.val (.int .i64 0), .val (.string ⟨#[]⟩), .sl 5 (T.rows la) f, .sl 1 [] true, .val (.int .i64 0)]), .d (.agg [.val (.int .i64 0), .val (.string ⟨#[]⟩), .sl 5 (T.rows bs') g, .sl 1 [] true, .val (.int .i64 0)]), .d (.val (.bool w))]) h
    ⟨tC_le rfl rfl, tC_le rfl rfl, .refl _, trivial⟩
  refine ACalls.body tab_ok Tryd.func15 rfl rfl ?_
  repeat (first
    | refine AW.seq ?_
    | refine AW.reg ?_
    | refine Reg.opS tab_ok (hint := []) rfl rfl rfl rfl rfl trivial ?_
    | refine Reg.opN tab_ok (hint := []) rfl rfl rfl rfl trivial ?_
    | refine Reg.nil ?_
    | refine thenA_normal ?_
    | refine AW.condT rfl ?_
    | refine AW.condF rfl ?_
    | refine AW.skip ?_
    | refine AW.block ?_
    | refine AW.exit ?_
    | refine AW.ret ?_
    | refine thenA_exit ?_
    | refine thenA_ret ?_
    | refine blockA_normal ?_
    | refine blockA_hit ?_
    | refine blockA_miss rfl ?_
    | refine blockA_ret ?_
    | refine Reg.panic rfl rfl rfl rfl ?_
    | refine thenA_panic ?_
    | refine blockA_panic ?_
    | refine Reg.skip rfl rfl rfl rfl rfl rfl rfl rfl ?_
    | refine Reg.ifS tab_ok (hint := []) rfl rfl rfl rfl rfl rfl rfl rfl rfl trivial ?_
    | refine AW.label ?_
    | refine AW.scope ?_
    | refine scopeA_normal ?_
    | refine scopeA_ret ?_
    | refine scopeA_exit ?_)
  refine Reg.call tab_ok [] (h2) callable12 rfl (.inl rfl) rfl rfl rfl (by decide) rfl rfl ?_
  rintro out bx1 ⟨rfl, rfl⟩
  refine after0 rfl rfl ?_
  repeat (first
    | refine AW.seq ?_
    | refine AW.reg ?_
    | refine Reg.opS tab_ok (hint := []) rfl rfl rfl rfl rfl trivial ?_
    | refine Reg.opN tab_ok (hint := []) rfl rfl rfl rfl trivial ?_
    | refine Reg.nil ?_
    | refine thenA_normal ?_
    | refine AW.condT rfl ?_
    | refine AW.condF rfl ?_
    | refine AW.skip ?_
    | refine AW.block ?_
    | refine AW.exit ?_
    | refine AW.ret ?_
    | refine thenA_exit ?_
    | refine thenA_ret ?_
    | refine blockA_normal ?_
    | refine blockA_hit ?_
    | refine blockA_miss rfl ?_
    | refine blockA_ret ?_
    | refine Reg.panic rfl rfl rfl rfl ?_
    | refine thenA_panic ?_
    | refine blockA_panic ?_
    | refine Reg.skip rfl rfl rfl rfl rfl rfl rfl rfl ?_
    | refine Reg.ifS tab_ok (hint := []) rfl rfl rfl rfl rfl rfl rfl rfl rfl trivial ?_
    | refine AW.label ?_
    | refine AW.scope ?_
    | refine scopeA_normal ?_
    | refine scopeA_ret ?_
    | refine scopeA_exit ?_)
  exact ⟨_, rfl, rfl, rfl, rfl, rfl⟩

theorem callable15 : Callable Tryd.prog 15 := ⟨_, Tryd.func15, rfl, rfl⟩

theorem toks_at {l : List Tok} {i : Nat} {x : Tok} {r : List Tok} (h : l.drop i = x :: r) : (l.map tokC)[i]? = some (tokC x) := by
  have h1 : l[i]? = some x := by
    have := List.getElem?_drop (xs := l) (i := i) (j := 0)
    rw [h] at this
    simpa using this.symm
  rw [List.getElem?_map, h1]
  rfl

theorem begins_any {G : Glob} (l : List Tok) (f : Bool) (a : Int) (hl : l.length ≤ 1000000) : ACalls Tryd.prog G 32 [.d (.sl 3 (l.map tokC) f), .d (.val (.int .i64 a))] [] fun out x =>
    (match beginsP l a with
    | some t => out = .ret (.tup [.d (.val (.string t)), .d (.val (.bool true))])
    | none => out = .ret (.tup [.d (.val (.string ⟨#[]⟩)), .d (.val (.bool false))])) ∧ x = [] := by
  generalize hR : beginsP l a = R
  unfold beginsP at hR
  refine ACalls.body tab_ok Tryd.func32 rfl rfl ?_
  repeat (first
    | refine AW.seq ?_
    | refine AW.reg ?_
    | refine Reg.opS tab_ok (hint := []) rfl rfl rfl rfl rfl trivial ?_
    | refine Reg.opN tab_ok (hint := []) rfl rfl rfl rfl trivial ?_
    | refine Reg.nil ?_
    | refine thenA_normal ?_
    | refine AW.condT rfl ?_
    | refine AW.condF rfl ?_
    | refine AW.skip ?_
    | refine AW.block ?_
    | refine AW.exit ?_
    | refine AW.ret ?_
    | refine thenA_exit ?_
    | refine thenA_ret ?_
    | refine blockA_normal ?_
    | refine blockA_hit ?_
    | refine blockA_miss rfl ?_
    | refine blockA_ret ?_
    | refine Reg.panic rfl rfl rfl rfl ?_
    | refine thenA_panic ?_
    | refine blockA_panic ?_
    | refine Reg.skip rfl rfl rfl rfl rfl rfl rfl rfl ?_
    | refine Reg.ifS tab_ok (hint := []) rfl rfl rfl rfl rfl rfl rfl rfl rfl trivial ?_
    | refine AW.label ?_
    | refine AW.scope ?_
    | refine scopeA_normal ?_
    | refine scopeA_ret ?_
    | refine scopeA_exit ?_)
  refine AW.loop (S := Nat) (fun i => i ≤ l.length ∧ ((l.drop i).find? fun x => x.at_ == a).map (·.text) = R) (fun i => [(1, .d (.val (.int .i64 a))), (8, .d (.sl 3 (l.map tokC) f)), (9, .d (.val (.int .i64 (l.map tokC).length))), (10, .d (.val (.int .i64 i)))]) (fun _ => [])
    (fun i => l.length - i) 0 ⟨Nat.zero_le _, hR⟩ (fun _ => rfl) ⟨⟨.refl _, .refl _, .refl _, .refl _, trivial⟩, trivial, rfl, rfl⟩ ?_
  clear hR
  rintro i ⟨hi, hinv⟩
  repeat (first
    | refine AW.seq ?_
    | refine AW.reg ?_
    | refine Reg.opS tab_ok (hint := []) rfl rfl rfl rfl rfl trivial ?_
    | refine Reg.opN tab_ok (hint := []) rfl rfl rfl rfl trivial ?_
    | refine Reg.nil ?_
    | refine thenA_normal ?_
    | refine AW.condT rfl ?_
    | refine AW.condF rfl ?_
    | refine AW.skip ?_
    | refine AW.block ?_
    | refine AW.exit ?_
    | refine AW.ret ?_
    | refine thenA_exit ?_
    | refine thenA_ret ?_
    | refine blockA_normal ?_
    | refine blockA_hit ?_
    | refine blockA_miss rfl ?_
    | refine blockA_ret ?_
    | refine Reg.panic rfl rfl rfl rfl ?_
    | refine thenA_panic ?_
    | refine blockA_panic ?_
    | refine Reg.skip rfl rfl rfl rfl rfl rfl rfl rfl ?_
    | refine Reg.ifS tab_ok (hint := []) rfl rfl rfl rfl rfl rfl rfl rfl rfl trivial ?_
    | refine AW.label ?_
    | refine AW.scope ?_
    | refine scopeA_normal ?_
    | refine scopeA_ret ?_
    | refine scopeA_exit ?_)
  cases h6 : decide ((i : Int) < (l.map tokC).length) with
  | false =>
    have hge : l.length ≤ i := by have := of_decide_eq_false h6; rw [List.length_map] at this; omega
    rw [List.drop_eq_nil_of_le hge] at hinv
    subst hinv
    repeat (first
      | refine AW.seq ?_
      | refine AW.reg ?_
      | refine Reg.opS tab_ok (hint := []) rfl rfl rfl rfl rfl trivial ?_
      | refine Reg.opN tab_ok (hint := []) rfl rfl rfl rfl trivial ?_
      | refine Reg.nil ?_
      | refine thenA_normal ?_
      | refine AW.condT rfl ?_
      | refine AW.condF rfl ?_
      | refine AW.skip ?_
      | refine AW.block ?_
      | refine AW.exit ?_
      | refine AW.ret ?_
      | refine thenA_exit ?_
      | refine thenA_ret ?_
      | refine blockA_normal ?_
      | refine blockA_hit ?_
      | refine blockA_miss rfl ?_
      | refine blockA_ret ?_
      | refine Reg.panic rfl rfl rfl rfl ?_
      | refine thenA_panic ?_
      | refine blockA_panic ?_
      | refine Reg.skip rfl rfl rfl rfl rfl rfl rfl rfl ?_
      | refine Reg.ifS tab_ok (hint := []) rfl rfl rfl rfl rfl rfl rfl rfl rfl trivial ?_
      | refine AW.label ?_
      | refine AW.scope ?_
      | refine scopeA_normal ?_
      | refine scopeA_ret ?_
      | refine scopeA_exit ?_)
    exact ⟨_, rfl, rfl, rfl, rfl, rfl⟩
  | true =>
    have hlt : i < l.length := by have := of_decide_eq_true h6; rw [List.length_map] at this; omega
    obtain ⟨x, r, hx, hxr⟩ := drop_some hlt
    rw [hx, List.find?_cons] at hinv
    repeat (first
      | refine AW.seq ?_
      | refine AW.reg ?_
      | refine Reg.opS tab_ok (hint := []) rfl rfl rfl rfl rfl trivial ?_
      | refine Reg.opN tab_ok (hint := []) rfl rfl rfl rfl trivial ?_
      | refine Reg.nil ?_
      | refine thenA_normal ?_
      | refine AW.condT rfl ?_
      | refine AW.condF rfl ?_
      | refine AW.skip ?_
      | refine AW.block ?_
      | refine AW.exit ?_
      | refine AW.ret ?_
      | refine thenA_exit ?_
      | refine thenA_ret ?_
      | refine blockA_normal ?_
      | refine blockA_hit ?_
      | refine blockA_miss rfl ?_
      | refine blockA_ret ?_
      | refine Reg.panic rfl rfl rfl rfl ?_
      | refine thenA_panic ?_
      | refine blockA_panic ?_
      | refine Reg.skip rfl rfl rfl rfl rfl rfl rfl rfl ?_
      | refine Reg.ifS tab_ok (hint := []) rfl rfl rfl rfl rfl rfl rfl rfl rfl trivial ?_
      | refine AW.label ?_
      | refine AW.scope ?_
      | refine scopeA_normal ?_
      | refine scopeA_ret ?_
      | refine scopeA_exit ?_)
    refine Reg.opS tab_ok (hint := tokC x) rfl rfl rfl rfl rfl ⟨rfl, Int.natCast_nonneg _, by rw [Int.toNat_natCast]; exact toks_at hx⟩ ?_
    repeat (first
      | refine AW.seq ?_
      | refine AW.reg ?_
      | refine Reg.opS tab_ok (hint := []) rfl rfl rfl rfl rfl trivial ?_
      | refine Reg.opN tab_ok (hint := []) rfl rfl rfl rfl trivial ?_
      | refine Reg.nil ?_
      | refine thenA_normal ?_
      | refine AW.condT rfl ?_
      | refine AW.condF rfl ?_
      | refine AW.skip ?_
      | refine AW.block ?_
      | refine AW.exit ?_
      | refine AW.ret ?_
      | refine thenA_exit ?_
      | refine thenA_ret ?_
      | refine blockA_normal ?_
      | refine blockA_hit ?_
      | refine blockA_miss rfl ?_
      | refine blockA_ret ?_
      | refine Reg.panic rfl rfl rfl rfl ?_
      | refine thenA_panic ?_
      | refine blockA_panic ?_
      | refine Reg.skip rfl rfl rfl rfl rfl rfl rfl rfl ?_
      | refine Reg.ifS tab_ok (hint := []) rfl rfl rfl rfl rfl rfl rfl rfl rfl trivial ?_
      | refine AW.label ?_
      | refine AW.scope ?_
      | refine scopeA_normal ?_
      | refine scopeA_ret ?_
      | refine scopeA_exit ?_)
    cases h7 : (x.at_ == a) with
    | true =>
      rw [h7] at hinv
      subst hinv
      repeat (first
        | refine AW.seq ?_
        | refine AW.reg ?_
        | refine Reg.opS tab_ok (hint := []) rfl rfl rfl rfl rfl trivial ?_
        | refine Reg.opN tab_ok (hint := []) rfl rfl rfl rfl trivial ?_
        | refine Reg.nil ?_
        | refine thenA_normal ?_
        | refine AW.condT rfl ?_
        | refine AW.condF rfl ?_
        | refine AW.skip ?_
        | refine AW.block ?_
        | refine AW.exit ?_
        | refine AW.ret ?_
        | refine thenA_exit ?_
        | refine thenA_ret ?_
        | refine blockA_normal ?_
        | refine blockA_hit ?_
        | refine blockA_miss rfl ?_
        | refine blockA_ret ?_
        | refine Reg.panic rfl rfl rfl rfl ?_
        | refine thenA_panic ?_
        | refine blockA_panic ?_
        | refine Reg.skip rfl rfl rfl rfl rfl rfl rfl rfl ?_
        | refine Reg.ifS tab_ok (hint := []) rfl rfl rfl rfl rfl rfl rfl rfl rfl trivial ?_
        | refine AW.label ?_
        | refine AW.scope ?_
        | refine scopeA_normal ?_
        | refine scopeA_ret ?_
        | refine scopeA_exit ?_)
      exact ⟨_, rfl, rfl, rfl, rfl, rfl⟩
    | false =>
      rw [h7] at hinv
      have hnext : IntKind.i64.wrap ((i : Int) + 1) = ((i + 1 : Nat) : Int) := wrap_in (by omega) (by omega)
      repeat (first
        | refine AW.seq ?_
        | refine AW.reg ?_
        | refine Reg.opS tab_ok (hint := []) rfl rfl rfl rfl rfl trivial ?_
        | refine Reg.opN tab_ok (hint := []) rfl rfl rfl rfl trivial ?_
        | refine Reg.nil ?_
        | refine thenA_normal ?_
        | refine AW.condT rfl ?_
        | refine AW.condF rfl ?_
        | refine AW.skip ?_
        | refine AW.block ?_
        | refine AW.exit ?_
        | refine AW.ret ?_
        | refine thenA_exit ?_
        | refine thenA_ret ?_
        | refine blockA_normal ?_
        | refine blockA_hit ?_
        | refine blockA_miss rfl ?_
        | refine blockA_ret ?_
        | refine Reg.panic rfl rfl rfl rfl ?_
        | refine thenA_panic ?_
        | refine blockA_panic ?_
        | refine Reg.skip rfl rfl rfl rfl rfl rfl rfl rfl ?_
        | refine Reg.ifS tab_ok (hint := []) rfl rfl rfl rfl rfl rfl rfl rfl rfl trivial ?_
        | refine AW.label ?_
        | refine AW.scope ?_
        | refine scopeA_normal ?_
        | refine scopeA_ret ?_
        | refine scopeA_exit ?_)
      rw [hnext]
      exact ⟨i + 1, ⟨by omega, by rw [hxr]; exact hinv⟩, by omega, ⟨.refl _, .refl _, .refl _, .refl _, trivial⟩, trivial, rfl, rfl⟩

theorem callable32 : Callable Tryd.prog 32 := ⟨_, Tryd.func32, rfl, rfl⟩
theorem callable14 : Callable Tryd.prog 14 := ⟨_, Tryd.func14, rfl, rfl⟩



set_option maxHeartbeats 8000000 in
theorem within_any {G : Glob} (l : List Tok) (hl : l.length ≤ 1000000) : ∀ (m : Nat) (t : T), t.sz ≤ m → m ≤ 4000000000000000000 → ∀ lo : Int, ACalls Tryd.prog G 14 [treeV t, .d (.sl 3 (l.map tokC) false), .d (.val (.int .i64 lo))] [] fun out x =>
    out = .ret (.d (.val (.bool (withinP l t lo)))) ∧ x = [] := by
  intro m
  induction m with
  | zero =>
    intro t ht
    have := t.sz_pos
    omega
  | succ m ih =>
    intro t ht hm lo
    obtain ⟨k, n, ks, ns, a⟩ := t
    have hkl := T.szs_len ks
    have hkm : ∀ x ∈ ks, x.sz ≤ m := fun x hx => by have := T.szs_mem hx; simp only [T.sz] at ht; omega
    simp only [T.sz] at ht
    refine ACalls.body tab_ok Tryd.func14 rfl rfl ?_
    simp only [treeV, tC, T.kind, T.name, T.kids, T.names, T.at_]
    repeat (first
      | refine AW.seq ?_
      | refine AW.reg ?_
      | refine Reg.opS tab_ok (hint := []) rfl rfl rfl rfl rfl trivial ?_
      | refine Reg.opN tab_ok (hint := []) rfl rfl rfl rfl trivial ?_
      | refine Reg.nil ?_
      | refine thenA_normal ?_
      | refine AW.condT rfl ?_
      | refine AW.condF rfl ?_
      | refine AW.skip ?_
      | refine AW.block ?_
      | refine AW.exit ?_
      | refine AW.ret ?_
      | refine thenA_exit ?_
      | refine thenA_ret ?_
      | refine blockA_normal ?_
      | refine blockA_hit ?_
      | refine blockA_miss rfl ?_
      | refine blockA_ret ?_
      | refine Reg.panic rfl rfl rfl rfl ?_
      | refine thenA_panic ?_
      | refine blockA_panic ?_
      | refine Reg.skip rfl rfl rfl rfl rfl rfl rfl rfl ?_
      | refine Reg.ifS tab_ok (hint := []) rfl rfl rfl rfl rfl rfl rfl rfl rfl trivial ?_
      | refine AW.label ?_
      | refine AW.scope ?_
      | refine scopeA_normal ?_
      | refine scopeA_ret ?_
      | refine scopeA_exit ?_)
    refine Reg.call tab_ok [] (begins_any l false a hl) callable32 rfl (.inl rfl) rfl rfl rfl (by decide) rfl rfl ?_
    rintro out bx1 ⟨ho, rfl⟩
    cases hb : beginsP l a with
    | none =>
      rw [hb] at ho
      subst ho
      refine after0t rfl rfl rfl ?_
      repeat (first
        | refine AW.seq ?_
        | refine AW.reg ?_
        | refine Reg.opS tab_ok (hint := []) rfl rfl rfl rfl rfl trivial ?_
        | refine Reg.opN tab_ok (hint := []) rfl rfl rfl rfl trivial ?_
        | refine Reg.nil ?_
        | refine thenA_normal ?_
        | refine AW.condT rfl ?_
        | refine AW.condF rfl ?_
        | refine AW.skip ?_
        | refine AW.block ?_
        | refine AW.exit ?_
        | refine AW.ret ?_
        | refine thenA_exit ?_
        | refine thenA_ret ?_
        | refine blockA_normal ?_
        | refine blockA_hit ?_
        | refine blockA_miss rfl ?_
        | refine blockA_ret ?_
        | refine Reg.panic rfl rfl rfl rfl ?_
        | refine thenA_panic ?_
        | refine blockA_panic ?_
        | refine Reg.skip rfl rfl rfl rfl rfl rfl rfl rfl ?_
        | refine Reg.ifS tab_ok (hint := []) rfl rfl rfl rfl rfl rfl rfl rfl rfl trivial ?_
        | refine AW.label ?_
        | refine AW.scope ?_
        | refine scopeA_normal ?_
        | refine scopeA_ret ?_
        | refine scopeA_exit ?_)
      exact ⟨_, rfl, rfl, rfl, by simp only [withinP, hb], rfl⟩
    | some x =>
      rw [hb] at ho
      subst ho
      refine after0t rfl rfl rfl ?_
      repeat (first
        | refine AW.seq ?_
        | refine AW.reg ?_
        | refine Reg.opS tab_ok (hint := []) rfl rfl rfl rfl rfl trivial ?_
        | refine Reg.opN tab_ok (hint := []) rfl rfl rfl rfl trivial ?_
        | refine Reg.nil ?_
        | refine thenA_normal ?_
        | refine AW.condT rfl ?_
        | refine AW.condF rfl ?_
        | refine AW.skip ?_
        | refine AW.block ?_
        | refine AW.exit ?_
        | refine AW.ret ?_
        | refine thenA_exit ?_
        | refine thenA_ret ?_
        | refine blockA_normal ?_
        | refine blockA_hit ?_
        | refine blockA_miss rfl ?_
        | refine blockA_ret ?_
        | refine Reg.panic rfl rfl rfl rfl ?_
        | refine thenA_panic ?_
        | refine blockA_panic ?_
        | refine Reg.skip rfl rfl rfl rfl rfl rfl rfl rfl ?_
        | refine Reg.ifS tab_ok (hint := []) rfl rfl rfl rfl rfl rfl rfl rfl rfl trivial ?_
        | refine AW.label ?_
        | refine AW.scope ?_
        | refine scopeA_normal ?_
        | refine scopeA_ret ?_
        | refine scopeA_exit ?_)
      cases h2 : decide (a < lo) with
      | true =>
        repeat (first
          | refine AW.seq ?_
          | refine AW.reg ?_
          | refine Reg.opS tab_ok (hint := []) rfl rfl rfl rfl rfl trivial ?_
          | refine Reg.opN tab_ok (hint := []) rfl rfl rfl rfl trivial ?_
          | refine Reg.nil ?_
          | refine thenA_normal ?_
          | refine AW.condT rfl ?_
          | refine AW.condF rfl ?_
          | refine AW.skip ?_
          | refine AW.block ?_
          | refine AW.exit ?_
          | refine AW.ret ?_
          | refine thenA_exit ?_
          | refine thenA_ret ?_
          | refine blockA_normal ?_
          | refine blockA_hit ?_
          | refine blockA_miss rfl ?_
          | refine blockA_ret ?_
          | refine Reg.panic rfl rfl rfl rfl ?_
          | refine thenA_panic ?_
          | refine blockA_panic ?_
          | refine Reg.skip rfl rfl rfl rfl rfl rfl rfl rfl ?_
          | refine Reg.ifS tab_ok (hint := []) rfl rfl rfl rfl rfl rfl rfl rfl rfl trivial ?_
          | refine AW.label ?_
          | refine AW.scope ?_
          | refine scopeA_normal ?_
          | refine scopeA_ret ?_
          | refine scopeA_exit ?_)
        exact ⟨_, rfl, rfl, rfl, by simp only [withinP, hb, h2]; simp, rfl⟩
      | false =>
        repeat (first
          | refine AW.seq ?_
          | refine AW.reg ?_
          | refine Reg.opS tab_ok (hint := []) rfl rfl rfl rfl rfl trivial ?_
          | refine Reg.opN tab_ok (hint := []) rfl rfl rfl rfl trivial ?_
          | refine Reg.nil ?_
          | refine thenA_normal ?_
          | refine AW.condT rfl ?_
          | refine AW.condF rfl ?_
          | refine AW.skip ?_
          | refine AW.block ?_
          | refine AW.exit ?_
          | refine AW.ret ?_
          | refine thenA_exit ?_
          | refine thenA_ret ?_
          | refine blockA_normal ?_
          | refine blockA_hit ?_
          | refine blockA_miss rfl ?_
          | refine blockA_ret ?_
          | refine Reg.panic rfl rfl rfl rfl ?_
          | refine thenA_panic ?_
          | refine blockA_panic ?_
          | refine Reg.skip rfl rfl rfl rfl rfl rfl rfl rfl ?_
          | refine Reg.ifS tab_ok (hint := []) rfl rfl rfl rfl rfl rfl rfl rfl rfl trivial ?_
          | refine AW.label ?_
          | refine AW.scope ?_
          | refine scopeA_normal ?_
          | refine scopeA_ret ?_
          | refine scopeA_exit ?_)
        cases h3 : decide (k < 1) with
        | true =>
          repeat (first
            | refine AW.seq ?_
            | refine AW.reg ?_
            | refine Reg.opS tab_ok (hint := []) rfl rfl rfl rfl rfl trivial ?_
            | refine Reg.opN tab_ok (hint := []) rfl rfl rfl rfl trivial ?_
            | refine Reg.nil ?_
            | refine thenA_normal ?_
            | refine AW.condT rfl ?_
            | refine AW.condF rfl ?_
            | refine AW.skip ?_
            | refine AW.block ?_
            | refine AW.exit ?_
            | refine AW.ret ?_
            | refine thenA_exit ?_
            | refine thenA_ret ?_
            | refine blockA_normal ?_
            | refine blockA_hit ?_
            | refine blockA_miss rfl ?_
            | refine blockA_ret ?_
            | refine Reg.panic rfl rfl rfl rfl ?_
            | refine thenA_panic ?_
            | refine blockA_panic ?_
            | refine Reg.skip rfl rfl rfl rfl rfl rfl rfl rfl ?_
            | refine Reg.ifS tab_ok (hint := []) rfl rfl rfl rfl rfl rfl rfl rfl rfl trivial ?_
            | refine AW.label ?_
            | refine AW.scope ?_
            | refine scopeA_normal ?_
            | refine scopeA_ret ?_
            | refine scopeA_exit ?_)
          exact ⟨_, rfl, rfl, rfl, by simp only [withinP, hb, h3]; simp, rfl⟩
        | false =>
          repeat (first
            | refine AW.seq ?_
            | refine AW.reg ?_
            | refine Reg.opS tab_ok (hint := []) rfl rfl rfl rfl rfl trivial ?_
            | refine Reg.opN tab_ok (hint := []) rfl rfl rfl rfl trivial ?_
            | refine Reg.nil ?_
            | refine thenA_normal ?_
            | refine AW.condT rfl ?_
            | refine AW.condF rfl ?_
            | refine AW.skip ?_
            | refine AW.block ?_
            | refine AW.exit ?_
            | refine AW.ret ?_
            | refine thenA_exit ?_
            | refine thenA_ret ?_
            | refine blockA_normal ?_
            | refine blockA_hit ?_
            | refine blockA_miss rfl ?_
            | refine blockA_ret ?_
            | refine Reg.panic rfl rfl rfl rfl ?_
            | refine thenA_panic ?_
            | refine blockA_panic ?_
            | refine Reg.skip rfl rfl rfl rfl rfl rfl rfl rfl ?_
            | refine Reg.ifS tab_ok (hint := []) rfl rfl rfl rfl rfl rfl rfl rfl rfl trivial ?_
            | refine AW.label ?_
            | refine AW.scope ?_
            | refine scopeA_normal ?_
            | refine scopeA_ret ?_
            | refine scopeA_exit ?_)
          cases h4 : decide (k > 17) with
          | true =>
            repeat (first
              | refine AW.seq ?_
              | refine AW.reg ?_
              | refine Reg.opS tab_ok (hint := []) rfl rfl rfl rfl rfl trivial ?_
              | refine Reg.opN tab_ok (hint := []) rfl rfl rfl rfl trivial ?_
              | refine Reg.nil ?_
              | refine thenA_normal ?_
              | refine AW.condT rfl ?_
              | refine AW.condF rfl ?_
              | refine AW.skip ?_
              | refine AW.block ?_
              | refine AW.exit ?_
              | refine AW.ret ?_
              | refine thenA_exit ?_
              | refine thenA_ret ?_
              | refine blockA_normal ?_
              | refine blockA_hit ?_
              | refine blockA_miss rfl ?_
              | refine blockA_ret ?_
              | refine Reg.panic rfl rfl rfl rfl ?_
              | refine thenA_panic ?_
              | refine blockA_panic ?_
              | refine Reg.skip rfl rfl rfl rfl rfl rfl rfl rfl ?_
              | refine Reg.ifS tab_ok (hint := []) rfl rfl rfl rfl rfl rfl rfl rfl rfl trivial ?_
              | refine AW.label ?_
              | refine AW.scope ?_
              | refine scopeA_normal ?_
              | refine scopeA_ret ?_
              | refine scopeA_exit ?_)
            exact ⟨_, rfl, rfl, rfl, by simp only [withinP, hb, h4]; simp, rfl⟩
          | false =>
            repeat (first
              | refine AW.seq ?_
              | refine AW.reg ?_
              | refine Reg.opS tab_ok (hint := []) rfl rfl rfl rfl rfl trivial ?_
              | refine Reg.opN tab_ok (hint := []) rfl rfl rfl rfl trivial ?_
              | refine Reg.nil ?_
              | refine thenA_normal ?_
              | refine AW.condT rfl ?_
              | refine AW.condF rfl ?_
              | refine AW.skip ?_
              | refine AW.block ?_
              | refine AW.exit ?_
              | refine AW.ret ?_
              | refine thenA_exit ?_
              | refine thenA_ret ?_
              | refine blockA_normal ?_
              | refine blockA_hit ?_
              | refine blockA_miss rfl ?_
              | refine blockA_ret ?_
              | refine Reg.panic rfl rfl rfl rfl ?_
              | refine thenA_panic ?_
              | refine blockA_panic ?_
              | refine Reg.skip rfl rfl rfl rfl rfl rfl rfl rfl ?_
              | refine Reg.ifS tab_ok (hint := []) rfl rfl rfl rfl rfl rfl rfl rfl rfl trivial ?_
              | refine AW.label ?_
              | refine AW.scope ?_
              | refine scopeA_normal ?_
              | refine scopeA_ret ?_
              | refine scopeA_exit ?_)
            cases h5 : (k == 1) with
            | false =>
              have hsp : withinP l (.mk k n ks ns a) lo = withinsP l ks a := by simp only [withinP, hb, h2, h3, h4, h5]; simp
              rw [hsp]
              generalize hR : withinsP l ks a = R
              repeat (first
                | refine AW.seq ?_
                | refine AW.reg ?_
                | refine Reg.opS tab_ok (hint := []) rfl rfl rfl rfl rfl trivial ?_
                | refine Reg.opN tab_ok (hint := []) rfl rfl rfl rfl trivial ?_
                | refine Reg.nil ?_
                | refine thenA_normal ?_
                | refine AW.condT rfl ?_
                | refine AW.condF rfl ?_
                | refine AW.skip ?_
                | refine AW.block ?_
                | refine AW.exit ?_
                | refine AW.ret ?_
                | refine thenA_exit ?_
                | refine thenA_ret ?_
                | refine blockA_normal ?_
                | refine blockA_hit ?_
                | refine blockA_miss rfl ?_
                | refine blockA_ret ?_
                | refine Reg.panic rfl rfl rfl rfl ?_
                | refine thenA_panic ?_
                | refine blockA_panic ?_
                | refine Reg.skip rfl rfl rfl rfl rfl rfl rfl rfl ?_
                | refine Reg.ifS tab_ok (hint := []) rfl rfl rfl rfl rfl rfl rfl rfl rfl trivial ?_
                | refine AW.label ?_
                | refine AW.scope ?_
                | refine scopeA_normal ?_
                | refine scopeA_ret ?_
                | refine scopeA_exit ?_)
              refine AW.loop (S := Nat) (fun i => i ≤ ks.length ∧ withinsP l (ks.drop i) a = R)
                (fun i => [(1, .d (.sl 3 (l.map tokC) false)), (3, .ptr 0 0), (48, .d (.sl 5 (T.rows ks) false)), (49, .d (.val (.int .i64 (T.rows ks).length))), (50, .d (.val (.int .i64 i)))])
                (fun _ => [.cells [.d (.val (.int .i64 k)), .d (.val (.string n)), .d (.sl 5 (T.rows ks) false), .d (.sl 1 (strsC ns) false), .d (.val (.int .i64 a))]])
                (fun i => ks.length - i) 0 ⟨Nat.zero_le _, hR⟩ (fun _ => rfl) ⟨⟨.refl _, .refl _, .refl _, .refl _, .refl _, trivial⟩, ⟨SLes.refl _, trivial⟩, rfl, rfl⟩ ?_
              clear hR
              rintro i ⟨hi, hinv⟩
              repeat (first
                | refine AW.seq ?_
                | refine AW.reg ?_
                | refine Reg.opS tab_ok (hint := []) rfl rfl rfl rfl rfl trivial ?_
                | refine Reg.opN tab_ok (hint := []) rfl rfl rfl rfl trivial ?_
                | refine Reg.nil ?_
                | refine thenA_normal ?_
                | refine AW.condT rfl ?_
                | refine AW.condF rfl ?_
                | refine AW.skip ?_
                | refine AW.block ?_
                | refine AW.exit ?_
                | refine AW.ret ?_
                | refine thenA_exit ?_
                | refine thenA_ret ?_
                | refine blockA_normal ?_
                | refine blockA_hit ?_
                | refine blockA_miss rfl ?_
                | refine blockA_ret ?_
                | refine Reg.panic rfl rfl rfl rfl ?_
                | refine thenA_panic ?_
                | refine blockA_panic ?_
                | refine Reg.skip rfl rfl rfl rfl rfl rfl rfl rfl ?_
                | refine Reg.ifS tab_ok (hint := []) rfl rfl rfl rfl rfl rfl rfl rfl rfl trivial ?_
                | refine AW.label ?_
                | refine AW.scope ?_
                | refine scopeA_normal ?_
                | refine scopeA_ret ?_
                | refine scopeA_exit ?_)
              cases h6 : decide ((i : Int) < (T.rows ks).length) with
              | true =>
                have hlt : i < ks.length := by have := of_decide_eq_true h6; rw [T.rows_len] at this; omega
                obtain ⟨x, r, hx, hxr⟩ := drop_some hlt
                rw [hx] at hinv
                simp only [withinsP] at hinv
                have hnext : IntKind.i64.wrap ((i : Int) + 1) = ((i + 1 : Nat) : Int) := wrap_in (by omega) (by omega)
                repeat (first
                  | refine AW.seq ?_
                  | refine AW.reg ?_
                  | refine Reg.opS tab_ok (hint := []) rfl rfl rfl rfl rfl trivial ?_
                  | refine Reg.opN tab_ok (hint := []) rfl rfl rfl rfl trivial ?_
                  | refine Reg.nil ?_
                  | refine thenA_normal ?_
                  | refine AW.condT rfl ?_
                  | refine AW.condF rfl ?_
                  | refine AW.skip ?_
                  | refine AW.block ?_
                  | refine AW.exit ?_
                  | refine AW.ret ?_
                  | refine thenA_exit ?_
                  | refine thenA_ret ?_
                  | refine blockA_normal ?_
                  | refine blockA_hit ?_
                  | refine blockA_miss rfl ?_
                  | refine blockA_ret ?_
                  | refine Reg.panic rfl rfl rfl rfl ?_
                  | refine thenA_panic ?_
                  | refine blockA_panic ?_
                  | refine Reg.skip rfl rfl rfl rfl rfl rfl rfl rfl ?_
                  | refine Reg.ifS tab_ok (hint := []) rfl rfl rfl rfl rfl rfl rfl rfl rfl trivial ?_
                  | refine AW.label ?_
                  | refine AW.scope ?_
                  | refine scopeA_normal ?_
                  | refine scopeA_ret ?_
                  | refine scopeA_exit ?_)
                refine Reg.opS tab_ok (hint := tC x) rfl rfl rfl rfl rfl ⟨rfl, Int.natCast_nonneg _, by rw [Int.toNat_natCast]; exact rows_at hx⟩ ?_
                repeat (first
                  | refine AW.seq ?_
                  | refine AW.reg ?_
                  | refine Reg.opS tab_ok (hint := []) rfl rfl rfl rfl rfl trivial ?_
                  | refine Reg.opN tab_ok (hint := []) rfl rfl rfl rfl trivial ?_
                  | refine Reg.nil ?_
                  | refine thenA_normal ?_
                  | refine AW.condT rfl ?_
                  | refine AW.condF rfl ?_
                  | refine AW.skip ?_
                  | refine AW.block ?_
                  | refine AW.exit ?_
                  | refine AW.ret ?_
                  | refine thenA_exit ?_
                  | refine thenA_ret ?_
                  | refine blockA_normal ?_
                  | refine blockA_hit ?_
                  | refine blockA_miss rfl ?_
                  | refine blockA_ret ?_
                  | refine Reg.panic rfl rfl rfl rfl ?_
                  | refine thenA_panic ?_
                  | refine blockA_panic ?_
                  | refine Reg.skip rfl rfl rfl rfl rfl rfl rfl rfl ?_
                  | refine Reg.ifS tab_ok (hint := []) rfl rfl rfl rfl rfl rfl rfl rfl rfl trivial ?_
                  | refine AW.label ?_
                  | refine AW.scope ?_
                  | refine scopeA_normal ?_
                  | refine scopeA_ret ?_
                  | refine scopeA_exit ?_)
                refine Reg.call tab_ok [] (ih x (hkm x (kid_mem hx)) (by omega) a) callable14 rfl (.inl rfl) rfl rfl rfl (by decide) rfl rfl ?_
                rintro out bx1 ⟨rfl, rfl⟩
                refine after0 rfl rfl ?_
                repeat (first
                  | refine AW.seq ?_
                  | refine AW.reg ?_
                  | refine Reg.opS tab_ok (hint := []) rfl rfl rfl rfl rfl trivial ?_
                  | refine Reg.opN tab_ok (hint := []) rfl rfl rfl rfl trivial ?_
                  | refine Reg.nil ?_
                  | refine thenA_normal ?_
                  | refine AW.condT rfl ?_
                  | refine AW.condF rfl ?_
                  | refine AW.skip ?_
                  | refine AW.block ?_
                  | refine AW.exit ?_
                  | refine AW.ret ?_
                  | refine thenA_exit ?_
                  | refine thenA_ret ?_
                  | refine blockA_normal ?_
                  | refine blockA_hit ?_
                  | refine blockA_miss rfl ?_
                  | refine blockA_ret ?_
                  | refine Reg.panic rfl rfl rfl rfl ?_
                  | refine thenA_panic ?_
                  | refine blockA_panic ?_
                  | refine Reg.skip rfl rfl rfl rfl rfl rfl rfl rfl ?_
                  | refine Reg.ifS tab_ok (hint := []) rfl rfl rfl rfl rfl rfl rfl rfl rfl trivial ?_
                  | refine AW.label ?_
                  | refine AW.scope ?_
                  | refine scopeA_normal ?_
                  | refine scopeA_ret ?_
                  | refine scopeA_exit ?_)
                cases h7 : withinP l x a with
                | false =>
                  rw [h7, Bool.false_and] at hinv
                  repeat (first
                    | refine AW.seq ?_
                    | refine AW.reg ?_
                    | refine Reg.opS tab_ok (hint := []) rfl rfl rfl rfl rfl trivial ?_
                    | refine Reg.opN tab_ok (hint := []) rfl rfl rfl rfl trivial ?_
                    | refine Reg.nil ?_
                    | refine thenA_normal ?_
                    | refine AW.condT rfl ?_
                    | refine AW.condF rfl ?_
                    | refine AW.skip ?_
                    | refine AW.block ?_
                    | refine AW.exit ?_
                    | refine AW.ret ?_
                    | refine thenA_exit ?_
                    | refine thenA_ret ?_
                    | refine blockA_normal ?_
                    | refine blockA_hit ?_
                    | refine blockA_miss rfl ?_
                    | refine blockA_ret ?_
                    | refine Reg.panic rfl rfl rfl rfl ?_
                    | refine thenA_panic ?_
                    | refine blockA_panic ?_
                    | refine Reg.skip rfl rfl rfl rfl rfl rfl rfl rfl ?_
                    | refine Reg.ifS tab_ok (hint := []) rfl rfl rfl rfl rfl rfl rfl rfl rfl trivial ?_
                    | refine AW.label ?_
                    | refine AW.scope ?_
                    | refine scopeA_normal ?_
                    | refine scopeA_ret ?_
                    | refine scopeA_exit ?_)
                  exact ⟨_, rfl, rfl, rfl, by rw [← hinv], rfl⟩
                | true =>
                  rw [h7, Bool.true_and] at hinv
                  repeat (first
                    | refine AW.seq ?_
                    | refine AW.reg ?_
                    | refine Reg.opS tab_ok (hint := []) rfl rfl rfl rfl rfl trivial ?_
                    | refine Reg.opN tab_ok (hint := []) rfl rfl rfl rfl trivial ?_
                    | refine Reg.nil ?_
                    | refine thenA_normal ?_
                    | refine AW.condT rfl ?_
                    | refine AW.condF rfl ?_
                    | refine AW.skip ?_
                    | refine AW.block ?_
                    | refine AW.exit ?_
                    | refine AW.ret ?_
                    | refine thenA_exit ?_
                    | refine thenA_ret ?_
                    | refine blockA_normal ?_
                    | refine blockA_hit ?_
                    | refine blockA_miss rfl ?_
                    | refine blockA_ret ?_
                    | refine Reg.panic rfl rfl rfl rfl ?_
                    | refine thenA_panic ?_
                    | refine blockA_panic ?_
                    | refine Reg.skip rfl rfl rfl rfl rfl rfl rfl rfl ?_
                    | refine Reg.ifS tab_ok (hint := []) rfl rfl rfl rfl rfl rfl rfl rfl rfl trivial ?_
                    | refine AW.label ?_
                    | refine AW.scope ?_
                    | refine scopeA_normal ?_
                    | refine scopeA_ret ?_
                    | refine scopeA_exit ?_)
                  rw [hnext]
                  exact ⟨i + 1, ⟨by omega, by rw [hxr]; exact hinv⟩, by omega, ⟨.refl _, .refl _, .refl _, .refl _, .refl _, trivial⟩, ⟨SLes.refl _, trivial⟩, rfl, rfl⟩
              | false =>
                have hge : ks.length ≤ i := by have := of_decide_eq_false h6; rw [T.rows_len] at this; omega
                rw [List.drop_eq_nil_of_le hge] at hinv
                repeat (first
                  | refine AW.seq ?_
                  | refine AW.reg ?_
                  | refine Reg.opS tab_ok (hint := []) rfl rfl rfl rfl rfl trivial ?_
                  | refine Reg.opN tab_ok (hint := []) rfl rfl rfl rfl trivial ?_
                  | refine Reg.nil ?_
                  | refine thenA_normal ?_
                  | refine AW.condT rfl ?_
                  | refine AW.condF rfl ?_
                  | refine AW.skip ?_
                  | refine AW.block ?_
                  | refine AW.exit ?_
                  | refine AW.ret ?_
                  | refine thenA_exit ?_
                  | refine thenA_ret ?_
                  | refine blockA_normal ?_
                  | refine blockA_hit ?_
                  | refine blockA_miss rfl ?_
                  | refine blockA_ret ?_
                  | refine Reg.panic rfl rfl rfl rfl ?_
                  | refine thenA_panic ?_
                  | refine blockA_panic ?_
                  | refine Reg.skip rfl rfl rfl rfl rfl rfl rfl rfl ?_
                  | refine Reg.ifS tab_ok (hint := []) rfl rfl rfl rfl rfl rfl rfl rfl rfl trivial ?_
                  | refine AW.label ?_
                  | refine AW.scope ?_
                  | refine scopeA_normal ?_
                  | refine scopeA_ret ?_
                  | refine scopeA_exit ?_)
                exact ⟨_, rfl, rfl, rfl, by rw [← hinv]; simp only [withinsP], rfl⟩
            | true =>
              repeat (first
                | refine AW.seq ?_
                | refine AW.reg ?_
                | refine Reg.opS tab_ok (hint := []) rfl rfl rfl rfl rfl trivial ?_
                | refine Reg.opN tab_ok (hint := []) rfl rfl rfl rfl trivial ?_
                | refine Reg.nil ?_
                | refine thenA_normal ?_
                | refine AW.condT rfl ?_
                | refine AW.condF rfl ?_
                | refine AW.skip ?_
                | refine AW.block ?_
                | refine AW.exit ?_
                | refine AW.ret ?_
                | refine thenA_exit ?_
                | refine thenA_ret ?_
                | refine blockA_normal ?_
                | refine blockA_hit ?_
                | refine blockA_miss rfl ?_
                | refine blockA_ret ?_
                | refine Reg.panic rfl rfl rfl rfl ?_
                | refine thenA_panic ?_
                | refine blockA_panic ?_
                | refine Reg.skip rfl rfl rfl rfl rfl rfl rfl rfl ?_
                | refine Reg.ifS tab_ok (hint := []) rfl rfl rfl rfl rfl rfl rfl rfl rfl trivial ?_
                | refine AW.label ?_
                | refine AW.scope ?_
                | refine scopeA_normal ?_
                | refine scopeA_ret ?_
                | refine scopeA_exit ?_)
              cases h8 : (x.toList == n.toList) with
              | false =>
                repeat (first
                  | refine AW.seq ?_
                  | refine AW.reg ?_
                  | refine Reg.opS tab_ok (hint := []) rfl rfl rfl rfl rfl trivial ?_
                  | refine Reg.opN tab_ok (hint := []) rfl rfl rfl rfl trivial ?_
                  | refine Reg.nil ?_
                  | refine thenA_normal ?_
                  | refine AW.condT rfl ?_
                  | refine AW.condF rfl ?_
                  | refine AW.skip ?_
                  | refine AW.block ?_
                  | refine AW.exit ?_
                  | refine AW.ret ?_
                  | refine thenA_exit ?_
                  | refine thenA_ret ?_
                  | refine blockA_normal ?_
                  | refine blockA_hit ?_
                  | refine blockA_miss rfl ?_
                  | refine blockA_ret ?_
                  | refine Reg.panic rfl rfl rfl rfl ?_
                  | refine thenA_panic ?_
                  | refine blockA_panic ?_
                  | refine Reg.skip rfl rfl rfl rfl rfl rfl rfl rfl ?_
                  | refine Reg.ifS tab_ok (hint := []) rfl rfl rfl rfl rfl rfl rfl rfl rfl trivial ?_
                  | refine AW.label ?_
                  | refine AW.scope ?_
                  | refine scopeA_normal ?_
                  | refine scopeA_ret ?_
                  | refine scopeA_exit ?_)
                exact ⟨_, rfl, rfl, rfl, by simp only [withinP, hb, h5, h8]; simp, rfl⟩
              | true =>
                have hsp : withinP l (.mk k n ks ns a) lo = withinsP l ks a := by simp only [withinP, hb, h2, h3, h4, h5, h8]; simp
                rw [hsp]
                generalize hR : withinsP l ks a = R
                repeat (first
                  | refine AW.seq ?_
                  | refine AW.reg ?_
                  | refine Reg.opS tab_ok (hint := []) rfl rfl rfl rfl rfl trivial ?_
                  | refine Reg.opN tab_ok (hint := []) rfl rfl rfl rfl trivial ?_
                  | refine Reg.nil ?_
                  | refine thenA_normal ?_
                  | refine AW.condT rfl ?_
                  | refine AW.condF rfl ?_
                  | refine AW.skip ?_
                  | refine AW.block ?_
                  | refine AW.exit ?_
                  | refine AW.ret ?_
                  | refine thenA_exit ?_
                  | refine thenA_ret ?_
                  | refine blockA_normal ?_
                  | refine blockA_hit ?_
                  | refine blockA_miss rfl ?_
                  | refine blockA_ret ?_
                  | refine Reg.panic rfl rfl rfl rfl ?_
                  | refine thenA_panic ?_
                  | refine blockA_panic ?_
                  | refine Reg.skip rfl rfl rfl rfl rfl rfl rfl rfl ?_
                  | refine Reg.ifS tab_ok (hint := []) rfl rfl rfl rfl rfl rfl rfl rfl rfl trivial ?_
                  | refine AW.label ?_
                  | refine AW.scope ?_
                  | refine scopeA_normal ?_
                  | refine scopeA_ret ?_
                  | refine scopeA_exit ?_)
                refine AW.loop (S := Nat) (fun i => i ≤ ks.length ∧ withinsP l (ks.drop i) a = R)
                  (fun i => [(1, .d (.sl 3 (l.map tokC) false)), (3, .ptr 0 0), (48, .d (.sl 5 (T.rows ks) false)), (49, .d (.val (.int .i64 (T.rows ks).length))), (50, .d (.val (.int .i64 i)))])
                  (fun _ => [.cells [.d (.val (.int .i64 k)), .d (.val (.string n)), .d (.sl 5 (T.rows ks) false), .d (.sl 1 (strsC ns) false), .d (.val (.int .i64 a))]])
                  (fun i => ks.length - i) 0 ⟨Nat.zero_le _, hR⟩ (fun _ => rfl) ⟨⟨.refl _, .refl _, .refl _, .refl _, .refl _, trivial⟩, ⟨SLes.refl _, trivial⟩, rfl, rfl⟩ ?_
                clear hR
                rintro i ⟨hi, hinv⟩
                repeat (first
                  | refine AW.seq ?_
                  | refine AW.reg ?_
                  | refine Reg.opS tab_ok (hint := []) rfl rfl rfl rfl rfl trivial ?_
                  | refine Reg.opN tab_ok (hint := []) rfl rfl rfl rfl trivial ?_
                  | refine Reg.nil ?_
                  | refine thenA_normal ?_
                  | refine AW.condT rfl ?_
                  | refine AW.condF rfl ?_
                  | refine AW.skip ?_
                  | refine AW.block ?_
                  | refine AW.exit ?_
                  | refine AW.ret ?_
                  | refine thenA_exit ?_
                  | refine thenA_ret ?_
                  | refine blockA_normal ?_
                  | refine blockA_hit ?_
                  | refine blockA_miss rfl ?_
                  | refine blockA_ret ?_
                  | refine Reg.panic rfl rfl rfl rfl ?_
                  | refine thenA_panic ?_
                  | refine blockA_panic ?_
                  | refine Reg.skip rfl rfl rfl rfl rfl rfl rfl rfl ?_
                  | refine Reg.ifS tab_ok (hint := []) rfl rfl rfl rfl rfl rfl rfl rfl rfl trivial ?_
                  | refine AW.label ?_
                  | refine AW.scope ?_
                  | refine scopeA_normal ?_
                  | refine scopeA_ret ?_
                  | refine scopeA_exit ?_)
                cases h6 : decide ((i : Int) < (T.rows ks).length) with
                | true =>
                  have hlt : i < ks.length := by have := of_decide_eq_true h6; rw [T.rows_len] at this; omega
                  obtain ⟨x, r, hx, hxr⟩ := drop_some hlt
                  rw [hx] at hinv
                  simp only [withinsP] at hinv
                  have hnext : IntKind.i64.wrap ((i : Int) + 1) = ((i + 1 : Nat) : Int) := wrap_in (by omega) (by omega)
                  repeat (first
                    | refine AW.seq ?_
                    | refine AW.reg ?_
                    | refine Reg.opS tab_ok (hint := []) rfl rfl rfl rfl rfl trivial ?_
                    | refine Reg.opN tab_ok (hint := []) rfl rfl rfl rfl trivial ?_
                    | refine Reg.nil ?_
                    | refine thenA_normal ?_
                    | refine AW.condT rfl ?_
                    | refine AW.condF rfl ?_
                    | refine AW.skip ?_
                    | refine AW.block ?_
                    | refine AW.exit ?_
                    | refine AW.ret ?_
                    | refine thenA_exit ?_
                    | refine thenA_ret ?_
                    | refine blockA_normal ?_
                    | refine blockA_hit ?_
                    | refine blockA_miss rfl ?_
                    | refine blockA_ret ?_
                    | refine Reg.panic rfl rfl rfl rfl ?_
                    | refine thenA_panic ?_
                    | refine blockA_panic ?_
                    | refine Reg.skip rfl rfl rfl rfl rfl rfl rfl rfl ?_
                    | refine Reg.ifS tab_ok (hint := []) rfl rfl rfl rfl rfl rfl rfl rfl rfl trivial ?_
                    | refine AW.label ?_
                    | refine AW.scope ?_
                    | refine scopeA_normal ?_
                    | refine scopeA_ret ?_
                    | refine scopeA_exit ?_)
                  refine Reg.opS tab_ok (hint := tC x) rfl rfl rfl rfl rfl ⟨rfl, Int.natCast_nonneg _, by rw [Int.toNat_natCast]; exact rows_at hx⟩ ?_
                  repeat (first
                    | refine AW.seq ?_
                    | refine AW.reg ?_
                    | refine Reg.opS tab_ok (hint := []) rfl rfl rfl rfl rfl trivial ?_
                    | refine Reg.opN tab_ok (hint := []) rfl rfl rfl rfl trivial ?_
                    | refine Reg.nil ?_
                    | refine thenA_normal ?_
                    | refine AW.condT rfl ?_
                    | refine AW.condF rfl ?_
                    | refine AW.skip ?_
                    | refine AW.block ?_
                    | refine AW.exit ?_
                    | refine AW.ret ?_
                    | refine thenA_exit ?_
                    | refine thenA_ret ?_
                    | refine blockA_normal ?_
                    | refine blockA_hit ?_
                    | refine blockA_miss rfl ?_
                    | refine blockA_ret ?_
                    | refine Reg.panic rfl rfl rfl rfl ?_
                    | refine thenA_panic ?_
                    | refine blockA_panic ?_
                    | refine Reg.skip rfl rfl rfl rfl rfl rfl rfl rfl ?_
                    | refine Reg.ifS tab_ok (hint := []) rfl rfl rfl rfl rfl rfl rfl rfl rfl trivial ?_
                    | refine AW.label ?_
                    | refine AW.scope ?_
                    | refine scopeA_normal ?_
                    | refine scopeA_ret ?_
                    | refine scopeA_exit ?_)
                  refine Reg.call tab_ok [] (ih x (hkm x (kid_mem hx)) (by omega) a) callable14 rfl (.inl rfl) rfl rfl rfl (by decide) rfl rfl ?_
                  rintro out bx1 ⟨rfl, rfl⟩
                  refine after0 rfl rfl ?_
                  repeat (first
                    | refine AW.seq ?_
                    | refine AW.reg ?_
                    | refine Reg.opS tab_ok (hint := []) rfl rfl rfl rfl rfl trivial ?_
                    | refine Reg.opN tab_ok (hint := []) rfl rfl rfl rfl trivial ?_
                    | refine Reg.nil ?_
                    | refine thenA_normal ?_
                    | refine AW.condT rfl ?_
                    | refine AW.condF rfl ?_
                    | refine AW.skip ?_
                    | refine AW.block ?_
                    | refine AW.exit ?_
                    | refine AW.ret ?_
                    | refine thenA_exit ?_
                    | refine thenA_ret ?_
                    | refine blockA_normal ?_
                    | refine blockA_hit ?_
                    | refine blockA_miss rfl ?_
                    | refine blockA_ret ?_
                    | refine Reg.panic rfl rfl rfl rfl ?_
                    | refine thenA_panic ?_
                    | refine blockA_panic ?_
                    | refine Reg.skip rfl rfl rfl rfl rfl rfl rfl rfl ?_
                    | refine Reg.ifS tab_ok (hint := []) rfl rfl rfl rfl rfl rfl rfl rfl rfl trivial ?_
                    | refine AW.label ?_
                    | refine AW.scope ?_
                    | refine scopeA_normal ?_
                    | refine scopeA_ret ?_
                    | refine scopeA_exit ?_)
                  cases h7 : withinP l x a with
                  | false =>
                    rw [h7, Bool.false_and] at hinv
                    repeat (first
                      | refine AW.seq ?_
                      | refine AW.reg ?_
                      | refine Reg.opS tab_ok (hint := []) rfl rfl rfl rfl rfl trivial ?_
                      | refine Reg.opN tab_ok (hint := []) rfl rfl rfl rfl trivial ?_
                      | refine Reg.nil ?_
                      | refine thenA_normal ?_
                      | refine AW.condT rfl ?_
                      | refine AW.condF rfl ?_
                      | refine AW.skip ?_
                      | refine AW.block ?_
                      | refine AW.exit ?_
                      | refine AW.ret ?_
                      | refine thenA_exit ?_
                      | refine thenA_ret ?_
                      | refine blockA_normal ?_
                      | refine blockA_hit ?_
                      | refine blockA_miss rfl ?_
                      | refine blockA_ret ?_
                      | refine Reg.panic rfl rfl rfl rfl ?_
                      | refine thenA_panic ?_
                      | refine blockA_panic ?_
                      | refine Reg.skip rfl rfl rfl rfl rfl rfl rfl rfl ?_
                      | refine Reg.ifS tab_ok (hint := []) rfl rfl rfl rfl rfl rfl rfl rfl rfl trivial ?_
                      | refine AW.label ?_
                      | refine AW.scope ?_
                      | refine scopeA_normal ?_
                      | refine scopeA_ret ?_
                      | refine scopeA_exit ?_)
                    exact ⟨_, rfl, rfl, rfl, by rw [← hinv], rfl⟩
                  | true =>
                    rw [h7, Bool.true_and] at hinv
                    repeat (first
                      | refine AW.seq ?_
                      | refine AW.reg ?_
                      | refine Reg.opS tab_ok (hint := []) rfl rfl rfl rfl rfl trivial ?_
                      | refine Reg.opN tab_ok (hint := []) rfl rfl rfl rfl trivial ?_
                      | refine Reg.nil ?_
                      | refine thenA_normal ?_
                      | refine AW.condT rfl ?_
                      | refine AW.condF rfl ?_
                      | refine AW.skip ?_
                      | refine AW.block ?_
                      | refine AW.exit ?_
                      | refine AW.ret ?_
                      | refine thenA_exit ?_
                      | refine thenA_ret ?_
                      | refine blockA_normal ?_
                      | refine blockA_hit ?_
                      | refine blockA_miss rfl ?_
                      | refine blockA_ret ?_
                      | refine Reg.panic rfl rfl rfl rfl ?_
                      | refine thenA_panic ?_
                      | refine blockA_panic ?_
                      | refine Reg.skip rfl rfl rfl rfl rfl rfl rfl rfl ?_
                      | refine Reg.ifS tab_ok (hint := []) rfl rfl rfl rfl rfl rfl rfl rfl rfl trivial ?_
                      | refine AW.label ?_
                      | refine AW.scope ?_
                      | refine scopeA_normal ?_
                      | refine scopeA_ret ?_
                      | refine scopeA_exit ?_)
                    rw [hnext]
                    exact ⟨i + 1, ⟨by omega, by rw [hxr]; exact hinv⟩, by omega, ⟨.refl _, .refl _, .refl _, .refl _, .refl _, trivial⟩, ⟨SLes.refl _, trivial⟩, rfl, rfl⟩
                | false =>
                  have hge : ks.length ≤ i := by have := of_decide_eq_false h6; rw [T.rows_len] at this; omega
                  rw [List.drop_eq_nil_of_le hge] at hinv
                  repeat (first
                    | refine AW.seq ?_
                    | refine AW.reg ?_
                    | refine Reg.opS tab_ok (hint := []) rfl rfl rfl rfl rfl trivial ?_
                    | refine Reg.opN tab_ok (hint := []) rfl rfl rfl rfl trivial ?_
                    | refine Reg.nil ?_
                    | refine thenA_normal ?_
                    | refine AW.condT rfl ?_
                    | refine AW.condF rfl ?_
                    | refine AW.skip ?_
                    | refine AW.block ?_
                    | refine AW.exit ?_
                    | refine AW.ret ?_
                    | refine thenA_exit ?_
                    | refine thenA_ret ?_
                    | refine blockA_normal ?_
                    | refine blockA_hit ?_
                    | refine blockA_miss rfl ?_
                    | refine blockA_ret ?_
                    | refine Reg.panic rfl rfl rfl rfl ?_
                    | refine thenA_panic ?_
                    | refine blockA_panic ?_
                    | refine Reg.skip rfl rfl rfl rfl rfl rfl rfl rfl ?_
                    | refine Reg.ifS tab_ok (hint := []) rfl rfl rfl rfl rfl rfl rfl rfl rfl trivial ?_
                    | refine AW.label ?_
                    | refine AW.scope ?_
                    | refine scopeA_normal ?_
                    | refine scopeA_ret ?_
                    | refine scopeA_exit ?_)
                  exact ⟨_, rfl, rfl, rfl, by rw [← hinv]; simp only [withinsP], rfl⟩

end Go.Proofs.YtamkldohfhidiaaDoor
