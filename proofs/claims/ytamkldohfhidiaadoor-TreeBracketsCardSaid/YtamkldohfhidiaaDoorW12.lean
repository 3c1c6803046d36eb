import Derived.Test.YtamkldohfhidiaaDoorW11
namespace Go.Proofs.YtamkldohfhidiaaDoor
open Go Go.Abs

theorem strEq {a b : ByteArray} : (a.toList == b.toList) = (bl a == bl b) := by rw [Lib.toList_data, Lib.toList_data]

theorem prefix_take {x l : List UInt8} : x.isPrefixOf l = (decide (x.length ≤ l.length) && (l.take x.length == x)) := by
  by_cases h : x.isPrefixOf l = true
  · have h1 := List.isPrefixOf_iff_prefix.1 h
    rw [h, decide_eq_true h1.length_le, Bool.true_and]
    have := List.prefix_iff_eq_take.1 h1
    rw [← this]
    simp
  · have h2 : x.isPrefixOf l = false := Bool.eq_false_iff.2 h
    rw [h2]
    cases h3 : (decide (x.length ≤ l.length) && (l.take x.length == x)) with
    | false => rfl
    | true =>
      exfalso
      simp only [Bool.and_eq_true, beq_iff_eq] at h3
      exact h (List.isPrefixOf_iff_prefix.2 (List.prefix_iff_eq_take.2 h3.2.symm))

theorem pre82_any {G : Glob} (s x : ByteArray) : ACalls Tryd.prog G 82 [.d (.val (.string s)), .d (.val (.string x))] [] fun out b => out = .ret (.d (.val (.bool ((bl x).isPrefixOf (bl s))))) ∧ b = [] := by
  refine ACalls.body tab_ok Tryd.func82 rfl rfl ?_
  repeat (first
    | refine AW.seq ?_
    | refine AW.reg ?_
    | refine Reg.opS tab_ok (hint := []) rfl rfl rfl rfl rfl trivial ?_
    | refine Reg.opN tab_ok (hint := []) rfl rfl rfl rfl trivial ?_
    | refine Reg.nil ?_
    | refine thenA_normal ?_
    | refine AW.condT rfl ?_
    | refine AW.condF rfl ?_
    | refine AW.skip ?_
    | refine AW.block ?_
    | refine AW.exit ?_
    | refine AW.ret ?_
    | refine thenA_exit ?_
    | refine thenA_ret ?_
    | refine blockA_normal ?_
    | refine blockA_hit ?_
    | refine blockA_miss rfl ?_
    | refine blockA_ret ?_
    | refine Reg.panic rfl rfl rfl rfl ?_
    | refine thenA_panic ?_
    | refine blockA_panic ?_
    | refine Reg.skip rfl rfl rfl rfl rfl rfl rfl rfl ?_
    | refine Reg.ifS tab_ok (hint := []) rfl rfl rfl rfl rfl rfl rfl rfl rfl trivial ?_
    | refine AW.label ?_
    | refine AW.scope ?_
    | refine scopeA_normal ?_
    | refine scopeA_ret ?_
    | refine scopeA_exit ?_)
  cases h1 : decide ((s.size : Int) ≥ x.size) with
  | false =>
    have h2 : ¬ (x.size ≤ s.size) := by have := of_decide_eq_false h1; omega
    repeat (first
      | refine AW.seq ?_
      | refine AW.reg ?_
      | refine Reg.opS tab_ok (hint := []) rfl rfl rfl rfl rfl trivial ?_
      | refine Reg.opN tab_ok (hint := []) rfl rfl rfl rfl trivial ?_
      | refine Reg.nil ?_
      | refine thenA_normal ?_
      | refine AW.condT rfl ?_
      | refine AW.condF rfl ?_
      | refine AW.skip ?_
      | refine AW.block ?_
      | refine AW.exit ?_
      | refine AW.ret ?_
      | refine thenA_exit ?_
      | refine thenA_ret ?_
      | refine blockA_normal ?_
      | refine blockA_hit ?_
      | refine blockA_miss rfl ?_
      | refine blockA_ret ?_
      | refine Reg.panic rfl rfl rfl rfl ?_
      | refine thenA_panic ?_
      | refine blockA_panic ?_
      | refine Reg.skip rfl rfl rfl rfl rfl rfl rfl rfl ?_
      | refine Reg.ifS tab_ok (hint := []) rfl rfl rfl rfl rfl rfl rfl rfl rfl trivial ?_
      | refine AW.label ?_
      | refine AW.scope ?_
      | refine scopeA_normal ?_
      | refine scopeA_ret ?_
      | refine scopeA_exit ?_)
    exact ⟨_, rfl, rfl, rfl, by rw [prefix_take, bl_len, bl_len, decide_eq_false h2]; rfl, rfl⟩
  | true =>
    have h2 : x.size ≤ s.size := by have := of_decide_eq_true h1; omega
    repeat (first
      | refine AW.seq ?_
      | refine AW.reg ?_
      | refine Reg.opS tab_ok (hint := []) rfl rfl rfl rfl rfl trivial ?_
      | refine Reg.opN tab_ok (hint := []) rfl rfl rfl rfl trivial ?_
      | refine Reg.nil ?_
      | refine thenA_normal ?_
      | refine AW.condT rfl ?_
      | refine AW.condF rfl ?_
      | refine AW.skip ?_
      | refine AW.block ?_
      | refine AW.exit ?_
      | refine AW.ret ?_
      | refine thenA_exit ?_
      | refine thenA_ret ?_
      | refine blockA_normal ?_
      | refine blockA_hit ?_
      | refine blockA_miss rfl ?_
      | refine blockA_ret ?_
      | refine Reg.panic rfl rfl rfl rfl ?_
      | refine thenA_panic ?_
      | refine blockA_panic ?_
      | refine Reg.skip rfl rfl rfl rfl rfl rfl rfl rfl ?_
      | refine Reg.ifS tab_ok (hint := []) rfl rfl rfl rfl rfl rfl rfl rfl rfl trivial ?_
      | refine AW.label ?_
      | refine AW.scope ?_
      | refine scopeA_normal ?_
      | refine scopeA_ret ?_
      | refine scopeA_exit ?_)
    refine Reg.ifS tab_ok (hint := []) rfl rfl rfl rfl rfl rfl rfl rfl rfl ⟨Int.natCast_nonneg _, Int.ofNat_le.2 h2⟩ ?_
    repeat (first
      | refine AW.seq ?_
      | refine AW.reg ?_
      | refine Reg.opS tab_ok (hint := []) rfl rfl rfl rfl rfl trivial ?_
      | refine Reg.opN tab_ok (hint := []) rfl rfl rfl rfl trivial ?_
      | refine Reg.nil ?_
      | refine thenA_normal ?_
      | refine AW.condT rfl ?_
      | refine AW.condF rfl ?_
      | refine AW.skip ?_
      | refine AW.block ?_
      | refine AW.exit ?_
      | refine AW.ret ?_
      | refine thenA_exit ?_
      | refine thenA_ret ?_
      | refine blockA_normal ?_
      | refine blockA_hit ?_
      | refine blockA_miss rfl ?_
      | refine blockA_ret ?_
      | refine Reg.panic rfl rfl rfl rfl ?_
      | refine thenA_panic ?_
      | refine blockA_panic ?_
      | refine Reg.skip rfl rfl rfl rfl rfl rfl rfl rfl ?_
      | refine Reg.ifS tab_ok (hint := []) rfl rfl rfl rfl rfl rfl rfl rfl rfl trivial ?_
      | refine AW.label ?_
      | refine AW.scope ?_
      | refine scopeA_normal ?_
      | refine scopeA_ret ?_
      | refine scopeA_exit ?_)
    have e : bl (s.extract 0 (x.size : Int).toNat) = (bl s).take x.size := by rw [Int.toNat_natCast]; exact extract_toList s 0 x.size
    exact ⟨_, rfl, rfl, rfl, by rw [prefix_take, bl_len, bl_len, decide_eq_true h2, strEq, e]; rfl, rfl⟩

theorem callable82 : Callable Tryd.prog 82 := ⟨_, Tryd.func82, rfl, rfl⟩

theorem pre_any {G : Glob} (s x : ByteArray) : ACalls Tryd.prog G 59 [.d (.val (.string s)), .d (.val (.string x))] [] fun out b => out = .ret (.d (.val (.bool ((bl x).isPrefixOf (bl s))))) ∧ b = [] := by
  refine ACalls.body tab_ok Tryd.func59 rfl rfl ?_
  repeat (first
    | refine AW.seq ?_
    | refine AW.reg ?_
    | refine Reg.opS tab_ok (hint := []) rfl rfl rfl rfl rfl trivial ?_
    | refine Reg.opN tab_ok (hint := []) rfl rfl rfl rfl trivial ?_
    | refine Reg.nil ?_
    | refine thenA_normal ?_
    | refine AW.condT rfl ?_
    | refine AW.condF rfl ?_
    | refine AW.skip ?_
    | refine AW.block ?_
    | refine AW.exit ?_
    | refine AW.ret ?_
    | refine thenA_exit ?_
    | refine thenA_ret ?_
    | refine blockA_normal ?_
    | refine blockA_hit ?_
    | refine blockA_miss rfl ?_
    | refine blockA_ret ?_
    | refine Reg.panic rfl rfl rfl rfl ?_
    | refine thenA_panic ?_
    | refine blockA_panic ?_
    | refine Reg.skip rfl rfl rfl rfl rfl rfl rfl rfl ?_
    | refine Reg.ifS tab_ok (hint := []) rfl rfl rfl rfl rfl rfl rfl rfl rfl trivial ?_
    | refine AW.label ?_
    | refine AW.scope ?_
    | refine scopeA_normal ?_
    | refine scopeA_ret ?_
    | refine scopeA_exit ?_)
  refine Reg.call tab_ok [] (pre82_any s x) callable82 rfl (.inl rfl) rfl rfl rfl (by decide) rfl rfl ?_
  rintro out bx1 ⟨rfl, rfl⟩
  refine after0 rfl rfl ?_
  repeat (first
    | refine AW.seq ?_
    | refine AW.reg ?_
    | refine Reg.opS tab_ok (hint := []) rfl rfl rfl rfl rfl trivial ?_
    | refine Reg.opN tab_ok (hint := []) rfl rfl rfl rfl trivial ?_
    | refine Reg.nil ?_
    | refine thenA_normal ?_
    | refine AW.condT rfl ?_
    | refine AW.condF rfl ?_
    | refine AW.skip ?_
    | refine AW.block ?_
    | refine AW.exit ?_
    | refine AW.ret ?_
    | refine thenA_exit ?_
    | refine thenA_ret ?_
    | refine blockA_normal ?_
    | refine blockA_hit ?_
    | refine blockA_miss rfl ?_
    | refine blockA_ret ?_
    | refine Reg.panic rfl rfl rfl rfl ?_
    | refine thenA_panic ?_
    | refine blockA_panic ?_
    | refine Reg.skip rfl rfl rfl rfl rfl rfl rfl rfl ?_
    | refine Reg.ifS tab_ok (hint := []) rfl rfl rfl rfl rfl rfl rfl rfl rfl trivial ?_
    | refine AW.label ?_
    | refine AW.scope ?_
    | refine scopeA_normal ?_
    | refine scopeA_ret ?_
    | refine scopeA_exit ?_)
  exact ⟨_, rfl, rfl, rfl, rfl, rfl⟩

theorem callable59 : Callable Tryd.prog 59 := ⟨_, Tryd.func59, rfl, rfl⟩

theorem drop_next {s : ByteArray} {n : Nat} {c : UInt8} {r : List UInt8} (h : (bl s).drop n = c :: r) : (bl s).drop (n + 1) = r := by rw [← List.drop_drop, h]; rfl
theorem drop_cons {s : ByteArray} {n : Nat} (h : (n : Int) < s.size) : ∃ c r, (bl s).drop n = c :: r := by
  cases h1 : (bl s).drop n with
  | nil => have := congrArg List.length h1; rw [List.length_drop, bl_len] at this; simp at this; omega
  | cons c r => exact ⟨c, r, rfl⟩


set_option maxHeartbeats 4000000 in
theorem past_any {G : Glob} (s : ByteArray) (hs : s.size ≤ 100000) (a : Nat) (ha : a ≤ s.size) : ACalls Tryd.prog G 30 [.d (.val (.string s)), .d (.val (.int .i64 a))] [] fun out b =>
    out = .ret (.d (.val (.int .i64 ((a + pastT false ((bl s).drop a) : Nat))))) ∧ b = [] := by
  generalize hR : a + pastT false ((bl s).drop a) = R
  refine ACalls.body tab_ok Tryd.func30 rfl rfl ?_
  repeat (first
    | refine AW.seq ?_
    | refine AW.reg ?_
    | refine Reg.opS tab_ok (hint := []) rfl rfl rfl rfl rfl trivial ?_
    | refine Reg.opN tab_ok (hint := []) rfl rfl rfl rfl trivial ?_
    | refine Reg.nil ?_
    | refine thenA_normal ?_
    | refine AW.condT rfl ?_
    | refine AW.condF rfl ?_
    | refine AW.skip ?_
    | refine AW.block ?_
    | refine AW.exit ?_
    | refine AW.ret ?_
    | refine thenA_exit ?_
    | refine thenA_ret ?_
    | refine blockA_normal ?_
    | refine blockA_hit ?_
    | refine blockA_miss rfl ?_
    | refine blockA_ret ?_
    | refine Reg.panic rfl rfl rfl rfl ?_
    | refine thenA_panic ?_
    | refine blockA_panic ?_
    | refine Reg.skip rfl rfl rfl rfl rfl rfl rfl rfl ?_
    | refine Reg.ifS tab_ok (hint := []) rfl rfl rfl rfl rfl rfl rfl rfl rfl trivial ?_
    | refine AW.label ?_
    | refine AW.scope ?_
    | refine scopeA_normal ?_
    | refine scopeA_ret ?_
    | refine scopeA_exit ?_)
  refine AW.loop (S := Nat) (fun n => n ≤ s.size ∧ n + pastT false ((bl s).drop n) = R) (fun n => [(0, .d (.val (.string s))), (1, .d (.val (.int .i64 n)))]) (fun _ => []) (fun n => s.size - n) a
    ⟨ha, hR⟩ (fun _ => rfl) ⟨⟨.refl _, .refl _, trivial⟩, trivial, rfl, rfl⟩ ?_
  clear hR ha
  rintro n ⟨hn, hinv⟩
  repeat (first
    | refine AW.seq ?_
    | refine AW.reg ?_
    | refine Reg.opS tab_ok (hint := []) rfl rfl rfl rfl rfl trivial ?_
    | refine Reg.opN tab_ok (hint := []) rfl rfl rfl rfl trivial ?_
    | refine Reg.nil ?_
    | refine thenA_normal ?_
    | refine AW.condT rfl ?_
    | refine AW.condF rfl ?_
    | refine AW.skip ?_
    | refine AW.block ?_
    | refine AW.exit ?_
    | refine AW.ret ?_
    | refine thenA_exit ?_
    | refine thenA_ret ?_
    | refine blockA_normal ?_
    | refine blockA_hit ?_
    | refine blockA_miss rfl ?_
    | refine blockA_ret ?_
    | refine Reg.panic rfl rfl rfl rfl ?_
    | refine thenA_panic ?_
    | refine blockA_panic ?_
    | refine Reg.skip rfl rfl rfl rfl rfl rfl rfl rfl ?_
    | refine Reg.ifS tab_ok (hint := []) rfl rfl rfl rfl rfl rfl rfl rfl rfl trivial ?_
    | refine AW.label ?_
    | refine AW.scope ?_
    | refine scopeA_normal ?_
    | refine scopeA_ret ?_
    | refine scopeA_exit ?_)
  cases h1 : decide ((n : Int) < s.size) with
  | false =>
    have h2 : (bl s).drop n = [] := List.drop_eq_nil_of_le (by rw [bl_len]; have := of_decide_eq_false h1; omega)
    rw [h2] at hinv
    simp only [pastT, Nat.add_zero] at hinv
    subst hinv
    repeat (first
      | refine AW.seq ?_
      | refine AW.reg ?_
      | refine Reg.opS tab_ok (hint := []) rfl rfl rfl rfl rfl trivial ?_
      | refine Reg.opN tab_ok (hint := []) rfl rfl rfl rfl trivial ?_
      | refine Reg.nil ?_
      | refine thenA_normal ?_
      | refine AW.condT rfl ?_
      | refine AW.condF rfl ?_
      | refine AW.skip ?_
      | refine AW.block ?_
      | refine AW.exit ?_
      | refine AW.ret ?_
      | refine thenA_exit ?_
      | refine thenA_ret ?_
      | refine blockA_normal ?_
      | refine blockA_hit ?_
      | refine blockA_miss rfl ?_
      | refine blockA_ret ?_
      | refine Reg.panic rfl rfl rfl rfl ?_
      | refine thenA_panic ?_
      | refine blockA_panic ?_
      | refine Reg.skip rfl rfl rfl rfl rfl rfl rfl rfl ?_
      | refine Reg.ifS tab_ok (hint := []) rfl rfl rfl rfl rfl rfl rfl rfl rfl trivial ?_
      | refine AW.label ?_
      | refine AW.scope ?_
      | refine scopeA_normal ?_
      | refine scopeA_ret ?_
      | refine scopeA_exit ?_)
    exact ⟨_, rfl, rfl, rfl, rfl, rfl⟩
  | true =>
    have hlt := of_decide_eq_true h1
    obtain ⟨c, r, hd⟩ := drop_cons hlt
    have hdr := drop_next hd
    obtain ⟨hb, _⟩ := bt_at hd
    have hd0 := hd
    rw [hd] at hinv
    simp only [pastT] at hinv
    have hnext : IntKind.i64.wrap ((n : Int) + 1) = ((n + 1 : Nat) : Int) := wrap_in (by omega) (by omega)
    repeat (first
      | refine AW.seq ?_
      | refine AW.reg ?_
      | refine Reg.opS tab_ok (hint := []) rfl rfl rfl rfl rfl trivial ?_
      | refine Reg.opN tab_ok (hint := []) rfl rfl rfl rfl trivial ?_
      | refine Reg.nil ?_
      | refine thenA_normal ?_
      | refine AW.condT rfl ?_
      | refine AW.condF rfl ?_
      | refine AW.skip ?_
      | refine AW.block ?_
      | refine AW.exit ?_
      | refine AW.ret ?_
      | refine thenA_exit ?_
      | refine thenA_ret ?_
      | refine blockA_normal ?_
      | refine blockA_hit ?_
      | refine blockA_miss rfl ?_
      | refine blockA_ret ?_
      | refine Reg.panic rfl rfl rfl rfl ?_
      | refine thenA_panic ?_
      | refine blockA_panic ?_
      | refine Reg.skip rfl rfl rfl rfl rfl rfl rfl rfl ?_
      | refine Reg.ifS tab_ok (hint := []) rfl rfl rfl rfl rfl rfl rfl rfl rfl trivial ?_
      | refine AW.label ?_
      | refine AW.scope ?_
      | refine scopeA_normal ?_
      | refine scopeA_ret ?_
      | refine scopeA_exit ?_)
    refine Reg.opS tab_ok (hint := []) rfl rfl rfl rfl rfl ⟨Int.natCast_nonneg _, hlt⟩ ?_
    rw [hb]
    repeat (first
      | refine AW.seq ?_
      | refine AW.reg ?_
      | refine Reg.opS tab_ok (hint := []) rfl rfl rfl rfl rfl trivial ?_
      | refine Reg.opN tab_ok (hint := []) rfl rfl rfl rfl trivial ?_
      | refine Reg.nil ?_
      | refine thenA_normal ?_
      | refine AW.condT rfl ?_
      | refine AW.condF rfl ?_
      | refine AW.skip ?_
      | refine AW.block ?_
      | refine AW.exit ?_
      | refine AW.ret ?_
      | refine thenA_exit ?_
      | refine thenA_ret ?_
      | refine blockA_normal ?_
      | refine blockA_hit ?_
      | refine blockA_miss rfl ?_
      | refine blockA_ret ?_
      | refine Reg.panic rfl rfl rfl rfl ?_
      | refine thenA_panic ?_
      | refine blockA_panic ?_
      | refine Reg.skip rfl rfl rfl rfl rfl rfl rfl rfl ?_
      | refine Reg.ifS tab_ok (hint := []) rfl rfl rfl rfl rfl rfl rfl rfl rfl trivial ?_
      | refine AW.label ?_
      | refine AW.scope ?_
      | refine scopeA_normal ?_
      | refine scopeA_ret ?_
      | refine scopeA_exit ?_)
    cases h2 : ((c.toNat : Int) == 32) with
    | true =>
      have h2' : c.toNat = 32 := by have := eq_of_beq h2; omega
      repeat (first
        | refine AW.seq ?_
        | refine AW.reg ?_
        | refine Reg.opS tab_ok (hint := []) rfl rfl rfl rfl rfl trivial ?_
        | refine Reg.opN tab_ok (hint := []) rfl rfl rfl rfl trivial ?_
        | refine Reg.nil ?_
        | refine thenA_normal ?_
        | refine AW.condT rfl ?_
        | refine AW.condF rfl ?_
        | refine AW.skip ?_
        | refine AW.block ?_
        | refine AW.exit ?_
        | refine AW.ret ?_
        | refine thenA_exit ?_
        | refine thenA_ret ?_
        | refine blockA_normal ?_
        | refine blockA_hit ?_
        | refine blockA_miss rfl ?_
        | refine blockA_ret ?_
        | refine Reg.panic rfl rfl rfl rfl ?_
        | refine thenA_panic ?_
        | refine blockA_panic ?_
        | refine Reg.skip rfl rfl rfl rfl rfl rfl rfl rfl ?_
        | refine Reg.ifS tab_ok (hint := []) rfl rfl rfl rfl rfl rfl rfl rfl rfl trivial ?_
        | refine AW.label ?_
        | refine AW.scope ?_
        | refine scopeA_normal ?_
        | refine scopeA_ret ?_
        | refine scopeA_exit ?_)
      rw [hnext]
      refine ⟨n + 1, ⟨by omega, ?_⟩, by omega, ⟨.refl _, .refl _, trivial⟩, trivial, rfl, rfl⟩
      rw [hdr, ← hinv, if_pos (by omega)]
      omega
    | false =>
      have h2' : c.toNat ≠ 32 := by intro e; rw [e] at h2; cases h2
      repeat (first
        | refine AW.seq ?_
        | refine AW.reg ?_
        | refine Reg.opS tab_ok (hint := []) rfl rfl rfl rfl rfl trivial ?_
        | refine Reg.opN tab_ok (hint := []) rfl rfl rfl rfl trivial ?_
        | refine Reg.nil ?_
        | refine thenA_normal ?_
        | refine AW.condT rfl ?_
        | refine AW.condF rfl ?_
        | refine AW.skip ?_
        | refine AW.block ?_
        | refine AW.exit ?_
        | refine AW.ret ?_
        | refine thenA_exit ?_
        | refine thenA_ret ?_
        | refine blockA_normal ?_
        | refine blockA_hit ?_
        | refine blockA_miss rfl ?_
        | refine blockA_ret ?_
        | refine Reg.panic rfl rfl rfl rfl ?_
        | refine thenA_panic ?_
        | refine blockA_panic ?_
        | refine Reg.skip rfl rfl rfl rfl rfl rfl rfl rfl ?_
        | refine Reg.ifS tab_ok (hint := []) rfl rfl rfl rfl rfl rfl rfl rfl rfl trivial ?_
        | refine AW.label ?_
        | refine AW.scope ?_
        | refine scopeA_normal ?_
        | refine scopeA_ret ?_
        | refine scopeA_exit ?_)
      cases h3 : ((c.toNat : Int) == 9) with
      | true =>
        have h3' : c.toNat = 9 := by have := eq_of_beq h3; omega
        repeat (first
          | refine AW.seq ?_
          | refine AW.reg ?_
          | refine Reg.opS tab_ok (hint := []) rfl rfl rfl rfl rfl trivial ?_
          | refine Reg.opN tab_ok (hint := []) rfl rfl rfl rfl trivial ?_
          | refine Reg.nil ?_
          | refine thenA_normal ?_
          | refine AW.condT rfl ?_
          | refine AW.condF rfl ?_
          | refine AW.skip ?_
          | refine AW.block ?_
          | refine AW.exit ?_
          | refine AW.ret ?_
          | refine thenA_exit ?_
          | refine thenA_ret ?_
          | refine blockA_normal ?_
          | refine blockA_hit ?_
          | refine blockA_miss rfl ?_
          | refine blockA_ret ?_
          | refine Reg.panic rfl rfl rfl rfl ?_
          | refine thenA_panic ?_
          | refine blockA_panic ?_
          | refine Reg.skip rfl rfl rfl rfl rfl rfl rfl rfl ?_
          | refine Reg.ifS tab_ok (hint := []) rfl rfl rfl rfl rfl rfl rfl rfl rfl trivial ?_
          | refine AW.label ?_
          | refine AW.scope ?_
          | refine scopeA_normal ?_
          | refine scopeA_ret ?_
          | refine scopeA_exit ?_)
        rw [hnext]
        refine ⟨n + 1, ⟨by omega, ?_⟩, by omega, ⟨.refl _, .refl _, trivial⟩, trivial, rfl, rfl⟩
        rw [hdr, ← hinv, if_pos (by omega)]
        omega
      | false =>
        have h3' : c.toNat ≠ 9 := by intro e; rw [e] at h3; cases h3
        repeat (first
          | refine AW.seq ?_
          | refine AW.reg ?_
          | refine Reg.opS tab_ok (hint := []) rfl rfl rfl rfl rfl trivial ?_
          | refine Reg.opN tab_ok (hint := []) rfl rfl rfl rfl trivial ?_
          | refine Reg.nil ?_
          | refine thenA_normal ?_
          | refine AW.condT rfl ?_
          | refine AW.condF rfl ?_
          | refine AW.skip ?_
          | refine AW.block ?_
          | refine AW.exit ?_
          | refine AW.ret ?_
          | refine thenA_exit ?_
          | refine thenA_ret ?_
          | refine blockA_normal ?_
          | refine blockA_hit ?_
          | refine blockA_miss rfl ?_
          | refine blockA_ret ?_
          | refine Reg.panic rfl rfl rfl rfl ?_
          | refine thenA_panic ?_
          | refine blockA_panic ?_
          | refine Reg.skip rfl rfl rfl rfl rfl rfl rfl rfl ?_
          | refine Reg.ifS tab_ok (hint := []) rfl rfl rfl rfl rfl rfl rfl rfl rfl trivial ?_
          | refine AW.label ?_
          | refine AW.scope ?_
          | refine scopeA_normal ?_
          | refine scopeA_ret ?_
          | refine scopeA_exit ?_)
        cases h4 : ((c.toNat : Int) == 10) with
        | true =>
          have h4' : c.toNat = 10 := by have := eq_of_beq h4; omega
          repeat (first
            | refine AW.seq ?_
            | refine AW.reg ?_
            | refine Reg.opS tab_ok (hint := []) rfl rfl rfl rfl rfl trivial ?_
            | refine Reg.opN tab_ok (hint := []) rfl rfl rfl rfl trivial ?_
            | refine Reg.nil ?_
            | refine thenA_normal ?_
            | refine AW.condT rfl ?_
            | refine AW.condF rfl ?_
            | refine AW.skip ?_
            | refine AW.block ?_
            | refine AW.exit ?_
            | refine AW.ret ?_
            | refine thenA_exit ?_
            | refine thenA_ret ?_
            | refine blockA_normal ?_
            | refine blockA_hit ?_
            | refine blockA_miss rfl ?_
            | refine blockA_ret ?_
            | refine Reg.panic rfl rfl rfl rfl ?_
            | refine thenA_panic ?_
            | refine blockA_panic ?_
            | refine Reg.skip rfl rfl rfl rfl rfl rfl rfl rfl ?_
            | refine Reg.ifS tab_ok (hint := []) rfl rfl rfl rfl rfl rfl rfl rfl rfl trivial ?_
            | refine AW.label ?_
            | refine AW.scope ?_
            | refine scopeA_normal ?_
            | refine scopeA_ret ?_
            | refine scopeA_exit ?_)
          rw [hnext]
          refine ⟨n + 1, ⟨by omega, ?_⟩, by omega, ⟨.refl _, .refl _, trivial⟩, trivial, rfl, rfl⟩
          rw [hdr, ← hinv, if_pos (by omega)]
          omega
        | false =>
          have h4' : c.toNat ≠ 10 := by intro e; rw [e] at h4; cases h4
          repeat (first
            | refine AW.seq ?_
            | refine AW.reg ?_
            | refine Reg.opS tab_ok (hint := []) rfl rfl rfl rfl rfl trivial ?_
            | refine Reg.opN tab_ok (hint := []) rfl rfl rfl rfl trivial ?_
            | refine Reg.nil ?_
            | refine thenA_normal ?_
            | refine AW.condT rfl ?_
            | refine AW.condF rfl ?_
            | refine AW.skip ?_
            | refine AW.block ?_
            | refine AW.exit ?_
            | refine AW.ret ?_
            | refine thenA_exit ?_
            | refine thenA_ret ?_
            | refine blockA_normal ?_
            | refine blockA_hit ?_
            | refine blockA_miss rfl ?_
            | refine blockA_ret ?_
            | refine Reg.panic rfl rfl rfl rfl ?_
            | refine thenA_panic ?_
            | refine blockA_panic ?_
            | refine Reg.skip rfl rfl rfl rfl rfl rfl rfl rfl ?_
            | refine Reg.ifS tab_ok (hint := []) rfl rfl rfl rfl rfl rfl rfl rfl rfl trivial ?_
            | refine AW.label ?_
            | refine AW.scope ?_
            | refine scopeA_normal ?_
            | refine scopeA_ret ?_
            | refine scopeA_exit ?_)
          cases h5 : ((c.toNat : Int) == 13) with
          | true =>
            have h5' : c.toNat = 13 := by have := eq_of_beq h5; omega
            repeat (first
              | refine AW.seq ?_
              | refine AW.reg ?_
              | refine Reg.opS tab_ok (hint := []) rfl rfl rfl rfl rfl trivial ?_
              | refine Reg.opN tab_ok (hint := []) rfl rfl rfl rfl trivial ?_
              | refine Reg.nil ?_
              | refine thenA_normal ?_
              | refine AW.condT rfl ?_
              | refine AW.condF rfl ?_
              | refine AW.skip ?_
              | refine AW.block ?_
              | refine AW.exit ?_
              | refine AW.ret ?_
              | refine thenA_exit ?_
              | refine thenA_ret ?_
              | refine blockA_normal ?_
              | refine blockA_hit ?_
              | refine blockA_miss rfl ?_
              | refine blockA_ret ?_
              | refine Reg.panic rfl rfl rfl rfl ?_
              | refine thenA_panic ?_
              | refine blockA_panic ?_
              | refine Reg.skip rfl rfl rfl rfl rfl rfl rfl rfl ?_
              | refine Reg.ifS tab_ok (hint := []) rfl rfl rfl rfl rfl rfl rfl rfl rfl trivial ?_
              | refine AW.label ?_
              | refine AW.scope ?_
              | refine scopeA_normal ?_
              | refine scopeA_ret ?_
              | refine scopeA_exit ?_)
            rw [hnext]
            refine ⟨n + 1, ⟨by omega, ?_⟩, by omega, ⟨.refl _, .refl _, trivial⟩, trivial, rfl, rfl⟩
            rw [hdr, ← hinv, if_pos (by omega)]
            omega
          | false =>
            have h5' : c.toNat ≠ 13 := by intro e; rw [e] at h5; cases h5
            rw [if_neg (by omega)] at hinv
            repeat (first
              | refine AW.seq ?_
              | refine AW.reg ?_
              | refine Reg.opS tab_ok (hint := []) rfl rfl rfl rfl rfl trivial ?_
              | refine Reg.opN tab_ok (hint := []) rfl rfl rfl rfl trivial ?_
              | refine Reg.nil ?_
              | refine thenA_normal ?_
              | refine AW.condT rfl ?_
              | refine AW.condF rfl ?_
              | refine AW.skip ?_
              | refine AW.block ?_
              | refine AW.exit ?_
              | refine AW.ret ?_
              | refine thenA_exit ?_
              | refine thenA_ret ?_
              | refine blockA_normal ?_
              | refine blockA_hit ?_
              | refine blockA_miss rfl ?_
              | refine blockA_ret ?_
              | refine Reg.panic rfl rfl rfl rfl ?_
              | refine thenA_panic ?_
              | refine blockA_panic ?_
              | refine Reg.skip rfl rfl rfl rfl rfl rfl rfl rfl ?_
              | refine Reg.ifS tab_ok (hint := []) rfl rfl rfl rfl rfl rfl rfl rfl rfl trivial ?_
              | refine AW.label ?_
              | refine AW.scope ?_
              | refine scopeA_normal ?_
              | refine scopeA_ret ?_
              | refine scopeA_exit ?_)
            cases h6 : ((c.toNat : Int) == 45) with
            | false =>
              have h6' : c ≠ 45 := by rintro rfl; cases h6
              have h7 : [45, 45].isPrefixOf (c :: r) = false := by simp [List.isPrefixOf, Ne.symm h6']
              rw [h7] at hinv
              simp only [Bool.false_eq_true, if_false, Nat.add_zero] at hinv
              subst hinv
              repeat (first
                | refine AW.seq ?_
                | refine AW.reg ?_
                | refine Reg.opS tab_ok (hint := []) rfl rfl rfl rfl rfl trivial ?_
                | refine Reg.opN tab_ok (hint := []) rfl rfl rfl rfl trivial ?_
                | refine Reg.nil ?_
                | refine thenA_normal ?_
                | refine AW.condT rfl ?_
                | refine AW.condF rfl ?_
                | refine AW.skip ?_
                | refine AW.block ?_
                | refine AW.exit ?_
                | refine AW.ret ?_
                | refine thenA_exit ?_
                | refine thenA_ret ?_
                | refine blockA_normal ?_
                | refine blockA_hit ?_
                | refine blockA_miss rfl ?_
                | refine blockA_ret ?_
                | refine Reg.panic rfl rfl rfl rfl ?_
                | refine thenA_panic ?_
                | refine blockA_panic ?_
                | refine Reg.skip rfl rfl rfl rfl rfl rfl rfl rfl ?_
                | refine Reg.ifS tab_ok (hint := []) rfl rfl rfl rfl rfl rfl rfl rfl rfl trivial ?_
                | refine AW.label ?_
                | refine AW.scope ?_
                | refine scopeA_normal ?_
                | refine scopeA_ret ?_
                | refine scopeA_exit ?_)
              exact ⟨_, rfl, rfl, rfl, rfl, rfl⟩
            | true =>
              repeat (first
                | refine AW.seq ?_
                | refine AW.reg ?_
                | refine Reg.opS tab_ok (hint := []) rfl rfl rfl rfl rfl trivial ?_
                | refine Reg.opN tab_ok (hint := []) rfl rfl rfl rfl trivial ?_
                | refine Reg.nil ?_
                | refine thenA_normal ?_
                | refine AW.condT rfl ?_
                | refine AW.condF rfl ?_
                | refine AW.skip ?_
                | refine AW.block ?_
                | refine AW.exit ?_
                | refine AW.ret ?_
                | refine thenA_exit ?_
                | refine thenA_ret ?_
                | refine blockA_normal ?_
                | refine blockA_hit ?_
                | refine blockA_miss rfl ?_
                | refine blockA_ret ?_
                | refine Reg.panic rfl rfl rfl rfl ?_
                | refine thenA_panic ?_
                | refine blockA_panic ?_
                | refine Reg.skip rfl rfl rfl rfl rfl rfl rfl rfl ?_
                | refine Reg.ifS tab_ok (hint := []) rfl rfl rfl rfl rfl rfl rfl rfl rfl trivial ?_
                | refine AW.label ?_
                | refine AW.scope ?_
                | refine scopeA_normal ?_
                | refine scopeA_ret ?_
                | refine scopeA_exit ?_)
              refine Reg.opS tab_ok (hint := []) rfl rfl rfl rfl rfl ⟨Int.natCast_nonneg _, by omega⟩ ?_
              refine Reg.call tab_ok [] (pre_any (s.extract n s.size) (bs [45, 45])) callable59 rfl (.inl rfl) rfl rfl rfl (by decide) rfl rfl ?_
              rintro out bx1 ⟨rfl, rfl⟩
              refine after0 rfl rfl ?_
              have he : bl (s.extract n s.size) = c :: r := by rw [bl, extract_end, hd]
              rw [he]
              repeat (first
                | refine AW.seq ?_
                | refine AW.reg ?_
                | refine Reg.opS tab_ok (hint := []) rfl rfl rfl rfl rfl trivial ?_
                | refine Reg.opN tab_ok (hint := []) rfl rfl rfl rfl trivial ?_
                | refine Reg.nil ?_
                | refine thenA_normal ?_
                | refine AW.condT rfl ?_
                | refine AW.condF rfl ?_
                | refine AW.skip ?_
                | refine AW.block ?_
                | refine AW.exit ?_
                | refine AW.ret ?_
                | refine thenA_exit ?_
                | refine thenA_ret ?_
                | refine blockA_normal ?_
                | refine blockA_hit ?_
                | refine blockA_miss rfl ?_
                | refine blockA_ret ?_
                | refine Reg.panic rfl rfl rfl rfl ?_
                | refine thenA_panic ?_
                | refine blockA_panic ?_
                | refine Reg.skip rfl rfl rfl rfl rfl rfl rfl rfl ?_
                | refine Reg.ifS tab_ok (hint := []) rfl rfl rfl rfl rfl rfl rfl rfl rfl trivial ?_
                | refine AW.label ?_
                | refine AW.scope ?_
                | refine scopeA_normal ?_
                | refine scopeA_ret ?_
                | refine scopeA_exit ?_)
              cases h7 : List.isPrefixOf (bl (bs [45, 45])) (c :: r) with
              | false =>
                have h7' : [45, 45].isPrefixOf (c :: r) = false := h7
                rw [h7'] at hinv
                simp only [Bool.false_eq_true, if_false, Nat.add_zero] at hinv
                subst hinv
                repeat (first
                  | refine AW.seq ?_
                  | refine AW.reg ?_
                  | refine Reg.opS tab_ok (hint := []) rfl rfl rfl rfl rfl trivial ?_
                  | refine Reg.opN tab_ok (hint := []) rfl rfl rfl rfl trivial ?_
                  | refine Reg.nil ?_
                  | refine thenA_normal ?_
                  | refine AW.condT rfl ?_
                  | refine AW.condF rfl ?_
                  | refine AW.skip ?_
                  | refine AW.block ?_
                  | refine AW.exit ?_
                  | refine AW.ret ?_
                  | refine thenA_exit ?_
                  | refine thenA_ret ?_
                  | refine blockA_normal ?_
                  | refine blockA_hit ?_
                  | refine blockA_miss rfl ?_
                  | refine blockA_ret ?_
                  | refine Reg.panic rfl rfl rfl rfl ?_
                  | refine thenA_panic ?_
                  | refine blockA_panic ?_
                  | refine Reg.skip rfl rfl rfl rfl rfl rfl rfl rfl ?_
                  | refine Reg.ifS tab_ok (hint := []) rfl rfl rfl rfl rfl rfl rfl rfl rfl trivial ?_
                  | refine AW.label ?_
                  | refine AW.scope ?_
                  | refine scopeA_normal ?_
                  | refine scopeA_ret ?_
                  | refine scopeA_exit ?_)
                exact ⟨_, rfl, rfl, rfl, rfl, rfl⟩
              | true =>
                have h7' : [45, 45].isPrefixOf (c :: r) = true := h7
                rw [h7', if_pos rfl] at hinv
                repeat (first
                  | refine AW.seq ?_
                  | refine AW.reg ?_
                  | refine Reg.opS tab_ok (hint := []) rfl rfl rfl rfl rfl trivial ?_
                  | refine Reg.opN tab_ok (hint := []) rfl rfl rfl rfl trivial ?_
                  | refine Reg.nil ?_
                  | refine thenA_normal ?_
                  | refine AW.condT rfl ?_
                  | refine AW.condF rfl ?_
                  | refine AW.skip ?_
                  | refine AW.block ?_
                  | refine AW.exit ?_
                  | refine AW.ret ?_
                  | refine thenA_exit ?_
                  | refine thenA_ret ?_
                  | refine blockA_normal ?_
                  | refine blockA_hit ?_
                  | refine blockA_miss rfl ?_
                  | refine blockA_ret ?_
                  | refine Reg.panic rfl rfl rfl rfl ?_
                  | refine thenA_panic ?_
                  | refine blockA_panic ?_
                  | refine Reg.skip rfl rfl rfl rfl rfl rfl rfl rfl ?_
                  | refine Reg.ifS tab_ok (hint := []) rfl rfl rfl rfl rfl rfl rfl rfl rfl trivial ?_
                  | refine AW.label ?_
                  | refine AW.scope ?_
                  | refine scopeA_normal ?_
                  | refine scopeA_ret ?_
                  | refine scopeA_exit ?_)
                refine AW.loop (S := Nat) (fun m => m ≤ s.size ∧ n ≤ m ∧ m + pastT true ((bl s).drop m) = R) (fun m => [(0, .d (.val (.string s))), (1, .d (.val (.int .i64 m)))]) (fun _ => []) (fun m => s.size - m) n
                  ⟨hn, Nat.le_refl _, ?_⟩ (fun _ => rfl) ⟨⟨.refl _, .refl _, trivial⟩, trivial, rfl, rfl⟩ ?_
                · rw [hd]
                  simp only [pastT]
                  rw [if_neg h4']
                  omega
                clear hinv
                rintro m ⟨hm, hnm, hinv⟩
                repeat (first
                  | refine AW.seq ?_
                  | refine AW.reg ?_
                  | refine Reg.opS tab_ok (hint := []) rfl rfl rfl rfl rfl trivial ?_
                  | refine Reg.opN tab_ok (hint := []) rfl rfl rfl rfl trivial ?_
                  | refine Reg.nil ?_
                  | refine thenA_normal ?_
                  | refine AW.condT rfl ?_
                  | refine AW.condF rfl ?_
                  | refine AW.skip ?_
                  | refine AW.block ?_
                  | refine AW.exit ?_
                  | refine AW.ret ?_
                  | refine thenA_exit ?_
                  | refine thenA_ret ?_
                  | refine blockA_normal ?_
                  | refine blockA_hit ?_
                  | refine blockA_miss rfl ?_
                  | refine blockA_ret ?_
                  | refine Reg.panic rfl rfl rfl rfl ?_
                  | refine thenA_panic ?_
                  | refine blockA_panic ?_
                  | refine Reg.skip rfl rfl rfl rfl rfl rfl rfl rfl ?_
                  | refine Reg.ifS tab_ok (hint := []) rfl rfl rfl rfl rfl rfl rfl rfl rfl trivial ?_
                  | refine AW.label ?_
                  | refine AW.scope ?_
                  | refine scopeA_normal ?_
                  | refine scopeA_ret ?_
                  | refine scopeA_exit ?_)
                cases h8 : decide ((m : Int) < s.size) with
                | false =>
                  have h2 : (bl s).drop m = [] := List.drop_eq_nil_of_le (by rw [bl_len]; have := of_decide_eq_false h8; omega)
                  rw [h2] at hinv
                  simp only [pastT, Nat.add_zero] at hinv
                  have h9 : n < m := by have := of_decide_eq_false h8; omega
                  repeat (first
                    | refine AW.seq ?_
                    | refine AW.reg ?_
                    | refine Reg.opS tab_ok (hint := []) rfl rfl rfl rfl rfl trivial ?_
                    | refine Reg.opN tab_ok (hint := []) rfl rfl rfl rfl trivial ?_
                    | refine Reg.nil ?_
                    | refine thenA_normal ?_
                    | refine AW.condT rfl ?_
                    | refine AW.condF rfl ?_
                    | refine AW.skip ?_
                    | refine AW.block ?_
                    | refine AW.exit ?_
                    | refine AW.ret ?_
                    | refine thenA_exit ?_
                    | refine thenA_ret ?_
                    | refine blockA_normal ?_
                    | refine blockA_hit ?_
                    | refine blockA_miss rfl ?_
                    | refine blockA_ret ?_
                    | refine Reg.panic rfl rfl rfl rfl ?_
                    | refine thenA_panic ?_
                    | refine blockA_panic ?_
                    | refine Reg.skip rfl rfl rfl rfl rfl rfl rfl rfl ?_
                    | refine Reg.ifS tab_ok (hint := []) rfl rfl rfl rfl rfl rfl rfl rfl rfl trivial ?_
                    | refine AW.label ?_
                    | refine AW.scope ?_
                    | refine scopeA_normal ?_
                    | refine scopeA_ret ?_
                    | refine scopeA_exit ?_)
                  refine ⟨m, ⟨hm, ?_⟩, by omega, ⟨.refl _, .refl _, trivial⟩, trivial, rfl, rfl⟩
                  rw [h2]
                  exact hinv
                | true =>
                  have hlt2 := of_decide_eq_true h8
                  obtain ⟨c2, r2, hd2⟩ := drop_cons hlt2
                  obtain ⟨hb2, _⟩ := bt_at hd2
                  have hdr2 := drop_next hd2
                  rw [hd2] at hinv
                  simp only [pastT] at hinv
                  have hnext2 : IntKind.i64.wrap ((m : Int) + 1) = ((m + 1 : Nat) : Int) := wrap_in (by omega) (by omega)
                  repeat (first
                    | refine AW.seq ?_
                    | refine AW.reg ?_
                    | refine Reg.opS tab_ok (hint := []) rfl rfl rfl rfl rfl trivial ?_
                    | refine Reg.opN tab_ok (hint := []) rfl rfl rfl rfl trivial ?_
                    | refine Reg.nil ?_
                    | refine thenA_normal ?_
                    | refine AW.condT rfl ?_
                    | refine AW.condF rfl ?_
                    | refine AW.skip ?_
                    | refine AW.block ?_
                    | refine AW.exit ?_
                    | refine AW.ret ?_
                    | refine thenA_exit ?_
                    | refine thenA_ret ?_
                    | refine blockA_normal ?_
                    | refine blockA_hit ?_
                    | refine blockA_miss rfl ?_
                    | refine blockA_ret ?_
                    | refine Reg.panic rfl rfl rfl rfl ?_
                    | refine thenA_panic ?_
                    | refine blockA_panic ?_
                    | refine Reg.skip rfl rfl rfl rfl rfl rfl rfl rfl ?_
                    | refine Reg.ifS tab_ok (hint := []) rfl rfl rfl rfl rfl rfl rfl rfl rfl trivial ?_
                    | refine AW.label ?_
                    | refine AW.scope ?_
                    | refine scopeA_normal ?_
                    | refine scopeA_ret ?_
                    | refine scopeA_exit ?_)
                  refine Reg.ifS tab_ok (hint := []) rfl rfl rfl rfl rfl rfl rfl rfl rfl ⟨Int.natCast_nonneg _, hlt2⟩ ?_
                  rw [hb2]
                  repeat (first
                    | refine AW.seq ?_
                    | refine AW.reg ?_
                    | refine Reg.opS tab_ok (hint := []) rfl rfl rfl rfl rfl trivial ?_
                    | refine Reg.opN tab_ok (hint := []) rfl rfl rfl rfl trivial ?_
                    | refine Reg.nil ?_
                    | refine thenA_normal ?_
                    | refine AW.condT rfl ?_
                    | refine AW.condF rfl ?_
                    | refine AW.skip ?_
                    | refine AW.block ?_
                    | refine AW.exit ?_
                    | refine AW.ret ?_
                    | refine thenA_exit ?_
                    | refine thenA_ret ?_
                    | refine blockA_normal ?_
                    | refine blockA_hit ?_
                    | refine blockA_miss rfl ?_
                    | refine blockA_ret ?_
                    | refine Reg.panic rfl rfl rfl rfl ?_
                    | refine thenA_panic ?_
                    | refine blockA_panic ?_
                    | refine Reg.skip rfl rfl rfl rfl rfl rfl rfl rfl ?_
                    | refine Reg.ifS tab_ok (hint := []) rfl rfl rfl rfl rfl rfl rfl rfl rfl trivial ?_
                    | refine AW.label ?_
                    | refine AW.scope ?_
                    | refine scopeA_normal ?_
                    | refine scopeA_ret ?_
                    | refine scopeA_exit ?_)
                  cases h9 : ((c2.toNat : Int) != 10) with
                  | false =>
                    have h9' : c2.toNat = 10 := by
                      have : ((c2.toNat : Int) == 10) = true := by simpa [bne] using h9
                      have := eq_of_beq this
                      omega
                    rw [if_pos h9'] at hinv
                    repeat (first
                      | refine AW.seq ?_
                      | refine AW.reg ?_
                      | refine Reg.opS tab_ok (hint := []) rfl rfl rfl rfl rfl trivial ?_
                      | refine Reg.opN tab_ok (hint := []) rfl rfl rfl rfl trivial ?_
                      | refine Reg.nil ?_
                      | refine thenA_normal ?_
                      | refine AW.condT rfl ?_
                      | refine AW.condF rfl ?_
                      | refine AW.skip ?_
                      | refine AW.block ?_
                      | refine AW.exit ?_
                      | refine AW.ret ?_
                      | refine thenA_exit ?_
                      | refine thenA_ret ?_
                      | refine blockA_normal ?_
                      | refine blockA_hit ?_
                      | refine blockA_miss rfl ?_
                      | refine blockA_ret ?_
                      | refine Reg.panic rfl rfl rfl rfl ?_
                      | refine thenA_panic ?_
                      | refine blockA_panic ?_
                      | refine Reg.skip rfl rfl rfl rfl rfl rfl rfl rfl ?_
                      | refine Reg.ifS tab_ok (hint := []) rfl rfl rfl rfl rfl rfl rfl rfl rfl trivial ?_
                      | refine AW.label ?_
                      | refine AW.scope ?_
                      | refine scopeA_normal ?_
                      | refine scopeA_ret ?_
                      | refine scopeA_exit ?_)
                    refine ⟨m, ⟨hm, ?_⟩, ?_, ⟨.refl _, .refl _, trivial⟩, trivial, rfl, rfl⟩
                    · rw [hd2]
                      simp only [pastT]
                      rw [if_pos (by omega)]
                      exact hinv
                    · have : n ≠ m := by
                        rintro rfl
                        rw [hd] at hd2
                        cases hd2
                        exact h4' h9'
                      omega
                  | true =>
                    have h9' : c2.toNat ≠ 10 := by intro e; rw [e] at h9; cases h9
                    rw [if_neg h9'] at hinv
                    repeat (first
                      | refine AW.seq ?_
                      | refine AW.reg ?_
                      | refine Reg.opS tab_ok (hint := []) rfl rfl rfl rfl rfl trivial ?_
                      | refine Reg.opN tab_ok (hint := []) rfl rfl rfl rfl trivial ?_
                      | refine Reg.nil ?_
                      | refine thenA_normal ?_
                      | refine AW.condT rfl ?_
                      | refine AW.condF rfl ?_
                      | refine AW.skip ?_
                      | refine AW.block ?_
                      | refine AW.exit ?_
                      | refine AW.ret ?_
                      | refine thenA_exit ?_
                      | refine thenA_ret ?_
                      | refine blockA_normal ?_
                      | refine blockA_hit ?_
                      | refine blockA_miss rfl ?_
                      | refine blockA_ret ?_
                      | refine Reg.panic rfl rfl rfl rfl ?_
                      | refine thenA_panic ?_
                      | refine blockA_panic ?_
                      | refine Reg.skip rfl rfl rfl rfl rfl rfl rfl rfl ?_
                      | refine Reg.ifS tab_ok (hint := []) rfl rfl rfl rfl rfl rfl rfl rfl rfl trivial ?_
                      | refine AW.label ?_
                      | refine AW.scope ?_
                      | refine scopeA_normal ?_
                      | refine scopeA_ret ?_
                      | refine scopeA_exit ?_)
                    rw [hnext2]
                    refine ⟨m + 1, ⟨by omega, by omega, ?_⟩, by omega, ⟨.refl _, .refl _, trivial⟩, trivial, rfl, rfl⟩
                    rw [hdr2]
                    omega

theorem callable30 : Callable Tryd.prog 30 := ⟨_, Tryd.func30, rfl, rfl⟩

end Go.Proofs.YtamkldohfhidiaaDoor
