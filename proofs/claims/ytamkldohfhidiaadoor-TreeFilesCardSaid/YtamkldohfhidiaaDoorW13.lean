import Derived.Test.YtamkldohfhidiaaDoorW12
namespace Go.Proofs.YtamkldohfhidiaaDoor
open Go Go.Abs

def signsC : List AV := signsL.map fun x => .val (.string (bsL x))
def firstC : List AV := (List.range 256).map fun c => .val (.int .u8 (Lib.firstT c))
def accC : List AV := (List.range 32).map fun i => .val (.int .u8 (if i % 2 = 0 then Lib.accLo (i / 2) else Lib.accHi (i / 2)))
/-- What the program's tables hold. -/
def GD : Glob
  | 0 => signsC
  | 1 => firstC
  | 2 => accC
  | _ => []

theorem RepAt.val {w : World} {ok : Nat → Nat} : ∀ {cs : List AV} {b o i : Nat} {v : Value}, RepAt w ok cs b o → cs[i]? = some (.val v) → w.cell? (pl b (o + i)) = some v
  | [], _, _, _, _, _, h => by simp at h
  | c :: cs, b, o, 0, v, h, hi => by
    simp only [RepAt] at h
    obtain ⟨_, ⟨u, h1, h2⟩, _⟩ := h
    simp only [List.getElem?_cons_zero, Option.some.injEq] at hi
    subst hi
    simp only [Rep] at h2
    subst h2
    exact h1
  | c :: cs, b, o, i + 1, v, h, hi => by
    simp only [RepAt] at h
    have := RepAt.val (i := i) h.2.2 (by simpa using hi)
    rw [show o + (i + 1) = o + 1 + i by omega]
    exact this

theorem tabs {w : World} {ok : Nat → Nat} (h : ∀ gl, RepAt w ok (GD gl) gl 0) : Lib.Utf8Tabs 1 2 w := by
  refine ⟨fun c hc => ?_, fun i hi => ⟨?_, ?_⟩⟩
  · have := RepAt.val (i := c) (v := .int .u8 (Lib.firstT c)) (h 1) (by simp [GD, firstC, hc])
    rwa [Nat.zero_add] at this
  · have := RepAt.val (i := 2 * i) (v := .int .u8 (Lib.accLo i)) (h 2) (by
      have h1 : 2 * i < 32 := by omega
      have h2 : 2 * i % 2 = 0 := by omega
      have h3 : 2 * i / 2 = i := by omega
      simp [GD, accC, List.getElem?_range h1])
    rwa [Nat.zero_add] at this
  · have := RepAt.val (i := 2 * i + 1) (v := .int .u8 (Lib.accHi i)) (h 2) (by
      have h1 : 2 * i + 1 < 32 := by omega
      have h2 : (2 * i + 1) % 2 = 1 := by omega
      have h3 : (2 * i + 1) / 2 = i := by omega
      simp [GD, accC, List.getElem?_range h1, h2, h3])
    rwa [Nat.zero_add] at this

theorem decode_any (s : ByteArray) (h : bl s ≠ []) : ACalls Tryd.prog GD 29 [.d (.val (.string s))] [] fun out b =>
    out = .ret (.d (.tup [.val (.int .i32 (decL (bl s)).1), .val (.int .i64 (decL (bl s)).2)])) ∧ b = [] := by
  refine ACalls.ofBelow (vs := [.string s]) (v := .tuple #[.int .i32 (decL (bl s)).1, .int .i64 (decL (bl s)).2]) (fun w ok => ?_) (fun w ok hg => ?_)
  · simp only [Rep, Reps]
    exact ⟨_, rfl, _, _, rfl, rfl, _, _, rfl, rfl, rfl⟩
  · have := Tryd.utf8_DecodeRuneInString s w (tabs hg)
    have e : Lib.decodeGo s = decL (bl s) := decodeGo_eq s h
    rw [e] at this
    exact this

theorem callable29 : Callable Tryd.prog 29 := ⟨_, Tryd.func29, rfl, rfl⟩

/-- A token, as the scanner's function for one gives it. -/
def oneC (l : List UInt8) : List AV :=
  match oneP l with
  | some (k, n) => [.val (.int .i64 k), .val (.string (bsL (l.take n))), .val (.int .i64 0)]
  | none => [.val (.int .i64 0), .val (.string ⟨#[]⟩), .val (.int .i64 0)]

theorem one_any (s : ByteArray) (hs : s.size ≤ 100000) : ACalls Tryd.prog GD 31 [.d (.val (.string s))] [] fun out b => out = .ret (.d (.agg (oneC (bl s)))) ∧ b = [] := by
  refine ACalls.body tab_ok Tryd.func31 rfl rfl ?_
  repeat (first
    | refine AW.seq ?_
    | refine AW.reg ?_
    | refine Reg.opS tab_ok (hint := []) rfl rfl rfl rfl rfl trivial ?_
    | refine Reg.opN tab_ok (hint := []) rfl rfl rfl rfl trivial ?_
    | refine Reg.nil ?_
    | refine thenA_normal ?_
    | refine AW.condT rfl ?_
    | refine AW.condF rfl ?_
    | refine AW.skip ?_
    | refine AW.block ?_
    | refine AW.exit ?_
    | refine AW.ret ?_
    | refine thenA_exit ?_
    | refine thenA_ret ?_
    | refine blockA_normal ?_
    | refine blockA_hit ?_
    | refine blockA_miss rfl ?_
    | refine blockA_ret ?_
    | refine Reg.panic rfl rfl rfl rfl ?_
    | refine thenA_panic ?_
    | refine blockA_panic ?_
    | refine Reg.skip rfl rfl rfl rfl rfl rfl rfl rfl ?_
    | refine Reg.ifS tab_ok (hint := []) rfl rfl rfl rfl rfl rfl rfl rfl rfl trivial ?_
    | refine AW.label ?_
    | refine AW.scope ?_
    | refine scopeA_normal ?_
    | refine scopeA_ret ?_
    | refine scopeA_exit ?_)
  refine Reg.call tab_ok [] (lexname_any s hs) callable60 rfl (.inl rfl) rfl rfl rfl (by decide) rfl rfl ?_
  rintro out bx1 ⟨rfl, rfl⟩
  refine after0 rfl rfl ?_
  repeat (first
    | refine AW.seq ?_
    | refine AW.reg ?_
    | refine Reg.opS tab_ok (hint := []) rfl rfl rfl rfl rfl trivial ?_
    | refine Reg.opN tab_ok (hint := []) rfl rfl rfl rfl trivial ?_
    | refine Reg.nil ?_
    | refine thenA_normal ?_
    | refine AW.condT rfl ?_
    | refine AW.condF rfl ?_
    | refine AW.skip ?_
    | refine AW.block ?_
    | refine AW.exit ?_
    | refine AW.ret ?_
    | refine thenA_exit ?_
    | refine thenA_ret ?_
    | refine blockA_normal ?_
    | refine blockA_hit ?_
    | refine blockA_miss rfl ?_
    | refine blockA_ret ?_
    | refine Reg.panic rfl rfl rfl rfl ?_
    | refine thenA_panic ?_
    | refine blockA_panic ?_
    | refine Reg.skip rfl rfl rfl rfl rfl rfl rfl rfl ?_
    | refine Reg.ifS tab_ok (hint := []) rfl rfl rfl rfl rfl rfl rfl rfl rfl trivial ?_
    | refine AW.label ?_
    | refine AW.scope ?_
    | refine scopeA_normal ?_
    | refine scopeA_ret ?_
    | refine scopeA_exit ?_)
  have hle := nameT_le true (bl s)
  rw [bl_len] at hle
  cases h1 : decide (((nameT true (bl s) : Nat) : Int) > 0) with
  | true =>
    have h2 : 0 < nameT true (bl s) := by have := of_decide_eq_true h1; omega
    repeat (first
      | refine AW.seq ?_
      | refine AW.reg ?_
      | refine Reg.opS tab_ok (hint := []) rfl rfl rfl rfl rfl trivial ?_
      | refine Reg.opN tab_ok (hint := []) rfl rfl rfl rfl trivial ?_
      | refine Reg.nil ?_
      | refine thenA_normal ?_
      | refine AW.condT rfl ?_
      | refine AW.condF rfl ?_
      | refine AW.skip ?_
      | refine AW.block ?_
      | refine AW.exit ?_
      | refine AW.ret ?_
      | refine thenA_exit ?_
      | refine thenA_ret ?_
      | refine blockA_normal ?_
      | refine blockA_hit ?_
      | refine blockA_miss rfl ?_
      | refine blockA_ret ?_
      | refine Reg.panic rfl rfl rfl rfl ?_
      | refine thenA_panic ?_
      | refine blockA_panic ?_
      | refine Reg.skip rfl rfl rfl rfl rfl rfl rfl rfl ?_
      | refine Reg.ifS tab_ok (hint := []) rfl rfl rfl rfl rfl rfl rfl rfl rfl trivial ?_
      | refine AW.label ?_
      | refine AW.scope ?_
      | refine scopeA_normal ?_
      | refine scopeA_ret ?_
      | refine scopeA_exit ?_)
    refine Reg.opS tab_ok (hint := []) rfl rfl rfl rfl rfl ⟨Int.natCast_nonneg _, Int.ofNat_le.2 hle⟩ ?_
    repeat (first
      | refine AW.seq ?_
      | refine AW.reg ?_
      | refine Reg.opS tab_ok (hint := []) rfl rfl rfl rfl rfl trivial ?_
      | refine Reg.opN tab_ok (hint := []) rfl rfl rfl rfl trivial ?_
      | refine Reg.nil ?_
      | refine thenA_normal ?_
      | refine AW.condT rfl ?_
      | refine AW.condF rfl ?_
      | refine AW.skip ?_
      | refine AW.block ?_
      | refine AW.exit ?_
      | refine AW.ret ?_
      | refine thenA_exit ?_
      | refine thenA_ret ?_
      | refine blockA_normal ?_
      | refine blockA_hit ?_
      | refine blockA_miss rfl ?_
      | refine blockA_ret ?_
      | refine Reg.panic rfl rfl rfl rfl ?_
      | refine thenA_panic ?_
      | refine blockA_panic ?_
      | refine Reg.skip rfl rfl rfl rfl rfl rfl rfl rfl ?_
      | refine Reg.ifS tab_ok (hint := []) rfl rfl rfl rfl rfl rfl rfl rfl rfl trivial ?_
      | refine AW.label ?_
      | refine AW.scope ?_
      | refine scopeA_normal ?_
      | refine scopeA_ret ?_
      | refine scopeA_exit ?_)
    have e : s.extract 0 ((nameT true (bl s) : Nat) : Int).toNat = bsL ((bl s).take (nameT true (bl s))) := ba_ext (by rw [Int.toNat_natCast, extract_toList]; simp)
    rw [e]
    exact ⟨_, rfl, rfl, rfl, by simp only [oneC, oneP, if_pos h2], rfl⟩
  | false =>
    have h2 : ¬ 0 < nameT true (bl s) := by have := of_decide_eq_false h1; omega
    repeat (first
      | refine AW.seq ?_
      | refine AW.reg ?_
      | refine Reg.opS tab_ok (hint := []) rfl rfl rfl rfl rfl trivial ?_
      | refine Reg.opN tab_ok (hint := []) rfl rfl rfl rfl trivial ?_
      | refine Reg.nil ?_
      | refine thenA_normal ?_
      | refine AW.condT rfl ?_
      | refine AW.condF rfl ?_
      | refine AW.skip ?_
      | refine AW.block ?_
      | refine AW.exit ?_
      | refine AW.ret ?_
      | refine thenA_exit ?_
      | refine thenA_ret ?_
      | refine blockA_normal ?_
      | refine blockA_hit ?_
      | refine blockA_miss rfl ?_
      | refine blockA_ret ?_
      | refine Reg.panic rfl rfl rfl rfl ?_
      | refine thenA_panic ?_
      | refine blockA_panic ?_
      | refine Reg.skip rfl rfl rfl rfl rfl rfl rfl rfl ?_
      | refine Reg.ifS tab_ok (hint := []) rfl rfl rfl rfl rfl rfl rfl rfl rfl trivial ?_
      | refine AW.label ?_
      | refine AW.scope ?_
      | refine scopeA_normal ?_
      | refine scopeA_ret ?_
      | refine scopeA_exit ?_)
    refine AW.loop (S := Nat) (fun i => i ≤ 20 ∧ signsL.find? (fun x => x.isPrefixOf (bl s)) = (signsL.drop i).find? (fun x => x.isPrefixOf (bl s))) (fun i => [(0, .d (.val (.string s))), (2, .ptr 0 0), (14, .d (.agg signsC)), (15, .d (.val (.int .i64 i)))])
      (fun _ => [.cells [.d (.val (.int .i64 0)), .d (.val (.string ⟨#[]⟩)), .d (.val (.int .i64 0))]]) (fun i => 20 - i) 0
      ⟨Nat.zero_le _, rfl⟩ (fun _ => rfl) ⟨⟨.refl _, .refl _, .refl _, .refl _, trivial⟩, ⟨SLes.refl _, trivial⟩, rfl, rfl⟩ ?_
    rintro i ⟨hi, hinv⟩
    repeat (first
      | refine AW.seq ?_
      | refine AW.reg ?_
      | refine Reg.opS tab_ok (hint := []) rfl rfl rfl rfl rfl trivial ?_
      | refine Reg.opN tab_ok (hint := []) rfl rfl rfl rfl trivial ?_
      | refine Reg.nil ?_
      | refine thenA_normal ?_
      | refine AW.condT rfl ?_
      | refine AW.condF rfl ?_
      | refine AW.skip ?_
      | refine AW.block ?_
      | refine AW.exit ?_
      | refine AW.ret ?_
      | refine thenA_exit ?_
      | refine thenA_ret ?_
      | refine blockA_normal ?_
      | refine blockA_hit ?_
      | refine blockA_miss rfl ?_
      | refine blockA_ret ?_
      | refine Reg.panic rfl rfl rfl rfl ?_
      | refine thenA_panic ?_
      | refine blockA_panic ?_
      | refine Reg.skip rfl rfl rfl rfl rfl rfl rfl rfl ?_
      | refine Reg.ifS tab_ok (hint := []) rfl rfl rfl rfl rfl rfl rfl rfl rfl trivial ?_
      | refine AW.label ?_
      | refine AW.scope ?_
      | refine scopeA_normal ?_
      | refine scopeA_ret ?_
      | refine scopeA_exit ?_)
    cases h3 : decide ((i : Int) < 20) with
    | false =>
      have h4 : i = 20 := by have := of_decide_eq_false h3; omega
      subst h4
      have h5 : signsL.find? (fun x => x.isPrefixOf (bl s)) = none := hinv
      repeat (first
        | refine AW.seq ?_
        | refine AW.reg ?_
        | refine Reg.opS tab_ok (hint := []) rfl rfl rfl rfl rfl trivial ?_
        | refine Reg.opN tab_ok (hint := []) rfl rfl rfl rfl trivial ?_
        | refine Reg.nil ?_
        | refine thenA_normal ?_
        | refine AW.condT rfl ?_
        | refine AW.condF rfl ?_
        | refine AW.skip ?_
        | refine AW.block ?_
        | refine AW.exit ?_
        | refine AW.ret ?_
        | refine thenA_exit ?_
        | refine thenA_ret ?_
        | refine blockA_normal ?_
        | refine blockA_hit ?_
        | refine blockA_miss rfl ?_
        | refine blockA_ret ?_
        | refine Reg.panic rfl rfl rfl rfl ?_
        | refine thenA_panic ?_
        | refine blockA_panic ?_
        | refine Reg.skip rfl rfl rfl rfl rfl rfl rfl rfl ?_
        | refine Reg.ifS tab_ok (hint := []) rfl rfl rfl rfl rfl rfl rfl rfl rfl trivial ?_
        | refine AW.label ?_
        | refine AW.scope ?_
        | refine scopeA_normal ?_
        | refine scopeA_ret ?_
        | refine scopeA_exit ?_)
      exact ⟨_, rfl, rfl, rfl, by simp only [oneC, oneP, if_neg h2, h5], rfl⟩
    | true =>
      have hlt : i < 20 := by have := of_decide_eq_true h3; omega
      obtain ⟨x, rest, hd⟩ : ∃ x rest, signsL.drop i = x :: rest := by
        cases h : signsL.drop i with
        | nil => have := congrArg List.length h; rw [List.length_drop] at this; simp [signsL] at this; omega
        | cons x r => exact ⟨x, r, rfl⟩
      have hx : signsL[i]? = some x := by
        have := List.getElem?_drop (xs := signsL) (i := i) (j := 0)
        rw [hd] at this
        simpa using this.symm
      have hx2 : signsC[i]? = some (.val (.string (bsL x))) := by
        unfold signsC
        rw [List.getElem?_map, hx]
        rfl
      have hd2 : signsL.drop (i + 1) = rest := by rw [← List.drop_drop, hd]; rfl
      rw [hd] at hinv
      repeat (first
        | refine AW.seq ?_
        | refine AW.reg ?_
        | refine Reg.opS tab_ok (hint := []) rfl rfl rfl rfl rfl trivial ?_
        | refine Reg.opN tab_ok (hint := []) rfl rfl rfl rfl trivial ?_
        | refine Reg.nil ?_
        | refine thenA_normal ?_
        | refine AW.condT rfl ?_
        | refine AW.condF rfl ?_
        | refine AW.skip ?_
        | refine AW.block ?_
        | refine AW.exit ?_
        | refine AW.ret ?_
        | refine thenA_exit ?_
        | refine thenA_ret ?_
        | refine blockA_normal ?_
        | refine blockA_hit ?_
        | refine blockA_miss rfl ?_
        | refine blockA_ret ?_
        | refine Reg.panic rfl rfl rfl rfl ?_
        | refine thenA_panic ?_
        | refine blockA_panic ?_
        | refine Reg.skip rfl rfl rfl rfl rfl rfl rfl rfl ?_
        | refine Reg.ifS tab_ok (hint := []) rfl rfl rfl rfl rfl rfl rfl rfl rfl trivial ?_
        | refine AW.label ?_
        | refine AW.scope ?_
        | refine scopeA_normal ?_
        | refine scopeA_ret ?_
        | refine scopeA_exit ?_)
      refine Reg.opO rfl rfl rfl rfl (OpS.indexAgg tab_ok (n := i) rfl rfl rfl rfl rfl rfl rfl hlt hx2) ?_
      repeat (first
        | refine AW.seq ?_
        | refine AW.reg ?_
        | refine Reg.opS tab_ok (hint := []) rfl rfl rfl rfl rfl trivial ?_
        | refine Reg.opN tab_ok (hint := []) rfl rfl rfl rfl trivial ?_
        | refine Reg.nil ?_
        | refine thenA_normal ?_
        | refine AW.condT rfl ?_
        | refine AW.condF rfl ?_
        | refine AW.skip ?_
        | refine AW.block ?_
        | refine AW.exit ?_
        | refine AW.ret ?_
        | refine thenA_exit ?_
        | refine thenA_ret ?_
        | refine blockA_normal ?_
        | refine blockA_hit ?_
        | refine blockA_miss rfl ?_
        | refine blockA_ret ?_
        | refine Reg.panic rfl rfl rfl rfl ?_
        | refine thenA_panic ?_
        | refine blockA_panic ?_
        | refine Reg.skip rfl rfl rfl rfl rfl rfl rfl rfl ?_
        | refine Reg.ifS tab_ok (hint := []) rfl rfl rfl rfl rfl rfl rfl rfl rfl trivial ?_
        | refine AW.label ?_
        | refine AW.scope ?_
        | refine scopeA_normal ?_
        | refine scopeA_ret ?_
        | refine scopeA_exit ?_)
      refine Reg.call tab_ok [] (pre_any s (bsL x)) callable59 rfl (.inl rfl) rfl rfl rfl (by decide) rfl rfl ?_
      rintro out bx1 ⟨rfl, rfl⟩
      refine after0 rfl rfl ?_
      have e : bl (bsL x) = x := rfl
      rw [e]
      repeat (first
        | refine AW.seq ?_
        | refine AW.reg ?_
        | refine Reg.opS tab_ok (hint := []) rfl rfl rfl rfl rfl trivial ?_
        | refine Reg.opN tab_ok (hint := []) rfl rfl rfl rfl trivial ?_
        | refine Reg.nil ?_
        | refine thenA_normal ?_
        | refine AW.condT rfl ?_
        | refine AW.condF rfl ?_
        | refine AW.skip ?_
        | refine AW.block ?_
        | refine AW.exit ?_
        | refine AW.ret ?_
        | refine thenA_exit ?_
        | refine thenA_ret ?_
        | refine blockA_normal ?_
        | refine blockA_hit ?_
        | refine blockA_miss rfl ?_
        | refine blockA_ret ?_
        | refine Reg.panic rfl rfl rfl rfl ?_
        | refine thenA_panic ?_
        | refine blockA_panic ?_
        | refine Reg.skip rfl rfl rfl rfl rfl rfl rfl rfl ?_
        | refine Reg.ifS tab_ok (hint := []) rfl rfl rfl rfl rfl rfl rfl rfl rfl trivial ?_
        | refine AW.label ?_
        | refine AW.scope ?_
        | refine scopeA_normal ?_
        | refine scopeA_ret ?_
        | refine scopeA_exit ?_)
      cases h4 : x.isPrefixOf (bl s) with
      | true =>
        simp only [List.find?_cons, h4] at hinv
        repeat (first
          | refine AW.seq ?_
          | refine AW.reg ?_
          | refine Reg.opS tab_ok (hint := []) rfl rfl rfl rfl rfl trivial ?_
          | refine Reg.opN tab_ok (hint := []) rfl rfl rfl rfl trivial ?_
          | refine Reg.nil ?_
          | refine thenA_normal ?_
          | refine AW.condT rfl ?_
          | refine AW.condF rfl ?_
          | refine AW.skip ?_
          | refine AW.block ?_
          | refine AW.exit ?_
          | refine AW.ret ?_
          | refine thenA_exit ?_
          | refine thenA_ret ?_
          | refine blockA_normal ?_
          | refine blockA_hit ?_
          | refine blockA_miss rfl ?_
          | refine blockA_ret ?_
          | refine Reg.panic rfl rfl rfl rfl ?_
          | refine thenA_panic ?_
          | refine blockA_panic ?_
          | refine Reg.skip rfl rfl rfl rfl rfl rfl rfl rfl ?_
          | refine Reg.ifS tab_ok (hint := []) rfl rfl rfl rfl rfl rfl rfl rfl rfl trivial ?_
          | refine AW.label ?_
          | refine AW.scope ?_
          | refine scopeA_normal ?_
          | refine scopeA_ret ?_
          | refine scopeA_exit ?_)
        have h5 : (bl s).take x.length = x := (List.prefix_iff_eq_take.1 (List.isPrefixOf_iff_prefix.1 h4)).symm
        exact ⟨_, rfl, rfl, rfl, by simp only [oneC, oneP, if_neg h2, hinv, h5], rfl⟩
      | false =>
        simp only [List.find?_cons, h4] at hinv
        repeat (first
          | refine AW.seq ?_
          | refine AW.reg ?_
          | refine Reg.opS tab_ok (hint := []) rfl rfl rfl rfl rfl trivial ?_
          | refine Reg.opN tab_ok (hint := []) rfl rfl rfl rfl trivial ?_
          | refine Reg.nil ?_
          | refine thenA_normal ?_
          | refine AW.condT rfl ?_
          | refine AW.condF rfl ?_
          | refine AW.skip ?_
          | refine AW.block ?_
          | refine AW.exit ?_
          | refine AW.ret ?_
          | refine thenA_exit ?_
          | refine thenA_ret ?_
          | refine blockA_normal ?_
          | refine blockA_hit ?_
          | refine blockA_miss rfl ?_
          | refine blockA_ret ?_
          | refine Reg.panic rfl rfl rfl rfl ?_
          | refine thenA_panic ?_
          | refine blockA_panic ?_
          | refine Reg.skip rfl rfl rfl rfl rfl rfl rfl rfl ?_
          | refine Reg.ifS tab_ok (hint := []) rfl rfl rfl rfl rfl rfl rfl rfl rfl trivial ?_
          | refine AW.label ?_
          | refine AW.scope ?_
          | refine scopeA_normal ?_
          | refine scopeA_ret ?_
          | refine scopeA_exit ?_)
        have hnext : IntKind.i64.wrap ((i : Int) + 1) = ((i + 1 : Nat) : Int) := wrap_in (by omega) (by omega)
        rw [hnext]
        refine ⟨i + 1, ⟨by omega, ?_⟩, by omega, ⟨.refl _, .refl _, .refl _, .refl _, trivial⟩, ⟨SLes.refl _, trivial⟩, rfl, rfl⟩
        rw [hd2]
        exact hinv

theorem callable31 : Callable Tryd.prog 31 := ⟨_, Tryd.func31, rfl, rfl⟩

end Go.Proofs.YtamkldohfhidiaaDoor
