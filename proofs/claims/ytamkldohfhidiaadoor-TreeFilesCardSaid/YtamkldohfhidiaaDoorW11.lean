import Derived.Test.YtamkldohfhidiaaDoorW10
import Derived.Test.YtamkldohfhidiaaDoorLx
import Derived.Test.YtamkldohfhidiaaDoorShelf
import Derived.Test.YtamkldohfhidiaaDoorAbs3
namespace Go.Proofs.YtamkldohfhidiaaDoor
open Go Go.Abs

theorem letter_any {G : Glob} (c : Int) : ACalls Tryd.prog G 83 [.d (.val (.int .u8 c))] [] fun out b => out = .ret (.d (.val (.bool (letterI c)))) ∧ b = [] := by
  refine ACalls.body tab_ok Tryd.func83 rfl rfl ?_
  repeat (first
    | refine AW.seq ?_
    | refine AW.reg ?_
    | refine Reg.opS tab_ok (hint := []) rfl rfl rfl rfl rfl trivial ?_
    | refine Reg.opN tab_ok (hint := []) rfl rfl rfl rfl trivial ?_
    | refine Reg.nil ?_
    | refine thenA_normal ?_
    | refine AW.condT rfl ?_
    | refine AW.condF rfl ?_
    | refine AW.skip ?_
    | refine AW.block ?_
    | refine AW.exit ?_
    | refine AW.ret ?_
    | refine thenA_exit ?_
    | refine thenA_ret ?_
    | refine blockA_normal ?_
    | refine blockA_hit ?_
    | refine blockA_miss rfl ?_
    | refine blockA_ret ?_
    | refine Reg.panic rfl rfl rfl rfl ?_
    | refine thenA_panic ?_
    | refine blockA_panic ?_
    | refine Reg.skip rfl rfl rfl rfl rfl rfl rfl rfl ?_
    | refine Reg.ifS tab_ok (hint := []) rfl rfl rfl rfl rfl rfl rfl rfl rfl trivial ?_
    | refine AW.label ?_
    | refine AW.scope ?_
    | refine scopeA_normal ?_
    | refine scopeA_ret ?_
    | refine scopeA_exit ?_)
  cases h1 : decide (c ≥ 97) with
  | true =>
    repeat (first
      | refine AW.seq ?_
      | refine AW.reg ?_
      | refine Reg.opS tab_ok (hint := []) rfl rfl rfl rfl rfl trivial ?_
      | refine Reg.opN tab_ok (hint := []) rfl rfl rfl rfl trivial ?_
      | refine Reg.nil ?_
      | refine thenA_normal ?_
      | refine AW.condT rfl ?_
      | refine AW.condF rfl ?_
      | refine AW.skip ?_
      | refine AW.block ?_
      | refine AW.exit ?_
      | refine AW.ret ?_
      | refine thenA_exit ?_
      | refine thenA_ret ?_
      | refine blockA_normal ?_
      | refine blockA_hit ?_
      | refine blockA_miss rfl ?_
      | refine blockA_ret ?_
      | refine Reg.panic rfl rfl rfl rfl ?_
      | refine thenA_panic ?_
      | refine blockA_panic ?_
      | refine Reg.skip rfl rfl rfl rfl rfl rfl rfl rfl ?_
      | refine Reg.ifS tab_ok (hint := []) rfl rfl rfl rfl rfl rfl rfl rfl rfl trivial ?_
      | refine AW.label ?_
      | refine AW.scope ?_
      | refine scopeA_normal ?_
      | refine scopeA_ret ?_
      | refine scopeA_exit ?_)
    cases h2 : decide (c ≤ 122) with
    | true =>
      repeat (first
        | refine AW.seq ?_
        | refine AW.reg ?_
        | refine Reg.opS tab_ok (hint := []) rfl rfl rfl rfl rfl trivial ?_
        | refine Reg.opN tab_ok (hint := []) rfl rfl rfl rfl trivial ?_
        | refine Reg.nil ?_
        | refine thenA_normal ?_
        | refine AW.condT rfl ?_
        | refine AW.condF rfl ?_
        | refine AW.skip ?_
        | refine AW.block ?_
        | refine AW.exit ?_
        | refine AW.ret ?_
        | refine thenA_exit ?_
        | refine thenA_ret ?_
        | refine blockA_normal ?_
        | refine blockA_hit ?_
        | refine blockA_miss rfl ?_
        | refine blockA_ret ?_
        | refine Reg.panic rfl rfl rfl rfl ?_
        | refine thenA_panic ?_
        | refine blockA_panic ?_
        | refine Reg.skip rfl rfl rfl rfl rfl rfl rfl rfl ?_
        | refine Reg.ifS tab_ok (hint := []) rfl rfl rfl rfl rfl rfl rfl rfl rfl trivial ?_
        | refine AW.label ?_
        | refine AW.scope ?_
        | refine scopeA_normal ?_
        | refine scopeA_ret ?_
        | refine scopeA_exit ?_)
      exact ⟨_, rfl, rfl, rfl, by simp only [letterI, h1, h2]; rfl, rfl⟩
    | false =>
      repeat (first
        | refine AW.seq ?_
        | refine AW.reg ?_
        | refine Reg.opS tab_ok (hint := []) rfl rfl rfl rfl rfl trivial ?_
        | refine Reg.opN tab_ok (hint := []) rfl rfl rfl rfl trivial ?_
        | refine Reg.nil ?_
        | refine thenA_normal ?_
        | refine AW.condT rfl ?_
        | refine AW.condF rfl ?_
        | refine AW.skip ?_
        | refine AW.block ?_
        | refine AW.exit ?_
        | refine AW.ret ?_
        | refine thenA_exit ?_
        | refine thenA_ret ?_
        | refine blockA_normal ?_
        | refine blockA_hit ?_
        | refine blockA_miss rfl ?_
        | refine blockA_ret ?_
        | refine Reg.panic rfl rfl rfl rfl ?_
        | refine thenA_panic ?_
        | refine blockA_panic ?_
        | refine Reg.skip rfl rfl rfl rfl rfl rfl rfl rfl ?_
        | refine Reg.ifS tab_ok (hint := []) rfl rfl rfl rfl rfl rfl rfl rfl rfl trivial ?_
        | refine AW.label ?_
        | refine AW.scope ?_
        | refine scopeA_normal ?_
        | refine scopeA_ret ?_
        | refine scopeA_exit ?_)
      cases h3 : decide (c ≥ 65) with
      | true =>
        repeat (first
          | refine AW.seq ?_
          | refine AW.reg ?_
          | refine Reg.opS tab_ok (hint := []) rfl rfl rfl rfl rfl trivial ?_
          | refine Reg.opN tab_ok (hint := []) rfl rfl rfl rfl trivial ?_
          | refine Reg.nil ?_
          | refine thenA_normal ?_
          | refine AW.condT rfl ?_
          | refine AW.condF rfl ?_
          | refine AW.skip ?_
          | refine AW.block ?_
          | refine AW.exit ?_
          | refine AW.ret ?_
          | refine thenA_exit ?_
          | refine thenA_ret ?_
          | refine blockA_normal ?_
          | refine blockA_hit ?_
          | refine blockA_miss rfl ?_
          | refine blockA_ret ?_
          | refine Reg.panic rfl rfl rfl rfl ?_
          | refine thenA_panic ?_
          | refine blockA_panic ?_
          | refine Reg.skip rfl rfl rfl rfl rfl rfl rfl rfl ?_
          | refine Reg.ifS tab_ok (hint := []) rfl rfl rfl rfl rfl rfl rfl rfl rfl trivial ?_
          | refine AW.label ?_
          | refine AW.scope ?_
          | refine scopeA_normal ?_
          | refine scopeA_ret ?_
          | refine scopeA_exit ?_)
        cases h4 : decide (c ≤ 90) with
        | true =>
          repeat (first
            | refine AW.seq ?_
            | refine AW.reg ?_
            | refine Reg.opS tab_ok (hint := []) rfl rfl rfl rfl rfl trivial ?_
            | refine Reg.opN tab_ok (hint := []) rfl rfl rfl rfl trivial ?_
            | refine Reg.nil ?_
            | refine thenA_normal ?_
            | refine AW.condT rfl ?_
            | refine AW.condF rfl ?_
            | refine AW.skip ?_
            | refine AW.block ?_
            | refine AW.exit ?_
            | refine AW.ret ?_
            | refine thenA_exit ?_
            | refine thenA_ret ?_
            | refine blockA_normal ?_
            | refine blockA_hit ?_
            | refine blockA_miss rfl ?_
            | refine blockA_ret ?_
            | refine Reg.panic rfl rfl rfl rfl ?_
            | refine thenA_panic ?_
            | refine blockA_panic ?_
            | refine Reg.skip rfl rfl rfl rfl rfl rfl rfl rfl ?_
            | refine Reg.ifS tab_ok (hint := []) rfl rfl rfl rfl rfl rfl rfl rfl rfl trivial ?_
            | refine AW.label ?_
            | refine AW.scope ?_
            | refine scopeA_normal ?_
            | refine scopeA_ret ?_
            | refine scopeA_exit ?_)
          exact ⟨_, rfl, rfl, rfl, by simp only [letterI, h1, h2, h3, h4]; rfl, rfl⟩
        | false =>
          repeat (first
            | refine AW.seq ?_
            | refine AW.reg ?_
            | refine Reg.opS tab_ok (hint := []) rfl rfl rfl rfl rfl trivial ?_
            | refine Reg.opN tab_ok (hint := []) rfl rfl rfl rfl trivial ?_
            | refine Reg.nil ?_
            | refine thenA_normal ?_
            | refine AW.condT rfl ?_
            | refine AW.condF rfl ?_
            | refine AW.skip ?_
            | refine AW.block ?_
            | refine AW.exit ?_
            | refine AW.ret ?_
            | refine thenA_exit ?_
            | refine thenA_ret ?_
            | refine blockA_normal ?_
            | refine blockA_hit ?_
            | refine blockA_miss rfl ?_
            | refine blockA_ret ?_
            | refine Reg.panic rfl rfl rfl rfl ?_
            | refine thenA_panic ?_
            | refine blockA_panic ?_
            | refine Reg.skip rfl rfl rfl rfl rfl rfl rfl rfl ?_
            | refine Reg.ifS tab_ok (hint := []) rfl rfl rfl rfl rfl rfl rfl rfl rfl trivial ?_
            | refine AW.label ?_
            | refine AW.scope ?_
            | refine scopeA_normal ?_
            | refine scopeA_ret ?_
            | refine scopeA_exit ?_)
          exact ⟨_, rfl, rfl, rfl, by simp only [letterI, h1, h2, h3, h4]; rfl, rfl⟩
      | false =>
        repeat (first
          | refine AW.seq ?_
          | refine AW.reg ?_
          | refine Reg.opS tab_ok (hint := []) rfl rfl rfl rfl rfl trivial ?_
          | refine Reg.opN tab_ok (hint := []) rfl rfl rfl rfl trivial ?_
          | refine Reg.nil ?_
          | refine thenA_normal ?_
          | refine AW.condT rfl ?_
          | refine AW.condF rfl ?_
          | refine AW.skip ?_
          | refine AW.block ?_
          | refine AW.exit ?_
          | refine AW.ret ?_
          | refine thenA_exit ?_
          | refine thenA_ret ?_
          | refine blockA_normal ?_
          | refine blockA_hit ?_
          | refine blockA_miss rfl ?_
          | refine blockA_ret ?_
          | refine Reg.panic rfl rfl rfl rfl ?_
          | refine thenA_panic ?_
          | refine blockA_panic ?_
          | refine Reg.skip rfl rfl rfl rfl rfl rfl rfl rfl ?_
          | refine Reg.ifS tab_ok (hint := []) rfl rfl rfl rfl rfl rfl rfl rfl rfl trivial ?_
          | refine AW.label ?_
          | refine AW.scope ?_
          | refine scopeA_normal ?_
          | refine scopeA_ret ?_
          | refine scopeA_exit ?_)
        exact ⟨_, rfl, rfl, rfl, by simp only [letterI, h1, h2, h3]; rfl, rfl⟩
  | false =>
    repeat (first
      | refine AW.seq ?_
      | refine AW.reg ?_
      | refine Reg.opS tab_ok (hint := []) rfl rfl rfl rfl rfl trivial ?_
      | refine Reg.opN tab_ok (hint := []) rfl rfl rfl rfl trivial ?_
      | refine Reg.nil ?_
      | refine thenA_normal ?_
      | refine AW.condT rfl ?_
      | refine AW.condF rfl ?_
      | refine AW.skip ?_
      | refine AW.block ?_
      | refine AW.exit ?_
      | refine AW.ret ?_
      | refine thenA_exit ?_
      | refine thenA_ret ?_
      | refine blockA_normal ?_
      | refine blockA_hit ?_
      | refine blockA_miss rfl ?_
      | refine blockA_ret ?_
      | refine Reg.panic rfl rfl rfl rfl ?_
      | refine thenA_panic ?_
      | refine blockA_panic ?_
      | refine Reg.skip rfl rfl rfl rfl rfl rfl rfl rfl ?_
      | refine Reg.ifS tab_ok (hint := []) rfl rfl rfl rfl rfl rfl rfl rfl rfl trivial ?_
      | refine AW.label ?_
      | refine AW.scope ?_
      | refine scopeA_normal ?_
      | refine scopeA_ret ?_
      | refine scopeA_exit ?_)
    cases h3 : decide (c ≥ 65) with
    | true =>
      repeat (first
        | refine AW.seq ?_
        | refine AW.reg ?_
        | refine Reg.opS tab_ok (hint := []) rfl rfl rfl rfl rfl trivial ?_
        | refine Reg.opN tab_ok (hint := []) rfl rfl rfl rfl trivial ?_
        | refine Reg.nil ?_
        | refine thenA_normal ?_
        | refine AW.condT rfl ?_
        | refine AW.condF rfl ?_
        | refine AW.skip ?_
        | refine AW.block ?_
        | refine AW.exit ?_
        | refine AW.ret ?_
        | refine thenA_exit ?_
        | refine thenA_ret ?_
        | refine blockA_normal ?_
        | refine blockA_hit ?_
        | refine blockA_miss rfl ?_
        | refine blockA_ret ?_
        | refine Reg.panic rfl rfl rfl rfl ?_
        | refine thenA_panic ?_
        | refine blockA_panic ?_
        | refine Reg.skip rfl rfl rfl rfl rfl rfl rfl rfl ?_
        | refine Reg.ifS tab_ok (hint := []) rfl rfl rfl rfl rfl rfl rfl rfl rfl trivial ?_
        | refine AW.label ?_
        | refine AW.scope ?_
        | refine scopeA_normal ?_
        | refine scopeA_ret ?_
        | refine scopeA_exit ?_)
      cases h4 : decide (c ≤ 90) with
      | true =>
        repeat (first
          | refine AW.seq ?_
          | refine AW.reg ?_
          | refine Reg.opS tab_ok (hint := []) rfl rfl rfl rfl rfl trivial ?_
          | refine Reg.opN tab_ok (hint := []) rfl rfl rfl rfl trivial ?_
          | refine Reg.nil ?_
          | refine thenA_normal ?_
          | refine AW.condT rfl ?_
          | refine AW.condF rfl ?_
          | refine AW.skip ?_
          | refine AW.block ?_
          | refine AW.exit ?_
          | refine AW.ret ?_
          | refine thenA_exit ?_
          | refine thenA_ret ?_
          | refine blockA_normal ?_
          | refine blockA_hit ?_
          | refine blockA_miss rfl ?_
          | refine blockA_ret ?_
          | refine Reg.panic rfl rfl rfl rfl ?_
          | refine thenA_panic ?_
          | refine blockA_panic ?_
          | refine Reg.skip rfl rfl rfl rfl rfl rfl rfl rfl ?_
          | refine Reg.ifS tab_ok (hint := []) rfl rfl rfl rfl rfl rfl rfl rfl rfl trivial ?_
          | refine AW.label ?_
          | refine AW.scope ?_
          | refine scopeA_normal ?_
          | refine scopeA_ret ?_
          | refine scopeA_exit ?_)
        exact ⟨_, rfl, rfl, rfl, by simp only [letterI, h1, h3, h4]; rfl, rfl⟩
      | false =>
        repeat (first
          | refine AW.seq ?_
          | refine AW.reg ?_
          | refine Reg.opS tab_ok (hint := []) rfl rfl rfl rfl rfl trivial ?_
          | refine Reg.opN tab_ok (hint := []) rfl rfl rfl rfl trivial ?_
          | refine Reg.nil ?_
          | refine thenA_normal ?_
          | refine AW.condT rfl ?_
          | refine AW.condF rfl ?_
          | refine AW.skip ?_
          | refine AW.block ?_
          | refine AW.exit ?_
          | refine AW.ret ?_
          | refine thenA_exit ?_
          | refine thenA_ret ?_
          | refine blockA_normal ?_
          | refine blockA_hit ?_
          | refine blockA_miss rfl ?_
          | refine blockA_ret ?_
          | refine Reg.panic rfl rfl rfl rfl ?_
          | refine thenA_panic ?_
          | refine blockA_panic ?_
          | refine Reg.skip rfl rfl rfl rfl rfl rfl rfl rfl ?_
          | refine Reg.ifS tab_ok (hint := []) rfl rfl rfl rfl rfl rfl rfl rfl rfl trivial ?_
          | refine AW.label ?_
          | refine AW.scope ?_
          | refine scopeA_normal ?_
          | refine scopeA_ret ?_
          | refine scopeA_exit ?_)
        exact ⟨_, rfl, rfl, rfl, by simp only [letterI, h1, h3, h4]; rfl, rfl⟩
    | false =>
      repeat (first
        | refine AW.seq ?_
        | refine AW.reg ?_
        | refine Reg.opS tab_ok (hint := []) rfl rfl rfl rfl rfl trivial ?_
        | refine Reg.opN tab_ok (hint := []) rfl rfl rfl rfl trivial ?_
        | refine Reg.nil ?_
        | refine thenA_normal ?_
        | refine AW.condT rfl ?_
        | refine AW.condF rfl ?_
        | refine AW.skip ?_
        | refine AW.block ?_
        | refine AW.exit ?_
        | refine AW.ret ?_
        | refine thenA_exit ?_
        | refine thenA_ret ?_
        | refine blockA_normal ?_
        | refine blockA_hit ?_
        | refine blockA_miss rfl ?_
        | refine blockA_ret ?_
        | refine Reg.panic rfl rfl rfl rfl ?_
        | refine thenA_panic ?_
        | refine blockA_panic ?_
        | refine Reg.skip rfl rfl rfl rfl rfl rfl rfl rfl ?_
        | refine Reg.ifS tab_ok (hint := []) rfl rfl rfl rfl rfl rfl rfl rfl rfl trivial ?_
        | refine AW.label ?_
        | refine AW.scope ?_
        | refine scopeA_normal ?_
        | refine scopeA_ret ?_
        | refine scopeA_exit ?_)
      exact ⟨_, rfl, rfl, rfl, by simp only [letterI, h1, h3]; rfl, rfl⟩

theorem callable83 : Callable Tryd.prog 83 := ⟨_, Tryd.func83, rfl, rfl⟩

/-- The bytes of a text. -/
abbrev bl (s : ByteArray) : List UInt8 := s.data.toList
theorem bl_len (s : ByteArray) : (bl s).length = s.size := Array.length_toList
theorem bt_at {s : ByteArray} {n : Nat} {c : UInt8} {r : List UInt8} (h : (bl s).drop n = c :: r) : bt s (n : Int) = (c.toNat : Int) ∧ n < s.size := by
  have h1 : (bl s)[n]? = some c := by
    have := List.getElem?_drop (xs := bl s) (i := n) (j := 0)
    rw [h] at this
    simpa using this.symm
  refine ⟨?_, ?_⟩
  · unfold bt
    rw [Int.toNat_natCast, List.getD_eq_getElem?_getD, h1]
    rfl
  · rw [← bl_len]
    exact (List.getElem?_eq_some_iff.1 h1).1

set_option maxHeartbeats 4000000 in
theorem lexname_any {G : Glob} (s : ByteArray) (hs : s.size ≤ 100000) : ACalls Tryd.prog G 60 [.d (.val (.string s))] [] fun out b => out = .ret (.d (.val (.int .i64 (nameT true (bl s))))) ∧ b = [] := by
  refine ACalls.body tab_ok Tryd.func60 rfl rfl ?_
  repeat (first
    | refine AW.seq ?_
    | refine AW.reg ?_
    | refine Reg.opS tab_ok (hint := []) rfl rfl rfl rfl rfl trivial ?_
    | refine Reg.opN tab_ok (hint := []) rfl rfl rfl rfl trivial ?_
    | refine Reg.nil ?_
    | refine thenA_normal ?_
    | refine AW.condT rfl ?_
    | refine AW.condF rfl ?_
    | refine AW.skip ?_
    | refine AW.block ?_
    | refine AW.exit ?_
    | refine AW.ret ?_
    | refine thenA_exit ?_
    | refine thenA_ret ?_
    | refine blockA_normal ?_
    | refine blockA_hit ?_
    | refine blockA_miss rfl ?_
    | refine blockA_ret ?_
    | refine Reg.panic rfl rfl rfl rfl ?_
    | refine thenA_panic ?_
    | refine blockA_panic ?_
    | refine Reg.skip rfl rfl rfl rfl rfl rfl rfl rfl ?_
    | refine Reg.ifS tab_ok (hint := []) rfl rfl rfl rfl rfl rfl rfl rfl rfl trivial ?_
    | refine AW.label ?_
    | refine AW.scope ?_
    | refine scopeA_normal ?_
    | refine scopeA_ret ?_
    | refine scopeA_exit ?_)
  refine AW.loop (S := Nat) (fun n => n ≤ s.size ∧ n + nameT (n == 0) ((bl s).drop n) = nameT true (bl s)) (fun n => [(0, .d (.val (.string s))), (3, .d (.val (.int .i64 n)))]) (fun _ => []) (fun n => s.size - n) 0
    ⟨Nat.zero_le _, by simp⟩ (fun _ => rfl) ⟨⟨.refl _, .refl _, trivial⟩, trivial, rfl, rfl⟩ ?_
  rintro n ⟨hn, hinv⟩
  repeat (first
    | refine AW.seq ?_
    | refine AW.reg ?_
    | refine Reg.opS tab_ok (hint := []) rfl rfl rfl rfl rfl trivial ?_
    | refine Reg.opN tab_ok (hint := []) rfl rfl rfl rfl trivial ?_
    | refine Reg.nil ?_
    | refine thenA_normal ?_
    | refine AW.condT rfl ?_
    | refine AW.condF rfl ?_
    | refine AW.skip ?_
    | refine AW.block ?_
    | refine AW.exit ?_
    | refine AW.ret ?_
    | refine thenA_exit ?_
    | refine thenA_ret ?_
    | refine blockA_normal ?_
    | refine blockA_hit ?_
    | refine blockA_miss rfl ?_
    | refine blockA_ret ?_
    | refine Reg.panic rfl rfl rfl rfl ?_
    | refine thenA_panic ?_
    | refine blockA_panic ?_
    | refine Reg.skip rfl rfl rfl rfl rfl rfl rfl rfl ?_
    | refine Reg.ifS tab_ok (hint := []) rfl rfl rfl rfl rfl rfl rfl rfl rfl trivial ?_
    | refine AW.label ?_
    | refine AW.scope ?_
    | refine scopeA_normal ?_
    | refine scopeA_ret ?_
    | refine scopeA_exit ?_)
  cases h1 : decide ((n : Int) < s.size) with
  | false =>
    have h2 : (bl s).drop n = [] := List.drop_eq_nil_of_le (by rw [bl_len]; have := of_decide_eq_false h1; omega)
    rw [h2] at hinv
    repeat (first
      | refine AW.seq ?_
      | refine AW.reg ?_
      | refine Reg.opS tab_ok (hint := []) rfl rfl rfl rfl rfl trivial ?_
      | refine Reg.opN tab_ok (hint := []) rfl rfl rfl rfl trivial ?_
      | refine Reg.nil ?_
      | refine thenA_normal ?_
      | refine AW.condT rfl ?_
      | refine AW.condF rfl ?_
      | refine AW.skip ?_
      | refine AW.block ?_
      | refine AW.exit ?_
      | refine AW.ret ?_
      | refine thenA_exit ?_
      | refine thenA_ret ?_
      | refine blockA_normal ?_
      | refine blockA_hit ?_
      | refine blockA_miss rfl ?_
      | refine blockA_ret ?_
      | refine Reg.panic rfl rfl rfl rfl ?_
      | refine thenA_panic ?_
      | refine blockA_panic ?_
      | refine Reg.skip rfl rfl rfl rfl rfl rfl rfl rfl ?_
      | refine Reg.ifS tab_ok (hint := []) rfl rfl rfl rfl rfl rfl rfl rfl rfl trivial ?_
      | refine AW.label ?_
      | refine AW.scope ?_
      | refine scopeA_normal ?_
      | refine scopeA_ret ?_
      | refine scopeA_exit ?_)
    exact ⟨_, rfl, rfl, rfl, by rw [← hinv]; simp [nameT], rfl⟩
  | true =>
    have hlt := of_decide_eq_true h1
    obtain ⟨c, r, hd⟩ : ∃ c r, (bl s).drop n = c :: r := by
      cases h : (bl s).drop n with
      | nil => have := congrArg List.length h; rw [List.length_drop, bl_len] at this; simp at this; omega
      | cons c r => exact ⟨c, r, rfl⟩
    have hdr : (bl s).drop (n + 1) = r := by rw [← List.drop_drop, hd]; rfl
    obtain ⟨hb, _⟩ := bt_at hd
    rw [hd] at hinv
    simp only [nameT] at hinv
    repeat (first
      | refine AW.seq ?_
      | refine AW.reg ?_
      | refine Reg.opS tab_ok (hint := []) rfl rfl rfl rfl rfl trivial ?_
      | refine Reg.opN tab_ok (hint := []) rfl rfl rfl rfl trivial ?_
      | refine Reg.nil ?_
      | refine thenA_normal ?_
      | refine AW.condT rfl ?_
      | refine AW.condF rfl ?_
      | refine AW.skip ?_
      | refine AW.block ?_
      | refine AW.exit ?_
      | refine AW.ret ?_
      | refine thenA_exit ?_
      | refine thenA_ret ?_
      | refine blockA_normal ?_
      | refine blockA_hit ?_
      | refine blockA_miss rfl ?_
      | refine blockA_ret ?_
      | refine Reg.panic rfl rfl rfl rfl ?_
      | refine thenA_panic ?_
      | refine blockA_panic ?_
      | refine Reg.skip rfl rfl rfl rfl rfl rfl rfl rfl ?_
      | refine Reg.ifS tab_ok (hint := []) rfl rfl rfl rfl rfl rfl rfl rfl rfl trivial ?_
      | refine AW.label ?_
      | refine AW.scope ?_
      | refine scopeA_normal ?_
      | refine scopeA_ret ?_
      | refine scopeA_exit ?_)
    refine Reg.ifS tab_ok (hint := []) rfl rfl rfl rfl rfl rfl rfl rfl rfl ⟨Int.natCast_nonneg _, hlt⟩ ?_
    refine Reg.call tab_ok [] (letter_any (bt s n)) callable83 rfl (.inr ⟨_, _, _, _, _, rfl, rfl, rfl, rfl, rfl⟩) rfl rfl rfl (by decide) rfl rfl ?_
    rintro out bx1 ⟨rfl, rfl⟩
    refine after0 rfl rfl ?_
    rw [hb]
    have hnext : IntKind.i64.wrap ((n : Int) + 1) = ((n + 1 : Nat) : Int) := wrap_in (by omega) (by omega)
    cases h2 : letterI c.toNat with
    | true =>
      simp only [h2, Bool.true_or, if_true] at hinv
      repeat (first
        | refine AW.seq ?_
        | refine AW.reg ?_
        | refine Reg.opS tab_ok (hint := []) rfl rfl rfl rfl rfl trivial ?_
        | refine Reg.opN tab_ok (hint := []) rfl rfl rfl rfl trivial ?_
        | refine Reg.nil ?_
        | refine thenA_normal ?_
        | refine AW.condT rfl ?_
        | refine AW.condF rfl ?_
        | refine AW.skip ?_
        | refine AW.block ?_
        | refine AW.exit ?_
        | refine AW.ret ?_
        | refine thenA_exit ?_
        | refine thenA_ret ?_
        | refine blockA_normal ?_
        | refine blockA_hit ?_
        | refine blockA_miss rfl ?_
        | refine blockA_ret ?_
        | refine Reg.panic rfl rfl rfl rfl ?_
        | refine thenA_panic ?_
        | refine blockA_panic ?_
        | refine Reg.skip rfl rfl rfl rfl rfl rfl rfl rfl ?_
        | refine Reg.ifS tab_ok (hint := []) rfl rfl rfl rfl rfl rfl rfl rfl rfl trivial ?_
        | refine AW.label ?_
        | refine AW.scope ?_
        | refine scopeA_normal ?_
        | refine scopeA_ret ?_
        | refine scopeA_exit ?_)
      rw [hnext]
      refine ⟨n + 1, ⟨by omega, ?_⟩, by omega, ⟨.refl _, .refl _, trivial⟩, trivial, rfl, rfl⟩
      rw [hdr, ← hinv]
      simp
      omega
    | false =>
      simp only [h2, Bool.false_or] at hinv
      repeat (first
        | refine AW.seq ?_
        | refine AW.reg ?_
        | refine Reg.opS tab_ok (hint := []) rfl rfl rfl rfl rfl trivial ?_
        | refine Reg.opN tab_ok (hint := []) rfl rfl rfl rfl trivial ?_
        | refine Reg.nil ?_
        | refine thenA_normal ?_
        | refine AW.condT rfl ?_
        | refine AW.condF rfl ?_
        | refine AW.skip ?_
        | refine AW.block ?_
        | refine AW.exit ?_
        | refine AW.ret ?_
        | refine thenA_exit ?_
        | refine thenA_ret ?_
        | refine blockA_normal ?_
        | refine blockA_hit ?_
        | refine blockA_miss rfl ?_
        | refine blockA_ret ?_
        | refine Reg.panic rfl rfl rfl rfl ?_
        | refine thenA_panic ?_
        | refine blockA_panic ?_
        | refine Reg.skip rfl rfl rfl rfl rfl rfl rfl rfl ?_
        | refine Reg.ifS tab_ok (hint := []) rfl rfl rfl rfl rfl rfl rfl rfl rfl trivial ?_
        | refine AW.label ?_
        | refine AW.scope ?_
        | refine scopeA_normal ?_
        | refine scopeA_ret ?_
        | refine scopeA_exit ?_)
      cases h3 : decide ((n : Int) > 0) with
      | false =>
        have h0 : n = 0 := by have := of_decide_eq_false h3; omega
        subst h0
        repeat (first
          | refine AW.seq ?_
          | refine AW.reg ?_
          | refine Reg.opS tab_ok (hint := []) rfl rfl rfl rfl rfl trivial ?_
          | refine Reg.opN tab_ok (hint := []) rfl rfl rfl rfl trivial ?_
          | refine Reg.nil ?_
          | refine thenA_normal ?_
          | refine AW.condT rfl ?_
          | refine AW.condF rfl ?_
          | refine AW.skip ?_
          | refine AW.block ?_
          | refine AW.exit ?_
          | refine AW.ret ?_
          | refine thenA_exit ?_
          | refine thenA_ret ?_
          | refine blockA_normal ?_
          | refine blockA_hit ?_
          | refine blockA_miss rfl ?_
          | refine blockA_ret ?_
          | refine Reg.panic rfl rfl rfl rfl ?_
          | refine thenA_panic ?_
          | refine blockA_panic ?_
          | refine Reg.skip rfl rfl rfl rfl rfl rfl rfl rfl ?_
          | refine Reg.ifS tab_ok (hint := []) rfl rfl rfl rfl rfl rfl rfl rfl rfl trivial ?_
          | refine AW.label ?_
          | refine AW.scope ?_
          | refine scopeA_normal ?_
          | refine scopeA_ret ?_
          | refine scopeA_exit ?_)
        exact ⟨_, rfl, rfl, rfl, by rw [← hinv]; simp, rfl⟩
      | true =>
        have h0 : (n == 0) = false := by have := of_decide_eq_true h3; simp; omega
        rw [h0] at hinv
        simp only [Bool.not_false, Bool.true_and, digitI] at hinv
        repeat (first
          | refine AW.seq ?_
          | refine AW.reg ?_
          | refine Reg.opS tab_ok (hint := []) rfl rfl rfl rfl rfl trivial ?_
          | refine Reg.opN tab_ok (hint := []) rfl rfl rfl rfl trivial ?_
          | refine Reg.nil ?_
          | refine thenA_normal ?_
          | refine AW.condT rfl ?_
          | refine AW.condF rfl ?_
          | refine AW.skip ?_
          | refine AW.block ?_
          | refine AW.exit ?_
          | refine AW.ret ?_
          | refine thenA_exit ?_
          | refine thenA_ret ?_
          | refine blockA_normal ?_
          | refine blockA_hit ?_
          | refine blockA_miss rfl ?_
          | refine blockA_ret ?_
          | refine Reg.panic rfl rfl rfl rfl ?_
          | refine thenA_panic ?_
          | refine blockA_panic ?_
          | refine Reg.skip rfl rfl rfl rfl rfl rfl rfl rfl ?_
          | refine Reg.ifS tab_ok (hint := []) rfl rfl rfl rfl rfl rfl rfl rfl rfl trivial ?_
          | refine AW.label ?_
          | refine AW.scope ?_
          | refine scopeA_normal ?_
          | refine scopeA_ret ?_
          | refine scopeA_exit ?_)
        refine Reg.ifS tab_ok (hint := []) rfl rfl rfl rfl rfl rfl rfl rfl rfl ⟨Int.natCast_nonneg _, hlt⟩ ?_
        rw [hb]
        repeat (first
          | refine AW.seq ?_
          | refine AW.reg ?_
          | refine Reg.opS tab_ok (hint := []) rfl rfl rfl rfl rfl trivial ?_
          | refine Reg.opN tab_ok (hint := []) rfl rfl rfl rfl trivial ?_
          | refine Reg.nil ?_
          | refine thenA_normal ?_
          | refine AW.condT rfl ?_
          | refine AW.condF rfl ?_
          | refine AW.skip ?_
          | refine AW.block ?_
          | refine AW.exit ?_
          | refine AW.ret ?_
          | refine thenA_exit ?_
          | refine thenA_ret ?_
          | refine blockA_normal ?_
          | refine blockA_hit ?_
          | refine blockA_miss rfl ?_
          | refine blockA_ret ?_
          | refine Reg.panic rfl rfl rfl rfl ?_
          | refine thenA_panic ?_
          | refine blockA_panic ?_
          | refine Reg.skip rfl rfl rfl rfl rfl rfl rfl rfl ?_
          | refine Reg.ifS tab_ok (hint := []) rfl rfl rfl rfl rfl rfl rfl rfl rfl trivial ?_
          | refine AW.label ?_
          | refine AW.scope ?_
          | refine scopeA_normal ?_
          | refine scopeA_ret ?_
          | refine scopeA_exit ?_)
        cases h4 : decide ((c.toNat : Int) ≥ 48) with
        | false =>
          simp only [h4, Bool.false_and, Bool.false_eq_true, if_false] at hinv
          repeat (first
            | refine AW.seq ?_
            | refine AW.reg ?_
            | refine Reg.opS tab_ok (hint := []) rfl rfl rfl rfl rfl trivial ?_
            | refine Reg.opN tab_ok (hint := []) rfl rfl rfl rfl trivial ?_
            | refine Reg.nil ?_
            | refine thenA_normal ?_
            | refine AW.condT rfl ?_
            | refine AW.condF rfl ?_
            | refine AW.skip ?_
            | refine AW.block ?_
            | refine AW.exit ?_
            | refine AW.ret ?_
            | refine thenA_exit ?_
            | refine thenA_ret ?_
            | refine blockA_normal ?_
            | refine blockA_hit ?_
            | refine blockA_miss rfl ?_
            | refine blockA_ret ?_
            | refine Reg.panic rfl rfl rfl rfl ?_
            | refine thenA_panic ?_
            | refine blockA_panic ?_
            | refine Reg.skip rfl rfl rfl rfl rfl rfl rfl rfl ?_
            | refine Reg.ifS tab_ok (hint := []) rfl rfl rfl rfl rfl rfl rfl rfl rfl trivial ?_
            | refine AW.label ?_
            | refine AW.scope ?_
            | refine scopeA_normal ?_
            | refine scopeA_ret ?_
            | refine scopeA_exit ?_)
          exact ⟨_, rfl, rfl, rfl, by rw [← hinv]; simp, rfl⟩
        | true =>
          repeat (first
            | refine AW.seq ?_
            | refine AW.reg ?_
            | refine Reg.opS tab_ok (hint := []) rfl rfl rfl rfl rfl trivial ?_
            | refine Reg.opN tab_ok (hint := []) rfl rfl rfl rfl trivial ?_
            | refine Reg.nil ?_
            | refine thenA_normal ?_
            | refine AW.condT rfl ?_
            | refine AW.condF rfl ?_
            | refine AW.skip ?_
            | refine AW.block ?_
            | refine AW.exit ?_
            | refine AW.ret ?_
            | refine thenA_exit ?_
            | refine thenA_ret ?_
            | refine blockA_normal ?_
            | refine blockA_hit ?_
            | refine blockA_miss rfl ?_
            | refine blockA_ret ?_
            | refine Reg.panic rfl rfl rfl rfl ?_
            | refine thenA_panic ?_
            | refine blockA_panic ?_
            | refine Reg.skip rfl rfl rfl rfl rfl rfl rfl rfl ?_
            | refine Reg.ifS tab_ok (hint := []) rfl rfl rfl rfl rfl rfl rfl rfl rfl trivial ?_
            | refine AW.label ?_
            | refine AW.scope ?_
            | refine scopeA_normal ?_
            | refine scopeA_ret ?_
            | refine scopeA_exit ?_)
          refine Reg.ifS tab_ok (hint := []) rfl rfl rfl rfl rfl rfl rfl rfl rfl ⟨Int.natCast_nonneg _, hlt⟩ ?_
          rw [hb]
          repeat (first
            | refine AW.seq ?_
            | refine AW.reg ?_
            | refine Reg.opS tab_ok (hint := []) rfl rfl rfl rfl rfl trivial ?_
            | refine Reg.opN tab_ok (hint := []) rfl rfl rfl rfl trivial ?_
            | refine Reg.nil ?_
            | refine thenA_normal ?_
            | refine AW.condT rfl ?_
            | refine AW.condF rfl ?_
            | refine AW.skip ?_
            | refine AW.block ?_
            | refine AW.exit ?_
            | refine AW.ret ?_
            | refine thenA_exit ?_
            | refine thenA_ret ?_
            | refine blockA_normal ?_
            | refine blockA_hit ?_
            | refine blockA_miss rfl ?_
            | refine blockA_ret ?_
            | refine Reg.panic rfl rfl rfl rfl ?_
            | refine thenA_panic ?_
            | refine blockA_panic ?_
            | refine Reg.skip rfl rfl rfl rfl rfl rfl rfl rfl ?_
            | refine Reg.ifS tab_ok (hint := []) rfl rfl rfl rfl rfl rfl rfl rfl rfl trivial ?_
            | refine AW.label ?_
            | refine AW.scope ?_
            | refine scopeA_normal ?_
            | refine scopeA_ret ?_
            | refine scopeA_exit ?_)
          cases h5 : decide ((c.toNat : Int) ≤ 57) with
          | false =>
            simp only [h4, h5, Bool.and_false, Bool.false_eq_true, if_false] at hinv
            repeat (first
              | refine AW.seq ?_
              | refine AW.reg ?_
              | refine Reg.opS tab_ok (hint := []) rfl rfl rfl rfl rfl trivial ?_
              | refine Reg.opN tab_ok (hint := []) rfl rfl rfl rfl trivial ?_
              | refine Reg.nil ?_
              | refine thenA_normal ?_
              | refine AW.condT rfl ?_
              | refine AW.condF rfl ?_
              | refine AW.skip ?_
              | refine AW.block ?_
              | refine AW.exit ?_
              | refine AW.ret ?_
              | refine thenA_exit ?_
              | refine thenA_ret ?_
              | refine blockA_normal ?_
              | refine blockA_hit ?_
              | refine blockA_miss rfl ?_
              | refine blockA_ret ?_
              | refine Reg.panic rfl rfl rfl rfl ?_
              | refine thenA_panic ?_
              | refine blockA_panic ?_
              | refine Reg.skip rfl rfl rfl rfl rfl rfl rfl rfl ?_
              | refine Reg.ifS tab_ok (hint := []) rfl rfl rfl rfl rfl rfl rfl rfl rfl trivial ?_
              | refine AW.label ?_
              | refine AW.scope ?_
              | refine scopeA_normal ?_
              | refine scopeA_ret ?_
              | refine scopeA_exit ?_)
            exact ⟨_, rfl, rfl, rfl, by rw [← hinv]; simp, rfl⟩
          | true =>
            simp only [h4, h5, Bool.and_true, if_true] at hinv
            repeat (first
              | refine AW.seq ?_
              | refine AW.reg ?_
              | refine Reg.opS tab_ok (hint := []) rfl rfl rfl rfl rfl trivial ?_
              | refine Reg.opN tab_ok (hint := []) rfl rfl rfl rfl trivial ?_
              | refine Reg.nil ?_
              | refine thenA_normal ?_
              | refine AW.condT rfl ?_
              | refine AW.condF rfl ?_
              | refine AW.skip ?_
              | refine AW.block ?_
              | refine AW.exit ?_
              | refine AW.ret ?_
              | refine thenA_exit ?_
              | refine thenA_ret ?_
              | refine blockA_normal ?_
              | refine blockA_hit ?_
              | refine blockA_miss rfl ?_
              | refine blockA_ret ?_
              | refine Reg.panic rfl rfl rfl rfl ?_
              | refine thenA_panic ?_
              | refine blockA_panic ?_
              | refine Reg.skip rfl rfl rfl rfl rfl rfl rfl rfl ?_
              | refine Reg.ifS tab_ok (hint := []) rfl rfl rfl rfl rfl rfl rfl rfl rfl trivial ?_
              | refine AW.label ?_
              | refine AW.scope ?_
              | refine scopeA_normal ?_
              | refine scopeA_ret ?_
              | refine scopeA_exit ?_)
            rw [hnext]
            refine ⟨n + 1, ⟨by omega, ?_⟩, by omega, ⟨.refl _, .refl _, trivial⟩, trivial, rfl, rfl⟩
            rw [hdr, ← hinv]
            simp
            omega

theorem callable60 : Callable Tryd.prog 60 := ⟨_, Tryd.func60, rfl, rfl⟩

end Go.Proofs.YtamkldohfhidiaaDoor
