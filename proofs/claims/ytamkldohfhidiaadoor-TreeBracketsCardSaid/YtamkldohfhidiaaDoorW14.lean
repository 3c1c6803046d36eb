import Derived.Test.YtamkldohfhidiaaDoorW13
namespace Go.Proofs.YtamkldohfhidiaaDoor
open Go Go.Abs

theorem utfBad_nil (a : Nat) : utfBad [] a = none := by rw [utfBad]; rfl
theorem utfBad_step {l : List UInt8} (a : Nat) (h : l ≠ []) : utfBad l a = if (decL l).1 = 65533 ∧ (decL l).2 < 2 then some a else utfBad (l.drop (decL l).2) (a + (decL l).2) := by
  rw [utfBad, dif_neg h]
theorem bsL_size (l : List UInt8) : (bsL l).size = l.length := by
  show l.toArray.size = l.length
  simp

def scanQ (R : SR) (out : Out) (b : List Box) : Prop :=
  match R with
  | .ok ts => out = .ret (.tup [.own 0 3 (ts.map tokC), .d (.val (.int .i64 0)), .d (.val (.int .i64 0))]) ∧ b = [.acc 3 ts.length]
  | .bad p e => out = .ret (.tup [.d (.sl 3 [] true), .d (.val (.int .i64 p)), .d (.val (.int .i64 e))]) ∧ b = []
abbrev scanOut (l : List UInt8) : Out → List Box → Prop := scanQ (scanP l)

set_option maxHeartbeats 4000000 in
theorem scan_any (s : ByteArray) : ACalls Tryd.prog GD 13 [.d (.val (.string s))] [] (scanOut (bl s)) := by
  refine ACalls.bodyO tab_ok Tryd.func13 rfl rfl ?_
  repeat (first
    | refine AW.seq ?_
    | refine AW.reg ?_
    | refine Reg.opS tab_ok (hint := []) rfl rfl rfl rfl rfl trivial ?_
    | refine Reg.opN tab_ok (hint := []) rfl rfl rfl rfl trivial ?_
    | refine Reg.nil ?_
    | refine thenA_normal ?_
    | refine AW.condT rfl ?_
    | refine AW.condF rfl ?_
    | refine AW.skip ?_
    | refine AW.block ?_
    | refine AW.exit ?_
    | refine AW.ret ?_
    | refine thenA_exit ?_
    | refine thenA_ret ?_
    | refine blockA_normal ?_
    | refine blockA_hit ?_
    | refine blockA_miss rfl ?_
    | refine blockA_ret ?_
    | refine Reg.panic rfl rfl rfl rfl ?_
    | refine thenA_panic ?_
    | refine blockA_panic ?_
    | refine Reg.skip rfl rfl rfl rfl rfl rfl rfl rfl ?_
    | refine Reg.ifS tab_ok (hint := []) rfl rfl rfl rfl rfl rfl rfl rfl rfl trivial ?_
    | refine AW.label ?_
    | refine AW.scope ?_
    | refine scopeA_normal ?_
    | refine scopeA_ret ?_
    | refine scopeA_exit ?_)
  cases h0 : decide ((s.size : Int) > 65536) with
  | true =>
    have h1 : 65536 < (bl s).length := by rw [bl_len]; have := of_decide_eq_true h0; omega
    repeat (first
      | refine AW.seq ?_
      | refine AW.reg ?_
      | refine Reg.opS tab_ok (hint := []) rfl rfl rfl rfl rfl trivial ?_
      | refine Reg.opN tab_ok (hint := []) rfl rfl rfl rfl trivial ?_
      | refine Reg.nil ?_
      | refine thenA_normal ?_
      | refine AW.condT rfl ?_
      | refine AW.condF rfl ?_
      | refine AW.skip ?_
      | refine AW.block ?_
      | refine AW.exit ?_
      | refine AW.ret ?_
      | refine thenA_exit ?_
      | refine thenA_ret ?_
      | refine blockA_normal ?_
      | refine blockA_hit ?_
      | refine blockA_miss rfl ?_
      | refine blockA_ret ?_
      | refine Reg.panic rfl rfl rfl rfl ?_
      | refine thenA_panic ?_
      | refine blockA_panic ?_
      | refine Reg.skip rfl rfl rfl rfl rfl rfl rfl rfl ?_
      | refine Reg.ifS tab_ok (hint := []) rfl rfl rfl rfl rfl rfl rfl rfl rfl trivial ?_
      | refine AW.label ?_
      | refine AW.scope ?_
      | refine scopeA_normal ?_
      | refine scopeA_ret ?_
      | refine scopeA_exit ?_)
    refine ⟨_, 0, rfl, rfl, rfl, ?_⟩
    unfold scanOut scanP
    rw [if_pos h1]
    exact ⟨rfl, rfl⟩
  | false =>
    have h1 : ¬ 65536 < (bl s).length := by rw [bl_len]; have := of_decide_eq_false h0; omega
    have hsz : s.size ≤ 65536 := by rw [← bl_len]; omega
    have hs : s.size ≤ 100000 := by omega
    generalize hR : scanP (bl s) = R
    unfold scanP at hR
    rw [if_neg h1] at hR
    have hout : ∀ out b, scanQ R out b → scanOut (bl s) out b := by
      intro out b h
      unfold scanOut scanP
      rw [if_neg h1, hR]
      exact h
    repeat (first
      | refine AW.seq ?_
      | refine AW.reg ?_
      | refine Reg.opS tab_ok (hint := []) rfl rfl rfl rfl rfl trivial ?_
      | refine Reg.opN tab_ok (hint := []) rfl rfl rfl rfl trivial ?_
      | refine Reg.nil ?_
      | refine thenA_normal ?_
      | refine AW.condT rfl ?_
      | refine AW.condF rfl ?_
      | refine AW.skip ?_
      | refine AW.block ?_
      | refine AW.exit ?_
      | refine AW.ret ?_
      | refine thenA_exit ?_
      | refine thenA_ret ?_
      | refine blockA_normal ?_
      | refine blockA_hit ?_
      | refine blockA_miss rfl ?_
      | refine blockA_ret ?_
      | refine Reg.panic rfl rfl rfl rfl ?_
      | refine thenA_panic ?_
      | refine blockA_panic ?_
      | refine Reg.skip rfl rfl rfl rfl rfl rfl rfl rfl ?_
      | refine Reg.ifS tab_ok (hint := []) rfl rfl rfl rfl rfl rfl rfl rfl rfl trivial ?_
      | refine AW.label ?_
      | refine AW.scope ?_
      | refine scopeA_normal ?_
      | refine scopeA_ret ?_
      | refine scopeA_exit ?_)
    refine AW.loop (S := Nat) (fun n => n ≤ s.size ∧ utfBad ((bl s).drop n) n = utfBad (bl s) 0) (fun n => [(0, .d (.val (.string s))), (5, .d (.val (.int .i64 n)))]) (fun _ => []) (fun n => s.size - n) 0
      ⟨Nat.zero_le _, rfl⟩ (fun _ => rfl) ⟨⟨.refl _, .refl _, trivial⟩, trivial, rfl, rfl⟩ ?_
    rintro n ⟨hn, hinv⟩
    repeat (first
      | refine AW.seq ?_
      | refine AW.reg ?_
      | refine Reg.opS tab_ok (hint := []) rfl rfl rfl rfl rfl trivial ?_
      | refine Reg.opN tab_ok (hint := []) rfl rfl rfl rfl trivial ?_
      | refine Reg.nil ?_
      | refine thenA_normal ?_
      | refine AW.condT rfl ?_
      | refine AW.condF rfl ?_
      | refine AW.skip ?_
      | refine AW.block ?_
      | refine AW.exit ?_
      | refine AW.ret ?_
      | refine thenA_exit ?_
      | refine thenA_ret ?_
      | refine blockA_normal ?_
      | refine blockA_hit ?_
      | refine blockA_miss rfl ?_
      | refine blockA_ret ?_
      | refine Reg.panic rfl rfl rfl rfl ?_
      | refine thenA_panic ?_
      | refine blockA_panic ?_
      | refine Reg.skip rfl rfl rfl rfl rfl rfl rfl rfl ?_
      | refine Reg.ifS tab_ok (hint := []) rfl rfl rfl rfl rfl rfl rfl rfl rfl trivial ?_
      | refine AW.label ?_
      | refine AW.scope ?_
      | refine scopeA_normal ?_
      | refine scopeA_ret ?_
      | refine scopeA_exit ?_)
    cases h2 : decide ((n : Int) < s.size) with
    | true =>
      have hlt := of_decide_eq_true h2
      obtain ⟨c, r, hd⟩ := drop_cons hlt
      have hne : (bl s).drop n ≠ [] := by rw [hd]; exact fun h => by cases h
      have hex : bl (s.extract n s.size) = (bl s).drop n := extract_end s n
      rw [utfBad_step n hne] at hinv
      repeat (first
        | refine AW.seq ?_
        | refine AW.reg ?_
        | refine Reg.opS tab_ok (hint := []) rfl rfl rfl rfl rfl trivial ?_
        | refine Reg.opN tab_ok (hint := []) rfl rfl rfl rfl trivial ?_
        | refine Reg.nil ?_
        | refine thenA_normal ?_
        | refine AW.condT rfl ?_
        | refine AW.condF rfl ?_
        | refine AW.skip ?_
        | refine AW.block ?_
        | refine AW.exit ?_
        | refine AW.ret ?_
        | refine thenA_exit ?_
        | refine thenA_ret ?_
        | refine blockA_normal ?_
        | refine blockA_hit ?_
        | refine blockA_miss rfl ?_
        | refine blockA_ret ?_
        | refine Reg.panic rfl rfl rfl rfl ?_
        | refine thenA_panic ?_
        | refine blockA_panic ?_
        | refine Reg.skip rfl rfl rfl rfl rfl rfl rfl rfl ?_
        | refine Reg.ifS tab_ok (hint := []) rfl rfl rfl rfl rfl rfl rfl rfl rfl trivial ?_
        | refine AW.label ?_
        | refine AW.scope ?_
        | refine scopeA_normal ?_
        | refine scopeA_ret ?_
        | refine scopeA_exit ?_)
      refine Reg.opS tab_ok (hint := []) rfl rfl rfl rfl rfl ⟨Int.natCast_nonneg _, by omega⟩ ?_
      refine Reg.call tab_ok [] (decode_any (s.extract n s.size) (by rw [hex]; exact hne)) callable29 rfl (.inl rfl) rfl rfl rfl (by decide) rfl rfl ?_
      rintro out bx1 ⟨rfl, rfl⟩
      refine after0 rfl rfl ?_
      rw [hex]
      have hp := decL_pos ((bl s).drop n)
      have hle := decL_le _ hne
      rw [List.length_drop, bl_len] at hle
      generalize decL ((bl s).drop n) = D at *
      repeat (first
        | refine AW.seq ?_
        | refine AW.reg ?_
        | refine Reg.opS tab_ok (hint := []) rfl rfl rfl rfl rfl trivial ?_
        | refine Reg.opN tab_ok (hint := []) rfl rfl rfl rfl trivial ?_
        | refine Reg.nil ?_
        | refine thenA_normal ?_
        | refine AW.condT rfl ?_
        | refine AW.condF rfl ?_
        | refine AW.skip ?_
        | refine AW.block ?_
        | refine AW.exit ?_
        | refine AW.ret ?_
        | refine thenA_exit ?_
        | refine thenA_ret ?_
        | refine blockA_normal ?_
        | refine blockA_hit ?_
        | refine blockA_miss rfl ?_
        | refine blockA_ret ?_
        | refine Reg.panic rfl rfl rfl rfl ?_
        | refine thenA_panic ?_
        | refine blockA_panic ?_
        | refine Reg.skip rfl rfl rfl rfl rfl rfl rfl rfl ?_
        | refine Reg.ifS tab_ok (hint := []) rfl rfl rfl rfl rfl rfl rfl rfl rfl trivial ?_
        | refine AW.label ?_
        | refine AW.scope ?_
        | refine scopeA_normal ?_
        | refine scopeA_ret ?_
        | refine scopeA_exit ?_)
      have hbadstep : ¬ (D.1 = 65533 ∧ D.2 < 2) → utfBad ((bl s).drop (n + D.2)) (n + D.2) = utfBad (bl s) 0 := by
        intro h
        rw [if_neg h, List.drop_drop] at hinv
        exact hinv
      have hnext : IntKind.i64.wrap ((n : Int) + (D.2 : Nat)) = ((n + D.2 : Nat) : Int) := wrap_in (by omega) (by omega)
      cases h3 : (((D.1 : Nat) : Int) == 65533) with
      | false =>
        have h3' : D.1 ≠ 65533 := by intro e; rw [e] at h3; cases h3
        repeat (first
          | refine AW.seq ?_
          | refine AW.reg ?_
          | refine Reg.opS tab_ok (hint := []) rfl rfl rfl rfl rfl trivial ?_
          | refine Reg.opN tab_ok (hint := []) rfl rfl rfl rfl trivial ?_
          | refine Reg.nil ?_
          | refine thenA_normal ?_
          | refine AW.condT rfl ?_
          | refine AW.condF rfl ?_
          | refine AW.skip ?_
          | refine AW.block ?_
          | refine AW.exit ?_
          | refine AW.ret ?_
          | refine thenA_exit ?_
          | refine thenA_ret ?_
          | refine blockA_normal ?_
          | refine blockA_hit ?_
          | refine blockA_miss rfl ?_
          | refine blockA_ret ?_
          | refine Reg.panic rfl rfl rfl rfl ?_
          | refine thenA_panic ?_
          | refine blockA_panic ?_
          | refine Reg.skip rfl rfl rfl rfl rfl rfl rfl rfl ?_
          | refine Reg.ifS tab_ok (hint := []) rfl rfl rfl rfl rfl rfl rfl rfl rfl trivial ?_
          | refine AW.label ?_
          | refine AW.scope ?_
          | refine scopeA_normal ?_
          | refine scopeA_ret ?_
          | refine scopeA_exit ?_)
        rw [hnext]
        exact ⟨n + D.2, ⟨by omega, hbadstep (fun h => h3' h.1)⟩, by omega, ⟨.refl _, .refl _, trivial⟩, trivial, rfl, rfl⟩
      | true =>
        have h3' : D.1 = 65533 := by have := eq_of_beq h3; omega
        repeat (first
          | refine AW.seq ?_
          | refine AW.reg ?_
          | refine Reg.opS tab_ok (hint := []) rfl rfl rfl rfl rfl trivial ?_
          | refine Reg.opN tab_ok (hint := []) rfl rfl rfl rfl trivial ?_
          | refine Reg.nil ?_
          | refine thenA_normal ?_
          | refine AW.condT rfl ?_
          | refine AW.condF rfl ?_
          | refine AW.skip ?_
          | refine AW.block ?_
          | refine AW.exit ?_
          | refine AW.ret ?_
          | refine thenA_exit ?_
          | refine thenA_ret ?_
          | refine blockA_normal ?_
          | refine blockA_hit ?_
          | refine blockA_miss rfl ?_
          | refine blockA_ret ?_
          | refine Reg.panic rfl rfl rfl rfl ?_
          | refine thenA_panic ?_
          | refine blockA_panic ?_
          | refine Reg.skip rfl rfl rfl rfl rfl rfl rfl rfl ?_
          | refine Reg.ifS tab_ok (hint := []) rfl rfl rfl rfl rfl rfl rfl rfl rfl trivial ?_
          | refine AW.label ?_
          | refine AW.scope ?_
          | refine scopeA_normal ?_
          | refine scopeA_ret ?_
          | refine scopeA_exit ?_)
        cases h4 : decide (((D.2 : Nat) : Int) < 2) with
        | false =>
          have h4' : ¬ D.2 < 2 := by have := of_decide_eq_false h4; omega
          repeat (first
            | refine AW.seq ?_
            | refine AW.reg ?_
            | refine Reg.opS tab_ok (hint := []) rfl rfl rfl rfl rfl trivial ?_
            | refine Reg.opN tab_ok (hint := []) rfl rfl rfl rfl trivial ?_
            | refine Reg.nil ?_
            | refine thenA_normal ?_
            | refine AW.condT rfl ?_
            | refine AW.condF rfl ?_
            | refine AW.skip ?_
            | refine AW.block ?_
            | refine AW.exit ?_
            | refine AW.ret ?_
            | refine thenA_exit ?_
            | refine thenA_ret ?_
            | refine blockA_normal ?_
            | refine blockA_hit ?_
            | refine blockA_miss rfl ?_
            | refine blockA_ret ?_
            | refine Reg.panic rfl rfl rfl rfl ?_
            | refine thenA_panic ?_
            | refine blockA_panic ?_
            | refine Reg.skip rfl rfl rfl rfl rfl rfl rfl rfl ?_
            | refine Reg.ifS tab_ok (hint := []) rfl rfl rfl rfl rfl rfl rfl rfl rfl trivial ?_
            | refine AW.label ?_
            | refine AW.scope ?_
            | refine scopeA_normal ?_
            | refine scopeA_ret ?_
            | refine scopeA_exit ?_)
          rw [hnext]
          exact ⟨n + D.2, ⟨by omega, hbadstep (fun h => h4' h.2)⟩, by omega, ⟨.refl _, .refl _, trivial⟩, trivial, rfl, rfl⟩
        | true =>
          have h4' : D.2 < 2 := by have := of_decide_eq_true h4; omega
          rw [if_pos ⟨h3', h4'⟩] at hinv
          rw [← hinv] at hR
          subst hR
          repeat (first
            | refine AW.seq ?_
            | refine AW.reg ?_
            | refine Reg.opS tab_ok (hint := []) rfl rfl rfl rfl rfl trivial ?_
            | refine Reg.opN tab_ok (hint := []) rfl rfl rfl rfl trivial ?_
            | refine Reg.nil ?_
            | refine thenA_normal ?_
            | refine AW.condT rfl ?_
            | refine AW.condF rfl ?_
            | refine AW.skip ?_
            | refine AW.block ?_
            | refine AW.exit ?_
            | refine AW.ret ?_
            | refine thenA_exit ?_
            | refine thenA_ret ?_
            | refine blockA_normal ?_
            | refine blockA_hit ?_
            | refine blockA_miss rfl ?_
            | refine blockA_ret ?_
            | refine Reg.panic rfl rfl rfl rfl ?_
            | refine thenA_panic ?_
            | refine blockA_panic ?_
            | refine Reg.skip rfl rfl rfl rfl rfl rfl rfl rfl ?_
            | refine Reg.ifS tab_ok (hint := []) rfl rfl rfl rfl rfl rfl rfl rfl rfl trivial ?_
            | refine AW.label ?_
            | refine AW.scope ?_
            | refine scopeA_normal ?_
            | refine scopeA_ret ?_
            | refine scopeA_exit ?_)
          exact ⟨_, 0, rfl, rfl, rfl, hout _ _ ⟨rfl, rfl⟩⟩
    | false =>
      have h3 : (bl s).drop n = [] := List.drop_eq_nil_of_le (by rw [bl_len]; have := of_decide_eq_false h2; omega)
      rw [h3, utfBad_nil] at hinv
      rw [← hinv] at hR
      simp only at hR
      clear hinv h3 h2 hn
      repeat (first
        | refine AW.seq ?_
        | refine AW.reg ?_
        | refine Reg.opS tab_ok (hint := []) rfl rfl rfl rfl rfl trivial ?_
        | refine Reg.opN tab_ok (hint := []) rfl rfl rfl rfl trivial ?_
        | refine Reg.nil ?_
        | refine thenA_normal ?_
        | refine AW.condT rfl ?_
        | refine AW.condF rfl ?_
        | refine AW.skip ?_
        | refine AW.block ?_
        | refine AW.exit ?_
        | refine AW.ret ?_
        | refine thenA_exit ?_
        | refine thenA_ret ?_
        | refine blockA_normal ?_
        | refine blockA_hit ?_
        | refine blockA_miss rfl ?_
        | refine blockA_ret ?_
        | refine Reg.panic rfl rfl rfl rfl ?_
        | refine thenA_panic ?_
        | refine blockA_panic ?_
        | refine Reg.skip rfl rfl rfl rfl rfl rfl rfl rfl ?_
        | refine Reg.ifS tab_ok (hint := []) rfl rfl rfl rfl rfl rfl rfl rfl rfl trivial ?_
        | refine AW.label ?_
        | refine AW.scope ?_
        | refine scopeA_normal ?_
        | refine scopeA_ret ?_
        | refine scopeA_exit ?_)
      refine Reg.call tab_ok [] (past_any s hs 0 (Nat.zero_le _)) callable30 rfl (.inl rfl) rfl rfl rfl (by decide) rfl rfl ?_
      rintro out bx1 ⟨rfl, rfl⟩
      refine after0 rfl rfl ?_
      have hp0 := pastT_le false (bl s)
      rw [bl_len] at hp0
      have e0 : 0 + pastT false ((bl s).drop 0) = pastT false (bl s) := by simp
      rw [e0]
      repeat (first
        | refine AW.seq ?_
        | refine AW.reg ?_
        | refine Reg.opS tab_ok (hint := []) rfl rfl rfl rfl rfl trivial ?_
        | refine Reg.opN tab_ok (hint := []) rfl rfl rfl rfl trivial ?_
        | refine Reg.nil ?_
        | refine thenA_normal ?_
        | refine AW.condT rfl ?_
        | refine AW.condF rfl ?_
        | refine AW.skip ?_
        | refine AW.block ?_
        | refine AW.exit ?_
        | refine AW.ret ?_
        | refine thenA_exit ?_
        | refine thenA_ret ?_
        | refine blockA_normal ?_
        | refine blockA_hit ?_
        | refine blockA_miss rfl ?_
        | refine blockA_ret ?_
        | refine Reg.panic rfl rfl rfl rfl ?_
        | refine thenA_panic ?_
        | refine blockA_panic ?_
        | refine Reg.skip rfl rfl rfl rfl rfl rfl rfl rfl ?_
        | refine Reg.ifS tab_ok (hint := []) rfl rfl rfl rfl rfl rfl rfl rfl rfl trivial ?_
        | refine AW.label ?_
        | refine AW.scope ?_
        | refine scopeA_normal ?_
        | refine scopeA_ret ?_
        | refine scopeA_exit ?_)
      refine AW.adopt (k := 8) rfl rfl ?_
      generalize hQ : scanW ((bl s).drop (pastT false (bl s))) (pastT false (bl s)) = Q at hR
      refine AW.loop (S := List Tok × Nat) (fun st => st.2 ≤ s.size ∧ st.1.length ≤ st.2 ∧ (st.1 ++ (scanW ((bl s).drop st.2) st.2).1, (scanW ((bl s).drop st.2) st.2).2) = Q)
        (fun st => [(0, .d (.val (.string s))), (8, .own 0 3 (st.1.map tokC)), (9, .d (.val (.int .i64 st.2)))]) (fun st => [.acc 3 st.1.length]) (fun st => s.size - st.2) ([], pastT false (bl s))
        ⟨hp0, Nat.zero_le _, hQ⟩ (fun _ => rfl) ⟨⟨.refl _, .refl _, .refl _, trivial⟩, ⟨⟨rfl, rfl⟩, trivial⟩, rfl, rfl⟩ ?_
      clear hQ hp0 e0
      rintro ⟨acc, a⟩ ⟨ha, hla, hinv⟩
      simp only at ha hla hinv
      repeat (first
        | refine AW.seq ?_
        | refine AW.reg ?_
        | refine Reg.opS tab_ok (hint := []) rfl rfl rfl rfl rfl trivial ?_
        | refine Reg.opN tab_ok (hint := []) rfl rfl rfl rfl trivial ?_
        | refine Reg.nil ?_
        | refine thenA_normal ?_
        | refine AW.condT rfl ?_
        | refine AW.condF rfl ?_
        | refine AW.skip ?_
        | refine AW.block ?_
        | refine AW.exit ?_
        | refine AW.ret ?_
        | refine thenA_exit ?_
        | refine thenA_ret ?_
        | refine blockA_normal ?_
        | refine blockA_hit ?_
        | refine blockA_miss rfl ?_
        | refine blockA_ret ?_
        | refine Reg.panic rfl rfl rfl rfl ?_
        | refine thenA_panic ?_
        | refine blockA_panic ?_
        | refine Reg.skip rfl rfl rfl rfl rfl rfl rfl rfl ?_
        | refine Reg.ifS tab_ok (hint := []) rfl rfl rfl rfl rfl rfl rfl rfl rfl trivial ?_
        | refine AW.label ?_
        | refine AW.scope ?_
        | refine scopeA_normal ?_
        | refine scopeA_ret ?_
        | refine scopeA_exit ?_)
      cases h2 : decide ((a : Int) < s.size) with
      | false =>
        have h3 : (bl s).drop a = [] := List.drop_eq_nil_of_le (by rw [bl_len]; have := of_decide_eq_false h2; omega)
        rw [h3, scanW_nil, List.append_nil] at hinv
        subst hinv
        simp only at hR
        subst hR
        repeat (first
          | refine AW.seq ?_
          | refine AW.reg ?_
          | refine Reg.opS tab_ok (hint := []) rfl rfl rfl rfl rfl trivial ?_
          | refine Reg.opN tab_ok (hint := []) rfl rfl rfl rfl trivial ?_
          | refine Reg.nil ?_
          | refine thenA_normal ?_
          | refine AW.condT rfl ?_
          | refine AW.condF rfl ?_
          | refine AW.skip ?_
          | refine AW.block ?_
          | refine AW.exit ?_
          | refine AW.ret ?_
          | refine thenA_exit ?_
          | refine thenA_ret ?_
          | refine blockA_normal ?_
          | refine blockA_hit ?_
          | refine blockA_miss rfl ?_
          | refine blockA_ret ?_
          | refine Reg.panic rfl rfl rfl rfl ?_
          | refine thenA_panic ?_
          | refine blockA_panic ?_
          | refine Reg.skip rfl rfl rfl rfl rfl rfl rfl rfl ?_
          | refine Reg.ifS tab_ok (hint := []) rfl rfl rfl rfl rfl rfl rfl rfl rfl trivial ?_
          | refine AW.label ?_
          | refine AW.scope ?_
          | refine scopeA_normal ?_
          | refine scopeA_ret ?_
          | refine scopeA_exit ?_)
        refine Reg.append tab_ok rfl rfl rfl rfl rfl rfl rfl rfl rfl ?_ rfl rfl ?_ ?_ ?_ ?_
        · simp
        · simp
          exact ⟨rfl, rfl, rfl⟩
        · simp
          omega
        · simp
          omega
        repeat (first
          | refine AW.seq ?_
          | refine AW.reg ?_
          | refine Reg.opS tab_ok (hint := []) rfl rfl rfl rfl rfl trivial ?_
          | refine Reg.opN tab_ok (hint := []) rfl rfl rfl rfl trivial ?_
          | refine Reg.nil ?_
          | refine thenA_normal ?_
          | refine AW.condT rfl ?_
          | refine AW.condF rfl ?_
          | refine AW.skip ?_
          | refine AW.block ?_
          | refine AW.exit ?_
          | refine AW.ret ?_
          | refine thenA_exit ?_
          | refine thenA_ret ?_
          | refine blockA_normal ?_
          | refine blockA_hit ?_
          | refine blockA_miss rfl ?_
          | refine blockA_ret ?_
          | refine Reg.panic rfl rfl rfl rfl ?_
          | refine thenA_panic ?_
          | refine blockA_panic ?_
          | refine Reg.skip rfl rfl rfl rfl rfl rfl rfl rfl ?_
          | refine Reg.ifS tab_ok (hint := []) rfl rfl rfl rfl rfl rfl rfl rfl rfl trivial ?_
          | refine AW.label ?_
          | refine AW.scope ?_
          | refine scopeA_normal ?_
          | refine scopeA_ret ?_
          | refine scopeA_exit ?_)
        refine ⟨_, 1, rfl, rfl, rfl, hout _ _ ?_⟩
        rw [bl_len]
        exact ⟨by rw [List.map_append]; rfl, by simp⟩
      | true =>
        have hlt := of_decide_eq_true h2
        obtain ⟨c, r, hd⟩ := drop_cons hlt
        have hne : (bl s).drop a ≠ [] := by rw [hd]; exact fun h => by cases h
        have hex : bl (s.extract a s.size) = (bl s).drop a := extract_end s a
        have hexs : (s.extract a s.size).size ≤ 100000 := by rw [← bl_len, hex, List.length_drop, bl_len]; omega
        repeat (first
          | refine AW.seq ?_
          | refine AW.reg ?_
          | refine Reg.opS tab_ok (hint := []) rfl rfl rfl rfl rfl trivial ?_
          | refine Reg.opN tab_ok (hint := []) rfl rfl rfl rfl trivial ?_
          | refine Reg.nil ?_
          | refine thenA_normal ?_
          | refine AW.condT rfl ?_
          | refine AW.condF rfl ?_
          | refine AW.skip ?_
          | refine AW.block ?_
          | refine AW.exit ?_
          | refine AW.ret ?_
          | refine thenA_exit ?_
          | refine thenA_ret ?_
          | refine blockA_normal ?_
          | refine blockA_hit ?_
          | refine blockA_miss rfl ?_
          | refine blockA_ret ?_
          | refine Reg.panic rfl rfl rfl rfl ?_
          | refine thenA_panic ?_
          | refine blockA_panic ?_
          | refine Reg.skip rfl rfl rfl rfl rfl rfl rfl rfl ?_
          | refine Reg.ifS tab_ok (hint := []) rfl rfl rfl rfl rfl rfl rfl rfl rfl trivial ?_
          | refine AW.label ?_
          | refine AW.scope ?_
          | refine scopeA_normal ?_
          | refine scopeA_ret ?_
          | refine scopeA_exit ?_)
        refine Reg.opS tab_ok (hint := []) rfl rfl rfl rfl rfl ⟨Int.natCast_nonneg _, by omega⟩ ?_
        refine Reg.call tab_ok [] (one_any (s.extract a s.size) hexs) callable31 rfl (.inl rfl) rfl rfl rfl (by decide) rfl rfl ?_
        rintro out bx1 ⟨rfl, rfl⟩
        refine after0 rfl rfl ?_
        rw [hex]
        cases h3 : oneP ((bl s).drop a) with
        | none =>
          have e : oneC ((bl s).drop a) = [.val (.int .i64 0), .val (.string ⟨#[]⟩), .val (.int .i64 0)] := by simp only [oneC, h3]
          rw [e]
          rw [scanW_none a hne h3, List.append_nil] at hinv
          subst hinv
          simp only at hR
          subst hR
          have hee : ((⟨#[]⟩ : ByteArray).toList == (⟨#[]⟩ : ByteArray).toList) = true := by rw [strEq]; rfl
          repeat (first
            | refine AW.seq ?_
            | refine AW.reg ?_
            | refine Reg.opS tab_ok (hint := []) rfl rfl rfl rfl rfl trivial ?_
            | refine Reg.opN tab_ok (hint := []) rfl rfl rfl rfl trivial ?_
            | refine Reg.nil ?_
            | refine thenA_normal ?_
            | refine AW.condT rfl ?_
            | refine AW.condF rfl ?_
            | refine AW.skip ?_
            | refine AW.block ?_
            | refine AW.exit ?_
            | refine AW.ret ?_
            | refine thenA_exit ?_
            | refine thenA_ret ?_
            | refine blockA_normal ?_
            | refine blockA_hit ?_
            | refine blockA_miss rfl ?_
            | refine blockA_ret ?_
            | refine Reg.panic rfl rfl rfl rfl ?_
            | refine thenA_panic ?_
            | refine blockA_panic ?_
            | refine Reg.skip rfl rfl rfl rfl rfl rfl rfl rfl ?_
            | refine Reg.ifS tab_ok (hint := []) rfl rfl rfl rfl rfl rfl rfl rfl rfl trivial ?_
            | refine AW.label ?_
            | refine AW.scope ?_
            | refine scopeA_normal ?_
            | refine scopeA_ret ?_
            | refine scopeA_exit ?_)
          rw [hee]
          repeat (first
            | refine AW.seq ?_
            | refine AW.reg ?_
            | refine Reg.opS tab_ok (hint := []) rfl rfl rfl rfl rfl trivial ?_
            | refine Reg.opN tab_ok (hint := []) rfl rfl rfl rfl trivial ?_
            | refine Reg.nil ?_
            | refine thenA_normal ?_
            | refine AW.condT rfl ?_
            | refine AW.condF rfl ?_
            | refine AW.skip ?_
            | refine AW.block ?_
            | refine AW.exit ?_
            | refine AW.ret ?_
            | refine thenA_exit ?_
            | refine thenA_ret ?_
            | refine blockA_normal ?_
            | refine blockA_hit ?_
            | refine blockA_miss rfl ?_
            | refine blockA_ret ?_
            | refine Reg.panic rfl rfl rfl rfl ?_
            | refine thenA_panic ?_
            | refine blockA_panic ?_
            | refine Reg.skip rfl rfl rfl rfl rfl rfl rfl rfl ?_
            | refine Reg.ifS tab_ok (hint := []) rfl rfl rfl rfl rfl rfl rfl rfl rfl trivial ?_
            | refine AW.label ?_
            | refine AW.scope ?_
            | refine scopeA_normal ?_
            | refine scopeA_ret ?_
            | refine scopeA_exit ?_)
          exact ⟨_, 0, rfl, rfl, rfl, hout _ _ ⟨rfl, rfl⟩⟩
        | some p =>
          obtain ⟨k, n⟩ := p
          obtain ⟨hn0, hnl⟩ := oneP_pos h3
          rw [List.length_drop, bl_len] at hnl
          have e : oneC ((bl s).drop a) = [.val (.int .i64 k), .val (.string (bsL (((bl s).drop a).take n))), .val (.int .i64 0)] := by simp only [oneC, h3]
          rw [e]
          rw [scanW_some a hne h3] at hinv
          have hsz2 : (bsL (((bl s).drop a).take n)).size = n := by rw [bsL_size, List.length_take, List.length_drop, bl_len]; omega
          have hnn : ((bsL (((bl s).drop a).take n)).toList == (⟨#[]⟩ : ByteArray).toList) = false := by
            rw [strEq]
            have : bl (bsL (((bl s).drop a).take n)) ≠ [] := by
              intro e
              have := congrArg List.length e
              rw [bl_len, hsz2] at this
              simp at this
              omega
            cases hh : bl (bsL (((bl s).drop a).take n)) with
            | nil => exact (this hh).elim
            | cons x y => rfl
          generalize htx : bsL (((bl s).drop a).take n) = tx at *
          repeat (first
            | refine AW.seq ?_
            | refine AW.reg ?_
            | refine Reg.opS tab_ok (hint := []) rfl rfl rfl rfl rfl trivial ?_
            | refine Reg.opN tab_ok (hint := []) rfl rfl rfl rfl trivial ?_
            | refine Reg.nil ?_
            | refine thenA_normal ?_
            | refine AW.condT rfl ?_
            | refine AW.condF rfl ?_
            | refine AW.skip ?_
            | refine AW.block ?_
            | refine AW.exit ?_
            | refine AW.ret ?_
            | refine thenA_exit ?_
            | refine thenA_ret ?_
            | refine blockA_normal ?_
            | refine blockA_hit ?_
            | refine blockA_miss rfl ?_
            | refine blockA_ret ?_
            | refine Reg.panic rfl rfl rfl rfl ?_
            | refine thenA_panic ?_
            | refine blockA_panic ?_
            | refine Reg.skip rfl rfl rfl rfl rfl rfl rfl rfl ?_
            | refine Reg.ifS tab_ok (hint := []) rfl rfl rfl rfl rfl rfl rfl rfl rfl trivial ?_
            | refine AW.label ?_
            | refine AW.scope ?_
            | refine scopeA_normal ?_
            | refine scopeA_ret ?_
            | refine scopeA_exit ?_)
          rw [hnn]
          repeat (first
            | refine AW.seq ?_
            | refine AW.reg ?_
            | refine Reg.opS tab_ok (hint := []) rfl rfl rfl rfl rfl trivial ?_
            | refine Reg.opN tab_ok (hint := []) rfl rfl rfl rfl trivial ?_
            | refine Reg.nil ?_
            | refine thenA_normal ?_
            | refine AW.condT rfl ?_
            | refine AW.condF rfl ?_
            | refine AW.skip ?_
            | refine AW.block ?_
            | refine AW.exit ?_
            | refine AW.ret ?_
            | refine thenA_exit ?_
            | refine thenA_ret ?_
            | refine blockA_normal ?_
            | refine blockA_hit ?_
            | refine blockA_miss rfl ?_
            | refine blockA_ret ?_
            | refine Reg.panic rfl rfl rfl rfl ?_
            | refine thenA_panic ?_
            | refine blockA_panic ?_
            | refine Reg.skip rfl rfl rfl rfl rfl rfl rfl rfl ?_
            | refine Reg.ifS tab_ok (hint := []) rfl rfl rfl rfl rfl rfl rfl rfl rfl trivial ?_
            | refine AW.label ?_
            | refine AW.scope ?_
            | refine scopeA_normal ?_
            | refine scopeA_ret ?_
            | refine scopeA_exit ?_)
          refine Reg.append tab_ok rfl rfl rfl rfl rfl rfl rfl rfl rfl ?_ rfl rfl ?_ ?_ ?_ ?_
          · simp
          · simp
            exact ⟨rfl, rfl, rfl⟩
          · simp
            omega
          · simp
            omega
          repeat (first
            | refine AW.seq ?_
            | refine AW.reg ?_
            | refine Reg.opS tab_ok (hint := []) rfl rfl rfl rfl rfl trivial ?_
            | refine Reg.opN tab_ok (hint := []) rfl rfl rfl rfl trivial ?_
            | refine Reg.nil ?_
            | refine thenA_normal ?_
            | refine AW.condT rfl ?_
            | refine AW.condF rfl ?_
            | refine AW.skip ?_
            | refine AW.block ?_
            | refine AW.exit ?_
            | refine AW.ret ?_
            | refine thenA_exit ?_
            | refine thenA_ret ?_
            | refine blockA_normal ?_
            | refine blockA_hit ?_
            | refine blockA_miss rfl ?_
            | refine blockA_ret ?_
            | refine Reg.panic rfl rfl rfl rfl ?_
            | refine thenA_panic ?_
            | refine blockA_panic ?_
            | refine Reg.skip rfl rfl rfl rfl rfl rfl rfl rfl ?_
            | refine Reg.ifS tab_ok (hint := []) rfl rfl rfl rfl rfl rfl rfl rfl rfl trivial ?_
            | refine AW.label ?_
            | refine AW.scope ?_
            | refine scopeA_normal ?_
            | refine scopeA_ret ?_
            | refine scopeA_exit ?_)
          have hnext : IntKind.i64.wrap ((a : Int) + (tx.size : Int)) = ((a + n : Nat) : Int) := by rw [hsz2]; exact wrap_in (by omega) (by omega)
          rw [hnext]
          refine Reg.call tab_ok [] (past_any s hs (a + n) (by omega)) callable30 rfl (.inl rfl) rfl rfl rfl (by decide) rfl rfl ?_
          rintro out bx1 ⟨rfl, rfl⟩
          refine after0 rfl rfl ?_
          repeat (first
            | refine AW.seq ?_
            | refine AW.reg ?_
            | refine Reg.opS tab_ok (hint := []) rfl rfl rfl rfl rfl trivial ?_
            | refine Reg.opN tab_ok (hint := []) rfl rfl rfl rfl trivial ?_
            | refine Reg.nil ?_
            | refine thenA_normal ?_
            | refine AW.condT rfl ?_
            | refine AW.condF rfl ?_
            | refine AW.skip ?_
            | refine AW.block ?_
            | refine AW.exit ?_
            | refine AW.ret ?_
            | refine thenA_exit ?_
            | refine thenA_ret ?_
            | refine blockA_normal ?_
            | refine blockA_hit ?_
            | refine blockA_miss rfl ?_
            | refine blockA_ret ?_
            | refine Reg.panic rfl rfl rfl rfl ?_
            | refine thenA_panic ?_
            | refine blockA_panic ?_
            | refine Reg.skip rfl rfl rfl rfl rfl rfl rfl rfl ?_
            | refine Reg.ifS tab_ok (hint := []) rfl rfl rfl rfl rfl rfl rfl rfl rfl trivial ?_
            | refine AW.label ?_
            | refine AW.scope ?_
            | refine scopeA_normal ?_
            | refine scopeA_ret ?_
            | refine scopeA_exit ?_)
          have hpl := pastT_le false ((bl s).drop (a + n))
          rw [List.length_drop, bl_len] at hpl
          rw [List.drop_drop, List.drop_drop, ← Nat.add_assoc] at hinv
          refine ⟨(acc ++ [⟨k, tx, a⟩], a + n + pastT false ((bl s).drop (a + n))), ⟨by omega, ?_, ?_⟩, ?_, ⟨.refl _, ?_, .refl _, trivial⟩, ⟨⟨rfl, ?_⟩, trivial⟩, rfl, rfl⟩
          · simp
            omega
          · rw [← hinv]
            simp []
          · simp only
            omega
          · simp only [List.map_append, List.map_cons, List.map_nil]
            exact .refl _
          · simp

theorem callable13 : Callable Tryd.prog 13 := ⟨_, Tryd.func13, rfl, rfl⟩

end Go.Proofs.YtamkldohfhidiaaDoor
