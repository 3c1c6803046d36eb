import Derived.Test.YtamkldohfhidiaaDoorLb
namespace Go.Abs

/-- What is no text stays none in brackets. -/
theorem brackets_bad {l : List UInt8} {p : Int} (hl : l.length ≤ 60000) (h : readTop (termP 200) l = .bad p 60) : readTop (termP 200) (inBr l) = .bad (p + 1) 60 := by
  have hs : scanP l = .bad p 60 := by
    unfold readTop at h
    cases hs : scanP l with
    | bad q e =>
      rw [hs] at h
      cases h
      rfl
    | ok ts =>
      rw [hs] at h
      simp only at h
      exfalso
      unfold restTop at h
      split at h
      · rename_i q g hq
        cases h
        have := termP_ec _ _ _ _ hq
        omega
      · split at h
        · cases h
        · cases h
      · cases h
  have hu : ∃ n, utfBad l 0 = some n ∧ p = (n : Int) := by
    unfold scanP at hs
    split at hs
    · cases hs
    · split at hs
      · rename_i n hn
        cases hs
        exact ⟨n, hn, rfl⟩
      · split at hs
        · cases hs
        · cases hs
  obtain ⟨n, hn, rfl⟩ := hu
  have h2 : scanP (inBr l) = .bad ((n + 1 : Nat) : Int) 60 := scanP_utf (by unfold inBr; simp; omega) (by rw [utf_br, hn])
  unfold readTop
  rw [h2]
  rfl

theorem sees_not {x : List UInt8} {t : Tok} {X : List Tok} (h : t.kind ≠ 2 ∨ t.text.toList ≠ x) : seesB (bs x) (t :: X) = false := by
  cases h2 : seesB (bs x) (t :: X) with
  | false => rfl
  | true =>
    have := sees_text h2
    rcases h with h | h
    · exact (h this.1).elim
    · exact (h this.2).elim

theorem binds_first {x : Tok} {Z : List Tok} (h : seesB (bs [40]) [x] = false) : bindsP (x :: Z) = false := by
  match Z with
  | [] => rfl
  | [_] => rfl
  | b :: c :: r =>
    simp only [bindsP, h]
    rfl
theorem afterL_stop {pd pt : List Tok → PR T} {n : Nat} {x : T} {s : List Tok} (h1 : seesB (bs [64]) s = false) (h2 : isName s = false) (h3 : seesB (bs [40]) s = false) (h4 : seesB (bs [91]) s = false) (h5 : arrowP s = 0) : afterL pd pt (n + 1) x s = .ok x s := by
  simp only [afterL, h1, h2, h3, h4, h5]
  rfl

/-- A term does not begin with a name and a colon. -/
theorem no_colon {E : List Tok} {a : T} {x y : Tok} {r : List Tok} (hx : x.kind = 1) (hy : y.kind = 2) (ht : y.text.toList = [58]) (h : termP 200 (x :: y :: r ++ E) = .ok a E) : False := by
  have hsh := termP_short _ _ _ _ h
  have h1 : termP 200 (x :: y :: r ++ E) = .ok (.mk 1 x.text [] [] x.at_) (y :: r ++ E) := by
    show termBody (dimP 199) (termP 199) (x :: y :: r ++ E) = _
    unfold termBody
    have e1 : ∀ c : List UInt8, seesB (bs c) (x :: y :: r ++ E) = false := fun c => sees_not (.inl (by rw [hx]; decide))
    have e2 : bindsP (x :: y :: r ++ E) = false := binds_first (sees_not (.inl (by rw [hx]; decide)))
    rw [e1, e1, e2]
    simp only [Bool.false_eq_true, if_false]
    have e3 : isName (x :: y :: r ++ E) = true := by
      show (x.kind == 1) = true
      rw [hx]
      rfl
    have e4 : nameP (x :: y :: r ++ E) = .ok x.text (y :: r ++ E) := by
      show nameP (x :: (y :: r ++ E)) = _
      simp only [nameP, hx, beq_self_eq_true, if_true]
    unfold atomP
    rw [e3, e4]
    simp only [if_true, PR.ok_bind]
    have hr : rounds = 1999999 + 1 := rfl
    rw [hr]
    have f1 : ∀ c : List UInt8, c ≠ [58] → seesB (bs c) (y :: r ++ E) = false := fun c hc => sees_not (.inr (by rw [ht]; exact fun e => hc e.symm))
    have f2 : isName (y :: r ++ E) = false := by
      show (y.kind == 1) = false
      rw [hy]
      rfl
    have f3 : arrowP (y :: r ++ E) = 0 := by
      unfold arrowP
      rw [f1 _ (by decide), f1 _ (by decide)]
      rfl
    exact afterL_stop (f1 [64] (by decide)) f2 (f1 [40] (by decide)) (f1 [91] (by decide)) f3
  rw [h1] at h
  have := congrArg (fun p => match p with | PR.ok _ s => s.length | PR.err _ _ => 0) h
  simp at this
  omega

/-- A term in brackets. -/
theorem term_in_br {P Q : Tok} {Z Es : List Tok} {b : T} (hP : P.kind = 2 ∧ P.text.toList = [40]) (hQ : Q.kind = 2 ∧ Q.text.toList = [41]) (hE : Stop Es) (hb : bindsP (P :: Z) = false) :
    (termP 199 Z = .ok b (Q :: Es) → termP 200 (P :: Z) = .ok b Es) ∧ (∀ q, termP 199 Z = .err q 62 → termP 200 (P :: Z) = .err q 62) := by
  have e1 : ∀ c : List UInt8, c ≠ [40] → seesB (bs c) (P :: Z) = false := fun c hc => sees_not (.inr (by rw [hP.2]; exact fun e => hc e.symm))
  have e2 : seesB (bs [40]) (P :: Z) = true := by
    show (P.kind == 2 && (P.text.toList == (bs [40]).toList)) = true
    rw [hP.1, hP.2, bs_toList]
    rfl
  have e3 : isName (P :: Z) = false := by
    show (P.kind == 1) = false
    rw [hP.1]
    rfl
  have f1 : ∀ c : List UInt8, c ≠ [41] → seesB (bs c) (Q :: Es) = false := fun c hc => sees_not (.inr (by rw [hQ.2]; exact fun e => hc e.symm))
  have f2 : seesB (bs [41]) (Q :: Es) = true := by
    show (Q.kind == 2 && (Q.text.toList == (bs [41]).toList)) = true
    rw [hQ.1, hQ.2, bs_toList]
    rfl
  have key : termP 200 (P :: Z) = (atomP (termP 199) (P :: Z)).bind fun x r => afterL (dimP 199) (termP 199) rounds x r := by
    show termBody (dimP 199) (termP 199) (P :: Z) = _
    unfold termBody
    rw [e1 _ (by decide), e1 _ (by decide), hb]
    rfl
  have hw : wantP (bs [40]) (P :: Z) = .ok () Z := by
    unfold wantP
    rw [e2]
    rfl
  constructor
  · intro h
    have hat : atomP (termP 199) (P :: Z) = .ok b Es := by
      unfold atomP
      rw [e3, e1 _ (by decide), hw]
      simp only [Bool.false_eq_true, if_false, PR.ok_bind, h]
      unfold pairP
      rw [f1 _ (by decide), f1 _ (by decide)]
      simp only [Bool.false_eq_true, if_false, PR.ok_bind]
      unfold wantP
      rw [f2]
      rfl
    rw [key, hat, PR.ok_bind]
    have hr : rounds = 1999999 + 1 := rfl
    rw [hr]
    have g : arrowP Es = 0 := by
      unfold arrowP
      rw [hE.ns [45, 62] (by simp), hE.ns [42] (by simp)]
      rfl
    exact afterL_stop (hE.ns [64] (by simp)) hE.nn (hE.ns [40] (by simp)) (hE.ns [91] (by simp)) g
  · intro q h
    rw [key]
    have hat : atomP (termP 199) (P :: Z) = .err q 62 := by
      unfold atomP
      rw [e3, e1 _ (by decide), hw]
      simp only [Bool.false_eq_true, if_false, PR.ok_bind, h, PR.err_bind]
    rw [hat, PR.err_bind]

theorem stop_sh {E : List Tok} {k : Int} (h : Stop E) : Stop (shl k E) := by
  obtain ⟨⟨t, r, rfl, h1⟩, h2, h3⟩ := h
  exact ⟨⟨t.sh k, shl k r, rfl, h1⟩, h2, fun x hx => h3 x hx⟩
theorem endTok0 (b : Int) (Y : List Tok) : EndTok (⟨0, bsL [], b⟩ :: Y) := ⟨_, Y, rfl, rfl, by rw [Lib.toList_data, Lib.toList_data]; rfl⟩
theorem stop0 (b : Int) (Y : List Tok) : Stop (⟨0, bsL [], b⟩ :: Y) := stop_end rfl (by rw [Lib.toList_data, Lib.toList_data]; rfl)
theorem sign_sees (c : List UInt8) (b : Int) (Y : List Tok) : seesB (bs c) (⟨2, bsL c, b⟩ :: Y) = true := by
  show ((2 : Int) == 2 && ((bs c).toList == (bs c).toList)) = true
  simp

/-- What stands in more brackets. -/
theorem brackets_law {l : List UInt8} {a : T} (hl : l.length ≤ 60000) (h : readTop (termP 200) l = .ok a) : (∃ q, readTop (termP 200) (inBr l) = .bad q 62) ∨ readTop (termP 200) (inBr l) = .ok (a.sh 1) := by
  obtain ⟨_, hu, ts0, hf, hne, hs, hp⟩ := term_all h
  have hsc := scan_br hl hu hf
  generalize hQ : ((l.length + 1 : Nat) : Int) = q1 at hsc
  generalize hE : ((l.length + 2 : Nat) : Int) = e1 at hsc
  have hend : endT (inBr l) = (⟨0, bsL [], e1⟩ : Tok).sh 1 := by
    have hlen : (inBr l).length = l.length + 3 := by unfold inBr; simp
    simp only [endT, Tok.sh, hlen]
    congr 1
    omega
  have htoks : (⟨2, bsL [40], 0⟩ :: shl 1 (ts0 ++ [⟨2, bsL [41], q1⟩, ⟨0, bsL [], e1⟩]) : List Tok) ++ [endT (inBr l), endT (inBr l)] = ⟨2, bsL [40], 0⟩ :: shl 1 (ts0 ++ ⟨2, bsL [41], q1⟩ :: [⟨0, bsL [], e1⟩, ⟨0, bsL [], e1⟩, ⟨0, bsL [], e1⟩]) := by
    rw [hend]
    simp [shl]
  have hread : readTop (termP 200) (inBr l) = restTop (termP 200 (⟨2, bsL [40], 0⟩ :: shl 1 (ts0 ++ ⟨2, bsL [41], q1⟩ :: [⟨0, bsL [], e1⟩, ⟨0, bsL [], e1⟩, ⟨0, bsL [], e1⟩]))) := by
    unfold readTop
    rw [hsc]
    simp only
    rw [htoks]
  rw [hread]
  have hst := termP_stop (d' := 199) (E' := ⟨2, bsL [41], q1⟩ :: [⟨0, bsL [], e1⟩, ⟨0, bsL [], e1⟩, ⟨0, bsL [], e1⟩]) (stop_endT l _) (stop_sign (sign_sees [41] q1 _) (.inr (.inr rfl))) hp
  have hnt := termP_nt (X := [⟨0, bsL [], e1⟩, ⟨0, bsL [], e1⟩, ⟨0, bsL [], e1⟩]) (k := 1) 199 (ts0 ++ ⟨2, bsL [41], q1⟩ :: [⟨0, bsL [], e1⟩, ⟨0, bsL [], e1⟩, ⟨0, bsL [], e1⟩]) ⟨endTok0 _ _, ts0 ++ [⟨2, bsL [41], q1⟩], by simp⟩ trivial
  -- no name and a colon
  have hb : bindsP (⟨2, bsL [40], 0⟩ :: shl 1 (ts0 ++ ⟨2, bsL [41], q1⟩ :: [⟨0, bsL [], e1⟩, ⟨0, bsL [], e1⟩, ⟨0, bsL [], e1⟩])) = false := by
    have hk := (scanFrom_toks l 0).1.kind
    rw [hf] at hk
    match ts0, hne, hp, hk with
    | [x], _, _, _ =>
      simp only [shl, List.cons_append, List.nil_append, List.map_cons, bindsP, Tok.sh]
      have : ((bsL [41]).toList == (bs [58]).toList) = false := by rw [Lib.toList_data, Lib.toList_data]; rfl
      rw [this]
      simp
    | x :: y :: r, _, hp, hk =>
      simp only [shl, List.cons_append, List.map_cons, bindsP, Tok.sh]
      by_cases hx : x.kind = 1
      · cases hyt : (y.text.toList == (bs [58]).toList) with
        | false => simp
        | true =>
          exfalso
          have hyk : y.kind = 2 := by
            rcases hk y (by simp) with h1 | h1
            · rw [hyt] at h1
              cases h1.2
            · exact h1
          have := eq_of_beq hyt
          rw [bs_toList [58]] at this
          exact no_colon hx hyk this hp
      · have : (x.kind == 1) = false := by simpa using hx
        rw [this]
        simp
  have hbr := term_in_br (P := ⟨2, bsL [40], 0⟩) (Q := (⟨2, bsL [41], q1⟩ : Tok).sh 1) (Z := shl 1 (ts0 ++ ⟨2, bsL [41], q1⟩ :: [⟨0, bsL [], e1⟩, ⟨0, bsL [], e1⟩, ⟨0, bsL [], e1⟩])) (Es := shl 1 [⟨0, bsL [], e1⟩, ⟨0, bsL [], e1⟩, ⟨0, bsL [], e1⟩]) (b := a.sh 1)
    ⟨rfl, bs_toList [40]⟩ ⟨rfl, bs_toList [41]⟩ (stop_sh (stop0 _ _)) hb
  rcases hst with hst | ⟨q, hst⟩
  · rw [hst] at hnt
    right
    rw [hbr.1 hnt.1]
    rfl
  · rw [hst] at hnt
    left
    exact ⟨q + 1, by rw [hbr.2 _ hnt.1]; rfl⟩

theorem term_U (p q r : Int) : termP 200 [⟨1, bsL [85], p⟩, ⟨2, bsL [59], q⟩, ⟨0, bsL [], r⟩, ⟨0, bsL [], r⟩, ⟨0, bsL [], r⟩] = .ok (.mk 1 (bsL [85]) [] [] p) [⟨2, bsL [59], q⟩, ⟨0, bsL [], r⟩, ⟨0, bsL [], r⟩, ⟨0, bsL [], r⟩] := by
  kernel_rfl

/-- A term with a declaration around it. -/
theorem decl_law {l : List UInt8} {a : T} (hl : l.length ≤ 60000) (h : readTop (termP 200) l = .ok a) : ∃ u : T, readTop (declsL rounds []) (inDecl l) = .ok [.mk 18 (bsL [120]) [a.sh 4, u] [] 0] ∧ u.sz = 1 := by
  obtain ⟨_, hu, ts0, hf, hne, hs, hp⟩ := term_all h
  have hsc := scan_decl hl hu hf
  generalize hQ : ((l.length + 1 : Nat) : Int) = q1 at hsc
  generalize hU : ((l.length + 3 : Nat) : Int) = u1 at hsc
  generalize hS : ((l.length + 4 : Nat) : Int) = s1 at hsc
  generalize hE : ((l.length + 5 : Nat) : Int) = e1 at hsc
  have hend : endT (inDecl l) = (⟨0, bsL [], e1⟩ : Tok).sh 4 := by
    have hlen : (inDecl l).length = l.length + 9 := by unfold inDecl; simp
    simp only [endT, Tok.sh, hlen]
    congr 1
    omega
  generalize hX : ([⟨2, bsL [61], q1⟩, ⟨1, bsL [85], u1⟩, ⟨2, bsL [59], s1⟩, ⟨0, bsL [], e1⟩, ⟨0, bsL [], e1⟩, ⟨0, bsL [], e1⟩] : List Tok) = X
  have htoks : (⟨1, bsL [120], 0⟩ :: ⟨2, bsL [58], 2⟩ :: shl 4 (ts0 ++ [⟨2, bsL [61], q1⟩, ⟨1, bsL [85], u1⟩, ⟨2, bsL [59], s1⟩, ⟨0, bsL [], e1⟩]) : List Tok) ++ [endT (inDecl l), endT (inDecl l)] = ⟨1, bsL [120], 0⟩ :: ⟨2, bsL [58], 2⟩ :: shl 4 (ts0 ++ X) := by
    rw [hend, ← hX]
    simp [shl]
  have hread : readTop (declsL rounds []) (inDecl l) = restTop (declsL rounds [] (⟨1, bsL [120], 0⟩ :: ⟨2, bsL [58], 2⟩ :: shl 4 (ts0 ++ X))) := by
    unfold readTop
    rw [hsc]
    simp only
    rw [htoks]
  have hst : termP 200 (ts0 ++ X) = .ok a X := termP_stop_self (stop_endT l _) (by rw [← hX]; exact stop_sign (sign_sees [61] q1 _) (.inl rfl)) hp
  have hnt := termP_nt (X := [⟨0, bsL [], e1⟩, ⟨0, bsL [], e1⟩, ⟨0, bsL [], e1⟩]) (k := 4) 200 (ts0 ++ X) ⟨endTok0 _ _, ts0 ++ [⟨2, bsL [61], q1⟩, ⟨1, bsL [85], u1⟩, ⟨2, bsL [59], s1⟩], by rw [← hX]; simp⟩ trivial
  rw [hst] at hnt
  have hT : termP 200 (shl 4 (ts0 ++ X)) = .ok (a.sh 4) (shl 4 X) := hnt.1
  have hU2 : shl 4 X = ⟨2, bsL [61], q1 + 4⟩ :: [⟨1, bsL [85], u1 + 4⟩, ⟨2, bsL [59], s1 + 4⟩, ⟨0, bsL [], e1 + 4⟩, ⟨0, bsL [], e1 + 4⟩, ⟨0, bsL [], e1 + 4⟩] := by rw [← hX]; rfl
  have hd : declP (⟨1, bsL [120], 0⟩ :: ⟨2, bsL [58], 2⟩ :: shl 4 (ts0 ++ X)) = .ok (.mk 18 (bsL [120]) [a.sh 4, .mk 1 (bsL [85]) [] [] (u1 + 4)] [] 0) [⟨0, bsL [], e1 + 4⟩, ⟨0, bsL [], e1 + 4⟩, ⟨0, bsL [], e1 + 4⟩] := by
    unfold declP
    have k1 : nameP (⟨1, bsL [120], 0⟩ :: ⟨2, bsL [58], 2⟩ :: shl 4 (ts0 ++ X)) = .ok (bsL [120]) (⟨2, bsL [58], 2⟩ :: shl 4 (ts0 ++ X)) := rfl
    have k2 : ∀ (c : List UInt8) (b : Int) (Y : List Tok), wantP (bs c) (⟨2, bsL c, b⟩ :: Y) = .ok () Y := by
      intro c b Y
      unfold wantP
      rw [sign_sees]
      rfl
    rw [k1, PR.ok_bind, k2, PR.ok_bind, hT, PR.ok_bind, hU2, k2, PR.ok_bind, term_U, PR.ok_bind, k2, PR.ok_bind]
    rfl
  refine ⟨.mk 1 (bsL [85]) [] [] (u1 + 4), ?_, by simp only [T.sz, T.szs, List.length_nil]⟩
  rw [hread]
  have hr : rounds = 1999998 + 1 + 1 := rfl
  rw [hr]
  have hk1 : ¬ (((1 : Int) == 0) = true) := by decide
  have hk0 : (((0 : Int) == 0) = true) := by decide
  have hdd : declsL (1999998 + 1 + 1) [] (⟨1, bsL [120], 0⟩ :: ⟨2, bsL [58], 2⟩ :: shl 4 (ts0 ++ X)) = .ok [.mk 18 (bsL [120]) [a.sh 4, .mk 1 (bsL [85]) [] [] (u1 + 4)] [] 0] [⟨0, bsL [], e1 + 4⟩, ⟨0, bsL [], e1 + 4⟩, ⟨0, bsL [], e1 + 4⟩] := by
    rw [declsL]
    simp only
    rw [if_neg hk1, hd, PR.ok_bind, declsL]
    simp only
    rw [if_pos hk0]
    rfl
  rw [hdd]
  rfl

end Go.Abs
