/-
  A program logic over the model: blocks, calls, loops, drawn regions. No statement of the seat is proved here.
-/
import Derived.Test.YtamkldohfhidiaaDoorAbs1
import Derived.Deep.AppendSrc
namespace Go.Abs
open Go

inductive Out where
  | ret (x : SV)
  | panic (x : AV)

def RelOut (w : World) (ok : Nat → Nat) (g : List Value) (bx : List Box) : Out → Ending → Prop
  | .ret x, e => ∃ v, e = .returned v ∧ RepS w ok g bx x v
  | .panic x, e => ∃ u, e = .panicked [{ v := u, recovered := false }] ∧ Rep w ok x u

/-- What a call of a function comes to. -/
def ACalls (P : Program) (G : Glob) (f : FuncId) (args : List SV) (bx : List Box) (R : Out → List Box → Prop) : Prop :=
  ∀ w ok g vs, RelW G ⟨w, ok, g, bx⟩ w ok g bx → RepSs w ok g bx args vs →
    Calls P f vs.toArray w fun e w' => ∃ out ok' g' bx', RelW G ⟨w, ok, g, bx⟩ w' ok' g' bx' ∧ RelOut w' ok' g' bx' out e ∧ R out bx'

theorem ACalls.mono {P : Program} {G : Glob} {f : FuncId} {args : List SV} {bx : List Box} {R R' : Out → List Box → Prop} (h : ACalls P G f args bx R) (hr : ∀ o b, R o b → R' o b) :
    ACalls P G f args bx R' := by
  intro w ok g vs h1 h2
  refine (h w ok g vs h1 h2).mono ?_
  rintro e w' ⟨out, ok', g', bx', h3, h4, h5⟩
  exact ⟨out, ok', g', bx', h3, h4, hr _ _ h5⟩

/-- The number that a callee's box has at its caller. -/
def rn (σ : List Nat) (n : Nat) (k : Nat) : Nat := if h : k < σ.length then σ[k] else n + (k - σ.length)

theorem rn_lt {σ : List Nat} {n k : Nat} (h : k < σ.length) : rn σ n k = σ[k] := by unfold rn; rw [dif_pos h]
theorem rn_ge {σ : List Nat} {n k : Nat} (h : σ.length ≤ k) : rn σ n k = n + (k - σ.length) := by unfold rn; rw [dif_neg (by omega)]

/-- Where a caller's box stands among a callee's. -/
def place (σ : List Nat) (i : Nat) : Option Nat := σ.idxOf? i

def mergeAt {α : Type} (σ : List Nat) (old new : List α) : List α :=
  old.mapIdx (fun i x => match σ.idxOf? i with | some k => new.getD k x | none => x) ++ new.drop σ.length

theorem idxOf_some {σ : List Nat} {i k : Nat} (h : σ.idxOf? i = some k) : σ[k]? = some i := by
  rw [List.idxOf?, List.findIdx?_eq_some_iff_getElem] at h
  obtain ⟨h1, h2, _⟩ := h
  rw [List.getElem?_eq_getElem h1]
  simpa using h2

theorem idxOf_none {σ : List Nat} {i : Nat} (h : σ.idxOf? i = none) : i ∉ σ := by
  rw [List.idxOf?, List.findIdx?_eq_none_iff] at h
  intro hi
  have := h i hi
  simp at this

theorem idxOf_get {σ : List Nat} (hn : σ.Nodup) {k : Nat} (h : k < σ.length) : σ.idxOf? σ[k] = some k := by
  cases e : σ.idxOf? σ[k] with
  | none => exact (idxOf_none e (List.getElem_mem h)).elim
  | some j =>
    have h1 := idxOf_some e
    have h2 : σ[k]? = some σ[k] := List.getElem?_eq_getElem h
    have h3 := (List.getElem?_inj (List.getElem?_eq_some_iff.1 h1).1 hn).1 (h1.trans h2.symm)
    rw [h3]

theorem mergeAt_old {α : Type} {σ : List Nat} {old new : List α} {i : Nat} (hi : i < old.length) (h : σ.idxOf? i = none) : (mergeAt σ old new)[i]? = old[i]? := by
  unfold mergeAt
  rw [List.getElem?_append_left (by simpa using hi), List.getElem?_mapIdx, List.getElem?_eq_getElem hi]
  simp [h]

theorem mergeAt_at {α : Type} {σ : List Nat} {old new : List α} (hn : σ.Nodup) {k : Nat} (hk : k < σ.length) (hσ : σ[k] < old.length) (hl : σ.length ≤ new.length) : (mergeAt σ old new)[σ[k]]? = new[k]? := by
  unfold mergeAt
  rw [List.getElem?_append_left (by simpa using hσ), List.getElem?_mapIdx, List.getElem?_eq_getElem hσ, idxOf_get hn hk]
  have : k < new.length := by omega
  simp [List.getElem?_eq_getElem this, List.getD_eq_getElem?_getD]

theorem mergeAt_new {α : Type} {σ : List Nat} {old new : List α} (k : Nat) : (mergeAt σ old new)[old.length + k]? = new[σ.length + k]? := by
  unfold mergeAt
  rw [List.getElem?_append_right (by simp)]
  simp

theorem mergeAt_length {α : Type} {σ : List Nat} {old new : List α} : (mergeAt σ old new).length = old.length + (new.length - σ.length) := by
  unfold mergeAt
  simp

theorem kind_map {x : Option Box} (r : Nat → Nat) : kindEq x (x.map (Box.ren r)) := by
  cases x with
  | none => rfl
  | some b => cases b <;> simp [kindEq, Box.ren]

theorem blk_kind {g g' : List Value} {bx bx' : List Box} {i j : Nat} (h : kindEq (bx[i]?) (bx'[j]?)) (hv : g'[j]? = g[i]?) : blk g' bx' j = blk g bx i := by
  unfold blk
  rw [hv]
  cases e0 : bx[i]? with
  | none =>
    rw [e0] at h
    simp only [kindEq] at h
    rw [h]
  | some b0 =>
    rw [e0] at h
    cases b0 with
    | cells cs =>
      obtain ⟨cs', e1⟩ := h
      rw [e1]
      rcases g[i]? with _ | v
      · rfl
      · cases v with
        | pointer a => cases a <;> rfl
        | _ => rfl
    | acc s hw =>
      simp only [kindEq] at h
      rw [h]
    | dead =>
      simp only [kindEq] at h
      rw [h]

theorem Later.kind {b b0 b1 b2 : Option Box} {v v' : Option Value} (h : Later b0 v b1 v') (h0 : kindEq b0 b) (h1 : kindEq b1 b2) : Later b v b2 v' := by
  unfold Later at h ⊢
  unfold kindEq at h0 h1
  cases b0 with
  | none => simp only at h0; subst h0; exact h
  | some b0 =>
    cases b0 with
    | dead =>
      simp only at h0
      subst h0
      obtain ⟨rfl, rfl⟩ := h
      exact ⟨h1, rfl⟩
    | cells cs =>
      simp only at h0
      obtain ⟨cs', rfl⟩ := h0
      obtain ⟨rfl, ⟨cs2, rfl⟩ | rfl⟩ := h
      · exact ⟨rfl, .inl h1⟩
      · exact ⟨rfl, .inr h1⟩
    | acc s hw =>
      simp only at h0
      subst h0
      rcases h with ⟨hw', rfl, h2⟩ | rfl
      · exact .inl ⟨hw', h1, h2⟩
      · exact .inr h1

/-- A call's boxes are put back among its caller's. -/
theorem RelW.merge {G : Glob} {B : Base} {w w' : World} {ok ok' : Nat → Nat} {g g0 g1 : List Value} {bx bx0 bx1 : List Box} {σ : List Nat} (h : RelW G B w ok g bx)
    (hn : σ.Nodup) (hlt : ∀ i ∈ σ, i < bx.length) (_hg0 : g0.length = σ.length) (hbl : bx0.length = σ.length) (hc : Corr (rn σ bx.length) g0 bx0 g bx)
    (h1 : RelW G ⟨w, ok, g0, bx0⟩ w' ok' g1 bx1) :
    RelW G B w' ok' (mergeAt σ g g1) (mergeAt σ bx (bx1.map (Box.ren (rn σ bx.length)))) ∧ Corr (rn σ bx.length) g1 bx1 (mergeAt σ g g1) (mergeAt σ bx (bx1.map (Box.ren (rn σ bx.length)))) ∧
      Laters g bx (mergeAt σ g g1) (mergeAt σ bx (bx1.map (Box.ren (rn σ bx.length)))) := by
  have hlen : σ.length ≤ bx1.length := by rw [← hbl]; exact h1.len_le
  have hlg : g1.length = bx1.length := h1.boxes.len
  have hgl : g.length = bx.length := h.boxes.len
  have hb1l : σ.length ≤ (bx1.map (Box.ren (rn σ bx.length))).length := by simpa using hlen
  have key : ∀ k, (mergeAt σ bx (bx1.map (Box.ren (rn σ bx.length))))[rn σ bx.length k]? = (bx1[k]?).map (Box.ren (rn σ bx.length)) ∧ (mergeAt σ g g1)[rn σ bx.length k]? = g1[k]? := by
    intro k
    rcases Nat.lt_or_ge k σ.length with hk | hk
    · rw [rn_lt hk]
      have h2 := hlt _ (List.getElem_mem hk)
      rw [mergeAt_at hn hk h2 hb1l, mergeAt_at hn hk (by rw [hgl]; exact h2) (by rw [hlg]; exact hlen), List.getElem?_map]
      exact ⟨rfl, rfl⟩
    · rw [rn_ge hk, mergeAt_new]
      have e : (mergeAt σ g g1)[bx.length + (k - σ.length)]? = g1[σ.length + (k - σ.length)]? := by rw [← hgl]; exact mergeAt_new _
      rw [e, List.getElem?_map, show σ.length + (k - σ.length) = k by omega]
      exact ⟨rfl, rfl⟩
  have hcorr : Corr (rn σ bx.length) g1 bx1 (mergeAt σ g g1) (mergeAt σ bx (bx1.map (Box.ren (rn σ bx.length)))) := by
    intro k
    obtain ⟨k1, k2⟩ := key k
    rw [k1, k2]
    exact ⟨rfl, kind_map _⟩
  -- every number below is a callee's box, or is let alone
  have split : ∀ i, i < (mergeAt σ bx (bx1.map (Box.ren (rn σ bx.length)))).length → (∃ k, i = rn σ bx.length k ∧ k < bx1.length) ∨ (i < bx.length ∧ σ.idxOf? i = none) := by
    intro i hi
    rw [mergeAt_length, List.length_map] at hi
    rcases Nat.lt_or_ge i bx.length with hlt' | hge
    · cases e : σ.idxOf? i with
      | none => exact .inr ⟨hlt', rfl⟩
      | some k =>
        have h2 := idxOf_some e
        obtain ⟨h3, h4⟩ := List.getElem?_eq_some_iff.1 h2
        exact .inl ⟨k, by rw [rn_lt h3, h4], by omega⟩
    · exact .inl ⟨σ.length + (i - bx.length), by rw [rn_ge (by omega)]; omega, by omega⟩
  have old : ∀ i, i < bx.length → σ.idxOf? i = none → (mergeAt σ bx (bx1.map (Box.ren (rn σ bx.length))))[i]? = bx[i]? ∧ (mergeAt σ g g1)[i]? = g[i]? := by
    intro i hi e
    exact ⟨mergeAt_old hi e, mergeAt_old (by rw [hgl]; exact hi) e⟩
  have hl : Laters g bx (mergeAt σ g g1) (mergeAt σ bx (bx1.map (Box.ren (rn σ bx.length)))) := by
    intro i
    rcases Nat.lt_or_ge i bx.length with hi | hi
    · rcases split i (by rw [mergeAt_length]; omega) with ⟨k, rfl, hk⟩ | ⟨_, e⟩
      · obtain ⟨c1, c2⟩ := hc k
        obtain ⟨d1, d2⟩ := hcorr k
        rcases Nat.lt_or_ge k bx0.length with hk0 | hk0
        · have h2 : Later bx0[k]? g0[k]? bx1[k]? g1[k]? := h1.ids k hk0
          rw [c1, d1]
          exact h2.kind c2 d2
        · rw [rn_ge (by omega)] at hi
          omega
      · obtain ⟨e1, e2⟩ := old i hi e
        rw [e1, e2]
        exact Laters.refl h.boxes.len i
    · rw [List.getElem?_eq_none_iff.2 hi]
      simp only [Later]
      rw [List.getElem?_eq_none_iff]
      omega
  have hx : Ext w ok w' ok' := h1.ext
  have blk0 : ∀ k b, blk g0 bx0 k = some b → blk g bx (rn σ bx.length k) = some b := by
    intro k b hb
    rw [blk_kind (hc k).2 (hc k).1]
    exact hb
  have blk1 : ∀ k b, blk (mergeAt σ g g1) (mergeAt σ bx (bx1.map (Box.ren (rn σ bx.length)))) (rn σ bx.length k) = some b → blk g1 bx1 k = some b := by
    intro k b hb
    rw [blk_kind (hcorr k).2 (hcorr k).1] at hb
    exact hb
  have blkOld : ∀ i b, i < bx.length → σ.idxOf? i = none → blk (mergeAt σ g g1) (mergeAt σ bx (bx1.map (Box.ren (rn σ bx.length)))) i = some b → blk g bx i = some b := by
    intro i b hi e hb
    obtain ⟨e1, e2⟩ := old i hi e
    unfold blk at hb ⊢
    rw [e1, e2] at hb
    exact hb
  have blk_len : ∀ i b, blk (mergeAt σ g g1) (mergeAt σ bx (bx1.map (Box.ren (rn σ bx.length)))) i = some b → i < (mergeAt σ bx (bx1.map (Box.ren (rn σ bx.length)))).length := by
    intro i b hb
    apply Classical.byContradiction
    intro hh
    unfold blk at hb
    rw [List.getElem?_eq_none_iff.2 (by omega : (mergeAt σ bx (bx1.map (Box.ren (rn σ bx.length)))).length ≤ i)] at hb
    cases hb
  -- a block that the caller keeps to itself is none of the callee's
  have alone : ∀ i b, i < bx.length → σ.idxOf? i = none → blk g bx i = some b → ∀ k, blk g0 bx0 k ≠ some b := by
    intro i b hi e hb k hk
    have h2 := h.boxes.apart i _ b hb (blk0 k b hk)
    rcases Nat.lt_or_ge k σ.length with hk1 | hk1
    · rw [rn_lt hk1] at h2
      exact idxOf_none e (h2 ▸ List.getElem_mem hk1)
    · unfold blk at hk
      rw [List.getElem?_eq_none_iff.2 (by omega : bx0.length ≤ k)] at hk
      cases hk
  refine ⟨h.step hx (fun i _ => hl i) h1.size ?_ ?_ h1.wf h1.rest h.len_le ?_, hcorr, hl⟩
  · intro b hb hnone
    exact h1.keep b hb (fun k hk => hnone _ (blk0 k b hk))
  · intro i b hi
    rcases split i (blk_len i b hi) with ⟨k, rfl, hk⟩ | ⟨h2, h3⟩
    · rcases h1.dom k b (blk1 k b hi) with ⟨j, hj⟩ | hj
      · exact .inl ⟨_, blk0 j b hj⟩
      · exact .inr hj
    · exact .inl ⟨i, blkOld i b h2 h3 hi⟩
  · exact
    { len := by
        rw [mergeAt_length, mergeAt_length, List.length_map]
        omega
      cells := fun i cs hi => by
        rcases split i (List.getElem?_eq_some_iff.1 hi).1 with ⟨k, rfl, hk⟩ | ⟨h2, h3⟩
        · obtain ⟨k1, k2⟩ := key k
          rw [k1] at hi
          rw [k2]
          cases e0 : bx1[k]? with
          | none => rw [e0] at hi; cases hi
          | some b0 =>
            rw [e0] at hi
            cases b0 with
            | cells cs0 =>
              simp only [Option.map_some, Box.ren, Option.some.injEq, Box.cells.injEq] at hi
              subst hi
              obtain ⟨b, arr, E, f1, f2, f3, f4⟩ := h1.boxes.cells k cs0 e0
              exact ⟨b, arr, E, f1, f2, f3, (RepSs.ren hcorr _ _).2 f4⟩
            | acc s hw => simp [Box.ren] at hi
            | dead => simp [Box.ren] at hi
        · obtain ⟨e1, e2⟩ := old i h2 h3
          rw [e1] at hi
          rw [e2]
          obtain ⟨b, arr, E, f1, f2, f3, f4⟩ := h.boxes.cells i cs hi
          have hb : blk g bx i = some b := by unfold blk; rw [hi, f1]
          have hlt2 : b < w.heap.size := (Array.getElem?_eq_some_iff.1 f2).1
          have hk := h1.keep b hlt2 (alone i b h2 h3 hb)
          exact ⟨b, arr, E, f1, hk.1.trans f2, hk.2.trans f3, RepSs.later hx hl _ _ f4⟩
      acc := fun i size hw hi => by
        rcases split i (List.getElem?_eq_some_iff.1 hi).1 with ⟨k, rfl, hk⟩ | ⟨h2, h3⟩
        · obtain ⟨k1, k2⟩ := key k
          rw [k1] at hi
          rw [k2]
          cases e0 : bx1[k]? with
          | none => rw [e0] at hi; cases hi
          | some b0 =>
            rw [e0] at hi
            cases b0 with
            | cells cs0 => simp [Box.ren] at hi
            | acc s hw' =>
              simp only [Option.map_some, Box.ren, Option.some.injEq, Box.acc.injEq] at hi
              obtain ⟨rfl, rfl⟩ := hi
              exact h1.boxes.acc k _ _ e0
            | dead => simp [Box.ren] at hi
        · obtain ⟨e1, e2⟩ := old i h2 h3
          rw [e1] at hi
          rw [e2]
          obtain ⟨p, cap, f1, f2, f3⟩ := h.boxes.acc i size hw hi
          refine ⟨p, cap, f1, f2, ?_⟩
          by_cases hcap : cap = hw
          · exact .inl hcap
          · rcases f3 with f3 | ⟨b, arr, E, f4, f5, f6, f7⟩
            · exact (hcap f3).elim
            · have hb : blk g bx i = some b := by unfold blk; rw [hi, f1, f4]; simp only [if_neg hcap]
              have hlt2 : b < w.heap.size := (Array.getElem?_eq_some_iff.1 f5).1
              have hk := h1.keep b hlt2 (alone i b h2 h3 hb)
              exact .inr ⟨b, arr, E, f4, hk.1.trans f5, f6, hk.2.trans f7⟩
      apart := fun i j b hi hj => by
        rcases split i (blk_len i b hi) with ⟨k, rfl, hk⟩ | ⟨h2, h3⟩
        · rcases split j (blk_len j b hj) with ⟨k', rfl, hk'⟩ | ⟨h4, h5⟩
          · rw [h1.boxes.apart k k' b (blk1 k b hi) (blk1 k' b hj)]
          · exfalso
            have hb := blkOld j b h4 h5 hj
            rcases h1.dom k b (blk1 k b hi) with ⟨m, hm⟩ | hm
            · exact alone j b h4 h5 hb m hm
            · have := h.boxes.blk_lt hb
              exact Nat.lt_irrefl _ (Nat.lt_of_lt_of_le this hm)
        · have hb := blkOld i b h2 h3 hi
          rcases split j (blk_len j b hj) with ⟨k', rfl, hk'⟩ | ⟨h4, h5⟩
          · exfalso
            rcases h1.dom k' b (blk1 k' b hj) with ⟨m, hm⟩ | hm
            · exact alone i b h2 h3 hb m hm
            · have := h.boxes.blk_lt hb
              exact Nat.lt_irrefl _ (Nat.lt_of_lt_of_le this hm)
          · exact h.boxes.apart i j b hb (blkOld j b h4 h5 hj) }

end Go.Abs

namespace Go.Abs
open Go

def putF (d : Option Tmp) (x : SV) (fr : Fr) : Fr :=
  match d with
  | some t => (t, x) :: fr
  | none => fr

def dstOk (N : Nat) (d : Option Tmp) : Bool :=
  match d with
  | some t => Nat.blt t N
  | none => true

def Callable (P : Program) (f : FuncId) : Prop := ∃ fn, P.funcs[f]? = some fn ∧ (fn.name == "runtime.NumGoroutine") = false ∧ fn.body.isSome = true

section
variable {P : Program} {G : Glob} {N : Nat} {fr : Fr} {bx bx' : List Box} {ops : Array Oper} {K : Ex → Fr → List Box → Prop} {rest : List Nat}

theorem RelF.step {w w' : World} {ok ok' : Nat → Nat} {g g' : List Value} {a : Act} {ds : List Deferred} (hf : RelF G w ok g bx fr a N ds) (hx : Ext w ok w' ok') (hl : Laters g bx g' bx') :
    RelF G w' ok' g' bx' fr a N ds :=
  ⟨hf.size, fun t => RepS.later hx hl _ _ (hf.tmps t), hf.defers⟩

theorem RelF.put {w : World} {ok : Nat → Nat} {g : List Value} {a : Act} {ds : List Deferred} (hf : RelF G w ok g bx fr a N ds) {d : Option Tmp} (hd : dstOk N d = true) {x : SV} {v : Value}
    (hx : RepS w ok g bx x v) : RelF G w ok g bx (putF d x fr) (a.put d v) N ds := by
  cases d with
  | none => exact hf
  | some t =>
    have ht : t < N := Nat.le_of_ble_eq_true hd
    refine ⟨by simp [Act.put, hf.size], fun s => ?_, hf.defers⟩
    simp only [putF, look, Act.put]
    cases e : Nat.beq t s with
    | true =>
      rw [cond_true]
      have e := Nat.eq_of_beq_eq_true e
      subst e
      have : t < a.tmps.size := by rw [hf.size]; exact ht
      rw [Array.getD_eq_getD_getElem?, Array.getElem?_setIfInBounds_self_of_lt this]
      exact hx
    | false =>
      rw [cond_false]
      have e : t ≠ s := fun hh => by subst hh; rw [Nat.beq_refl] at e; cases e
      rw [Array.getD_eq_getD_getElem?, Array.getElem?_setIfInBounds_ne e, ← Array.getD_eq_getD_getElem?]
      exact hf.tmps s

/-- A plain operation. -/
theorem Reg.op {i : Nat} {o : Oper} {x : SV} (ho : ops[i]? = some o) (hg : o.guard = none) (hd : dstOk N o.dst = true) (hop : OpS P G o fr bx x bx')
    (h : Reg P G N ops K rest (putF o.dst x fr) bx') : Reg P G N ops K (i :: rest) fr bx := by
  intro B ds w a ok g hr hf
  obtain ⟨v, w', ok', g', h1, h2, h3, h4, h5⟩ := hop B w a ok g hr (fun y _ => hf.ev hr y)
  have h6 := h B ds w' _ ok' g' h2 ((hf.step h3 h4).put hd h5)
  rw [wpOps_cons]
  unfold wpOp
  simp only [ho, Region.wanted, hg, if_true]
  refine .inl ?_
  unfold Oper.wp
  rcases h1 with h1 | ⟨h1, rfl⟩
  · rw [h1]
    exact h6
  · rw [h1]
    exact h6

theorem wanted_of {i : Nat} {o : Oper} {j d : Nat} {want b : Bool} {oj : Oper} {w : World} {ok : Nat → Nat} {g : List Value} {a : Act} {ds : List Deferred} (hf : RelF G w ok g bx fr a N ds)
    (hg : o.guard = some (j, want)) (hj : ops[j]? = some oj) (hd : oj.dst = some d) (hb : look fr d = .d (.val (.bool b))) (_ : ops[i]? = some o) :
    Region.wanted o (yielded ops a.tmps) = (b == want) := by
  have h1 := hf.tmps d
  rw [hb] at h1
  simp only [RepS, Rep] at h1
  have h2 : a.tmps[d]? = some (.bool b) := by
    rw [Array.getD_eq_getD_getElem?] at h1
    cases e : a.tmps[d]? with
    | none => rw [e] at h1; cases h1
    | some v => rw [e] at h1; simp only [Option.getD_some] at h1; rw [h1]
  unfold Region.wanted
  simp only [hg]
  unfold yielded
  simp only [hj, Option.bind_some, hd, h2]
  cases b <;> cases want <;> rfl

/-- A guarded operation that is not wanted. -/
theorem Reg.unwanted {i : Nat} {o : Oper} {j d : Nat} {want b : Bool} {oj : Oper} (ho : ops[i]? = some o) (hg : o.guard = some (j, want)) (hj : ops[j]? = some oj) (hd : oj.dst = some d)
    (hb : look fr d = .d (.val (.bool b))) (hne : (b == want) = false) (hdst : dstOk N o.dst = true) (h : Reg P G N ops K rest (putF o.dst (.d .junk) fr) bx) : Reg P G N ops K (i :: rest) fr bx := by
  intro B ds w a ok g hr hf
  rw [wpOps_cons]
  unfold wpOp
  simp only [ho, wanted_of hf hg hj hd hb ho, hne]
  exact h B ds w _ ok g hr (hf.put hdst (by simp only [RepS, Rep]))

/-- A guarded operation that is wanted. -/
theorem Reg.wanted {i : Nat} {o : Oper} {j d : Nat} {want b : Bool} {oj : Oper} {x : SV} (ho : ops[i]? = some o) (hg : o.guard = some (j, want)) (hj : ops[j]? = some oj) (hd : oj.dst = some d)
    (hb : look fr d = .d (.val (.bool b))) (he : (b == want) = true) (hdst : dstOk N o.dst = true) (hop : OpS P G o fr bx x bx')
    (h : Reg P G N ops K rest (putF o.dst x fr) bx') : Reg P G N ops K (i :: rest) fr bx := by
  intro B ds w a ok g hr hf
  obtain ⟨v, w', ok', g', h1, h2, h3, h4, h5⟩ := hop B w a ok g hr (fun y _ => hf.ev hr y)
  have h6 := h B ds w' _ ok' g' h2 ((hf.step h3 h4).put hdst h5)
  rw [wpOps_cons]
  unfold wpOp
  simp only [ho, wanted_of hf hg hj hd hb ho, he, if_true]
  refine .inl ?_
  unfold Oper.wp
  rcases h1 with h1 | ⟨h1, rfl⟩
  · rw [h1]
    exact h6
  · rw [h1]
    exact h6

/-- An argument, as a callee takes it. -/
def argV (T : Tab) (t : TypeId) (x : SV) : SV :=
  match (match T.ti t with | some ⟨d, _, _, _⟩ => nilS T d x | none => x) with
  | .own _ s rows => .d (.sl s rows false)
  | y => y

def argsV (G : Glob) (T : Tab) (fr : Fr) : List Operand → List TypeId → List SV
  | x :: xs, t :: ts => argV T t (ev G fr x) :: argsV G T fr xs ts
  | x :: xs, [] => ev G fr x :: argsV G T fr xs []
  | [], _ => []

theorem argV_rep {T : Tab} (hT : T.Ok P) {t : TypeId} {w : World} {ok : Nat → Nat} {g : List Value} {x : SV} {v : Value} (h : RepS w ok g bx x v) : RepS w ok g bx (argV T t x) v := by
  have h1 : RepS w ok g bx (match T.ti t with | some ⟨d, _, _, _⟩ => nilS T d x | none => x) v := by
    split
    · exact nilS_rep hT h
    · exact h
  unfold argV
  generalize (match T.ti t with | some ⟨d, _, _, _⟩ => nilS T d x | none => x) = y at h1
  cases y <;> first | exact h1 | exact h1.1

theorem argsV_rep {T : Tab} (hT : T.Ok P) {w : World} {ok : Nat → Nat} {g : List Value} {a : Act} : ∀ {xs : List Operand} {ts : List TypeId}, (∀ y ∈ xs, RepS w ok g bx (ev G fr y) (a.eval y)) →
    RepSs w ok g bx (argsV G T fr xs ts) (xs.map a.eval)
  | [], _, _ => by simp only [argsV, List.map_nil, RepSs]
  | x :: xs, t :: ts, h => by
    simp only [argsV, List.map_cons, RepSs]
    exact ⟨_, _, rfl, argV_rep hT (h x (List.mem_cons_self ..)), argsV_rep hT (fun y hy => h y (List.mem_cons_of_mem _ hy))⟩
  | x :: xs, [], h => by
    simp only [argsV, List.map_cons, RepSs]
    exact ⟨_, _, rfl, h x (List.mem_cons_self ..), argsV_rep hT (fun y hy => h y (List.mem_cons_of_mem _ hy))⟩

theorem RepSs.append {w : World} {ok : Nat → Nat} {g : List Value} : ∀ {xs ys : List SV} {l m : List Value}, RepSs w ok g bx xs l → RepSs w ok g bx ys m → RepSs w ok g bx (xs ++ ys) (l ++ m)
  | [], ys, l, m, h1, h2 => by simp only [RepSs] at h1; subst h1; exact h2
  | x :: xs, ys, l, m, h1, h2 => by
    simp only [RepSs] at h1
    obtain ⟨v, r, rfl, h3, h4⟩ := h1
    simp only [List.cons_append, RepSs]
    exact ⟨v, _, rfl, h3, RepSs.append h4 h2⟩

/-- The call of a function, as an operation. -/
theorem run_call {o : Oper} {fo : Operand} {args : Array Operand} {ts : Array TypeId} (hop : o.op = .call ⟨.value fo, args, ts⟩) {a : Act} {f : FuncId} {cap : List Value} (hf : a.eval fo = .func (.func f) #[] cap.toArray)
    (hc : Callable P f) (w : World) : (execOp a.eval o).run P w = .ok (.enter f (args.toList.map a.eval ++ cap).toArray) w := by
  obtain ⟨fn, h1, h2, h3⟩ := hc
  have e : (args.map a.eval ++ cap.toArray) = (args.toList.map a.eval ++ cap).toArray := by
    rw [← List.append_toArray, ← Array.toList_map]
  have hb : fn.body ≠ none := fun hh => by rw [hh] at h3; cases h3
  have h2 : fn.name ≠ "runtime.NumGoroutine" := fun hh => by rw [hh] at h2; exact absurd h2 (by decide)
  unfold execOp
  simp only [hop, resolve, hf, Deferred.ofValue, invoke, callFunc]
  simp [h1, h2, hb, e]

/-- What the number is of a call's boxes. -/
def Picks (σ : List Nat) (bx bx0 : List Box) : Prop := σ.map (fun i => bx[i]?) = bx0.map (fun b => some (b.ren (rn σ bx.length)))

theorem Picks.sub {σ : List Nat} {bx0 : List Box} (h : Picks σ bx bx0) {B : Base} {w : World} {ok : Nat → Nat} {g : List Value} (hn : σ.Nodup) (hr : RelW G B w ok g bx) :
    ∃ g0 : List Value, g0.length = σ.length ∧ bx0.length = σ.length ∧ (∀ i ∈ σ, i < bx.length) ∧ Corr (rn σ bx.length) g0 bx0 g bx ∧ RelW G ⟨w, ok, g0, bx0⟩ w ok g0 bx0 := by
  have hlen : bx0.length = σ.length := by
    have := congrArg List.length h
    simpa using this.symm
  have hat : ∀ (k : Nat) (hk : k < σ.length), bx[σ[k]]? = (bx0[k]?).map (Box.ren (rn σ bx.length)) := by
    intro k hk
    have h1 := congrArg (fun l : List (Option Box) => l[k]?) h
    simp only [List.getElem?_map, List.getElem?_eq_getElem hk, Option.map_some] at h1
    have hk0 : k < bx0.length := by omega
    rw [List.getElem?_eq_getElem hk0] at h1 ⊢
    simpa using h1
  have hlt : ∀ i ∈ σ, i < bx.length := by
    intro i hi
    obtain ⟨k, hk, rfl⟩ := List.getElem_of_mem hi
    have h1 := hat k hk
    have hk0 : k < bx0.length := by omega
    rw [List.getElem?_eq_getElem hk0] at h1
    exact (List.getElem?_eq_some_iff.1 h1).1
  have hgl : g.length = bx.length := hr.boxes.len
  let g0 : List Value := σ.map (fun i => g.getD i undef)
  have hg0 : ∀ (k : Nat) (hk : k < σ.length), g0[k]? = g[σ[k]]? := by
    intro k hk
    have h2 := hlt _ (List.getElem_mem hk)
    rw [← hgl] at h2
    simp only [g0, List.getElem?_map, List.getElem?_eq_getElem hk, Option.map_some, List.getD_eq_getElem?_getD, List.getElem?_eq_getElem h2, Option.getD_some]
  have hc : Corr (rn σ bx.length) g0 bx0 g bx := by
    intro k
    rcases Nat.lt_or_ge k σ.length with hk | hk
    · rw [rn_lt hk, hat k hk, hg0 k hk]
      exact ⟨rfl, kind_map _⟩
    · rw [rn_ge hk, List.getElem?_eq_none_iff.2 (by omega : g.length ≤ bx.length + (k - σ.length)), List.getElem?_eq_none_iff.2 (by omega : bx.length ≤ bx.length + (k - σ.length)),
        List.getElem?_eq_none_iff.2 (by omega : bx0.length ≤ k), List.getElem?_eq_none_iff.2 (by simp [g0]; omega : g0.length ≤ k)]
      exact ⟨rfl, rfl⟩
  have hblk : ∀ k, blk g bx (rn σ bx.length k) = blk g0 bx0 k := fun k => blk_kind (hc k).2 (hc k).1
  refine ⟨g0, by simp [g0], hlen, hlt, hc, ?_⟩
  have hb : RelB w ok g0 bx0 :=
    { len := by simp [g0, hlen]
      cells := fun i cs hi => by
        have hi0 : i < σ.length := by have := (List.getElem?_eq_some_iff.1 hi).1; omega
        have h1 := hat i hi0
        rw [hi] at h1
        obtain ⟨b, arr, E, f1, f2, f3, f4⟩ := hr.boxes.cells σ[i] _ h1
        exact ⟨b, arr, E, by rw [hg0 i hi0]; exact f1, f2, f3, (RepSs.ren hc _ _).1 f4⟩
      acc := fun i size hw hi => by
        have hi0 : i < σ.length := by have := (List.getElem?_eq_some_iff.1 hi).1; omega
        have h1 := hat i hi0
        rw [hi] at h1
        rw [hg0 i hi0]
        exact hr.boxes.acc σ[i] size hw h1
      apart := fun i j b hi hj => by
        have hlt0 : ∀ k b, blk g0 bx0 k = some b → k < σ.length := by
          intro k b hk
          apply Classical.byContradiction
          intro hh
          unfold blk at hk
          rw [List.getElem?_eq_none_iff.2 (by omega : bx0.length ≤ k)] at hk
          cases hk
        have h1 := hlt0 i b hi
        have h2 := hlt0 j b hj
        rw [← hblk, rn_lt h1] at hi
        rw [← hblk, rn_lt h2] at hj
        have h3 := hr.boxes.apart _ _ b hi hj
        have h4 : σ[i]? = σ[j]? := by rw [List.getElem?_eq_getElem h1, List.getElem?_eq_getElem h2, h3]
        exact (List.getElem?_inj h1 hn).1 h4 }
  exact
  { size := Nat.le_refl _
    keep := fun _ _ _ => ⟨rfl, rfl⟩
    ext := Ext.refl _ _
    dom := fun i _ hi => .inl ⟨i, hi⟩
    wf := hr.wf
    rest := ⟨rfl, rfl, rfl⟩
    glob := hr.glob
    ids := fun i (hi : i < bx0.length) => Later.same _ _ (fun e => by rw [List.getElem?_eq_none_iff] at e; exact (Nat.not_le.2 hi e).elim)
    boxes := hb }

/-- What stands behind a call. -/
def afterCall (P : Program) (G : Glob) (N : Nat) (ops : Array Oper) (K : Ex → Fr → List Box → Prop) (rest : List Nat) (dst : Option Tmp) (fr : Fr) (r : Nat → Nat) (bx : List Box) : Out → Prop
  | .ret x => Reg P G N ops K rest (putF dst (x.ren r) fr) bx
  | .panic x => K (.panic x) fr bx

theorem Reg.call {T : Tab} (hT : T.Ok P) {i : Nat} {o : Oper} (σ : List Nat) {args0 : List SV} {bx0 : List Box} {R : Out → List Box → Prop} {fo : Operand} {args : Array Operand} {ts : Array TypeId} {f : FuncId} {cap : List SV}
    (hspec : ACalls P G f args0 bx0 R) (hcall : Callable P f)
    (ho : ops[i]? = some o) (hg : o.guard = none ∨ ∃ j want oj d b, o.guard = some (j, want) ∧ ops[j]? = some oj ∧ oj.dst = some d ∧ look fr d = .d (.val (.bool b)) ∧ (b == want) = true)
    (hd : dstOk N o.dst = true) (hop : o.op = .call ⟨.value fo, args, ts⟩) (hf : ev G fr fo = .clo f cap) (hn : σ.Nodup)
    (ha : argsV G T fr args.toList ts.toList ++ cap = SV.rens (rn σ bx.length) args0) (hb : Picks σ bx bx0)
    (hk : ∀ out bx1, R out bx1 → afterCall P G N ops K rest o.dst fr (rn σ bx.length) (mergeAt σ bx (bx1.map (Box.ren (rn σ bx.length)))) out) :
    Reg P G N ops K (i :: rest) fr bx := by
  intro B ds w a ok g hr hfr
  obtain ⟨g0, hg0, hbl, hlt, hc, hsub⟩ := hb.sub hn hr
  have h1 := hfr.ev hr fo
  rw [hf] at h1
  simp only [RepS] at h1
  obtain ⟨cl, h2, h3⟩ := h1
  have h4 : RepSs w ok g bx (argsV G T fr args.toList ts.toList ++ cap) (args.toList.map a.eval ++ cl) := (argsV_rep hT (fun y _ => hfr.ev hr y)).append h3
  rw [ha, RepSs.ren hc] at h4
  have h5 := hspec w ok g0 _ hsub h4
  rw [wpOps_cons]
  unfold wpOp
  have hw : Region.wanted o (yielded ops a.tmps) = true := by
    rcases hg with hg | ⟨j, want, oj, d, b, e1, e2, e3, e4, e5⟩
    · simp only [Region.wanted, hg]
    · rw [wanted_of hfr e1 e2 e3 e4 ho, e5]
  simp only [ho, hw, if_true]
  refine .inl ?_
  unfold Oper.wp
  rw [run_call hop h2 hcall w]
  simp only [Oper.upon_enter]
  refine h5.mono ?_
  rintro e w' ⟨out, ok', g', bx1, h6, h7, h8⟩
  obtain ⟨m1, m2, m3⟩ := hr.merge hn hlt hg0 hbl hc h6
  have h9 := hk out bx1 h8
  have hx : Ext w ok w' ok' := h6.ext
  cases out with
  | ret x =>
    obtain ⟨v, rfl, h10⟩ := h7
    have h11 := (RepS.ren m2 x v).2 h10
    exact h9 B ds w' _ ok' _ m1 ((hfr.step hx m3).put hd h11)
  | panic x =>
    obtain ⟨u, rfl, h10⟩ := h7
    exact ⟨.panic x, fr, _, ok', _, ⟨u, rfl, h10⟩, m1, hfr.step hx m3, h9⟩

end
end Go.Abs

namespace Go.Abs
open Go

/-- What comes back gives its right away. -/
def unown : SV → SV
  | .own _ s rows => .d (.sl s rows false)
  | x => x

theorem unown_rep {w : World} {ok : Nat → Nat} {g : List Value} {bx : List Box} {x : SV} {v : Value} (h : RepS w ok g bx x v) : RepS w ok g bx (unown x) v := by
  cases x <;> first | exact h | exact h.1

/-- The results of a function. -/
def resK (G : Glob) (T : Tab) (fr : Fr) (bx : List Box) : List ResultVar → (List SV → Res) → Res
  | [], k => k []
  | .tmp t :: rs, k => match Res.val bx (unown (look fr t)) with
    | .ok _ x _ => resK G T fr bx rs (fun l => k (x :: l))
    | .none => .none
  | .cell a t :: rs, k => match evalO G T [] (.load t (.tmp a)) 0 fr bx with
    | .ok _ x _ => resK G T fr bx rs (fun l => k (x :: l))
    | .none => .none

def oneR (bx : List Box) : List SV → Res
  | [x] => .ok True x bx
  | l => .ok True (.tup l) bx

/-- What must hold where a function's body ends. -/
def bodyQ (G : Glob) (T : Tab) (fn : Func) (n : Nat) (R : Out → List Box → Prop) : Ex → Fr → List Box → Prop
  | .normal, fr, bx | .ret, fr, bx => ∃ x, resK G T fr bx fn.results.toList (oneR bx) = .ok True x bx ∧ x.fits n = true ∧ (bx.take n).all (Box.fits n) = true ∧ R (.ret x) (bx.take n)
  | .panic x, _, bx => (bx.take n).all (Box.fits n) = true ∧ R (.panic x) (bx.take n)
  | _, _, _ => False

def argFr : Nat → List SV → Fr
  | _, [] => []
  | k, x :: xs => (k, x) :: argFr (k + 1) xs

section
variable {P : Program} {G : Glob} {T : Tab} {N : Nat} {fr : Fr} {bx : List Box} {w : World} {ok : Nat → Nat} {g : List Value}

theorem argFr_look {xs : List SV} {l : List Value} (h : RepSs w ok g bx xs l) (n : Nat) : ∀ (k t : Nat), k ≤ t → RepS w ok g bx (look (argFr k xs) t) ((l ++ List.replicate n undef).getD (t - k) undef) := by
  induction xs generalizing l with
  | nil =>
    intro k t _
    simp only [argFr, look, RepS, Rep]
  | cons x xs ih =>
    intro k t hk
    simp only [RepSs] at h
    obtain ⟨v, r, rfl, h1, h2⟩ := h
    simp only [argFr, look]
    cases e : Nat.beq k t with
    | true =>
      have e := Nat.eq_of_beq_eq_true e
      subst e
      rw [cond_true, Nat.sub_self]
      exact h1
    | false =>
      have e : k ≠ t := fun hh => by subst hh; rw [Nat.beq_refl] at e; cases e
      rw [cond_false]
      have h3 := ih h2 (k + 1) t (by omega)
      rw [show t - k = (t - (k + 1)) + 1 by omega]
      exact h3

theorem look_argFr_lt {xs : List SV} : ∀ {k t : Nat}, t < k → look (argFr k xs) t = .d .junk := by
  induction xs with
  | nil => intro k t _; rfl
  | cons x xs ih =>
    intro k t h
    simp only [argFr, look]
    cases e : Nat.beq k t with
    | true => have e := Nat.eq_of_beq_eq_true e; omega
    | false => exact ih (by omega)

def resM (a : Act) : ResultVar → Sem Value
  | .tmp t => pure (a.tmps.getD t undef)
  | .cell p t => do loadVar t (← asAddr (a.tmps.getD p undef))

theorem resK_ok (hT : T.Ok P) {a : Act} {B : Base} {ds : List Deferred} (hr : RelW G B w ok g bx) (hf : RelF G w ok g bx fr a N ds) {c : Prop} {x : SV} {bx' : List Box} :
    ∀ {rs : List ResultVar} {k : List SV → Res}, resK G T fr bx rs k = .ok c x bx' → ∃ xs vs, k xs = .ok c x bx' ∧ RepSs w ok g bx xs vs ∧ (rs.mapM (resM a)).run P w = .ok vs w
  | [], _, h => ⟨[], [], h, by simp only [RepSs], rfl⟩
  | .tmp t :: rs, _, h => by
    simp only [resK] at h
    split at h
    · rename_i c' y b' hy
      obtain ⟨hy1, _⟩ := Res.val_ok hy
      subst hy1
      obtain ⟨xs, vs, h1, h2, h4⟩ := resK_ok hT hr hf h
      refine ⟨_, a.tmps.getD t undef :: vs, h1, ⟨_, _, rfl, unown_rep (hf.tmps t), h2⟩, ?_⟩
      rw [List.mapM_cons]
      simp only [Sem.run_bind, resM, Sem.run_pure, Result.andThen_ok, h4]
    · cases h
  | .cell p t :: rs, _, h => by
    simp only [resK] at h
    split at h
    · rename_i c' y b' hy
      obtain ⟨xs, vs, h1, h2, h4⟩ := resK_ok hT hr hf h
      obtain ⟨v, h5, h6⟩ := (load_pure (dst := none) (pos := "") (after := #[]) (guard := none) hT hy).2 B w a ok g hr (hf.tmps p)
      refine ⟨_, v :: vs, h1, ⟨_, _, rfl, h6, h2⟩, ?_⟩
      rw [List.mapM_cons]
      have h7 : (resM a (.cell p t)).run P w = .ok v w := by
        simp only [execOp, Sem.run_bind, Act.eval] at h5
        cases e : (Instr.loadAt t (a.tmps.getD p undef)).run P w with
        | halt hh w' => rw [e] at h5; simp at h5
        | ok u w' =>
          rw [e] at h5
          simp only [Result.andThen_ok, Sem.run_pure, Result.ok.injEq, Next.value.injEq] at h5
          obtain ⟨rfl, rfl⟩ := h5
          unfold Instr.loadAt at e
          simp only [resM, Sem.run_bind] at e ⊢
          cases hp : a.tmps.getD p undef <;> rw [hp] at e <;> try (simp [Instr.sureAddr, stuck] at e; done)
          rename_i ad
          cases ad with
          | none => simp [Instr.sureAddr, stuck] at e
          | some ad => simpa [Instr.sureAddr, asAddr] using e
      simp only [Sem.run_bind, h7, Result.andThen_ok, h4, Sem.run_pure]
    · cases h

theorem run_results (hT : T.Ok P) {a : Act} {B : Base} {ds : List Deferred} (hr : RelW G B w ok g bx) (hf : RelF G w ok g bx fr a N ds) {fn : Func} {x : SV}
    (h : resK G T fr bx fn.results.toList (oneR bx) = .ok True x bx) : ∃ v, (results fn a.tmps).run P w = .ok v w ∧ RepS w ok g bx x v := by
  obtain ⟨xs, vs, h1, h2, h3⟩ := resK_ok hT hr hf h
  have h4 : (results fn a.tmps).run P w = .ok (if h : vs.toArray.size = 1 then vs.toArray[0] else .tuple vs.toArray) w := by
    have e0 : results fn a.tmps = (do let vs ← fn.results.mapM (resM a); pure (if h : vs.size = 1 then vs[0] else .tuple vs)) := by
      unfold results
      congr 1
    have e : fn.results.mapM (resM a) = List.toArray <$> fn.results.toList.mapM (resM a) := by
      obtain ⟨l⟩ := fn.results
      rw [List.mapM_toArray]
    rw [e0, Sem.run_bind, e, Sem.run_map, h3]
    rfl
  rw [h4]
  cases xs with
  | nil =>
    simp only [RepSs] at h2
    subst h2
    simp only [oneR, Res.ok.injEq] at h1
    obtain ⟨_, rfl, _⟩ := h1
    exact ⟨_, rfl, by simp only [RepS]; exact ⟨[], rfl, by simp only [RepSs]⟩⟩
  | cons y ys =>
    cases ys with
    | nil =>
      simp only [RepSs] at h2
      obtain ⟨v, r, rfl, h5, rfl⟩ := h2
      simp only [oneR, Res.ok.injEq] at h1
      obtain ⟨_, rfl, _⟩ := h1
      exact ⟨v, rfl, h5⟩
    | cons z zs =>
      have h5 := h2
      simp only [RepSs] at h2
      obtain ⟨v, r, rfl, _, u, s, rfl, _⟩ := h2
      simp only [oneR, Res.ok.injEq] at h1
      obtain ⟨_, rfl, _⟩ := h1
      refine ⟨_, rfl, ?_⟩
      rw [dif_neg (by simp)]
      simp only [RepS]
      exact ⟨_, rfl, h5⟩

/-- A function by its body. -/
theorem ACalls.body (hT : T.Ok P) {f : FuncId} {fn : Func} {c : Code} (hfn : P.funcs[f]? = some fn) (hc : fn.body = some c) {args : List SV} {bx : List Box} {R : Out → List Box → Prop} (hlen : Nat.ble args.length fn.ntmps = true)
    (h : AW P G fn.ntmps c (bodyQ G T fn bx.length R) (argFr 0 args) bx) : ACalls P G f args bx R := by
  intro w ok g vs hr hargs
  have hl := hargs.length
  have hlen := Nat.le_of_ble_eq_true hlen
  refine calls_of_wp hfn hc (wp_mono (h ⟨w, ok, g, bx⟩ [] w _ ok g hr ⟨by simp; omega, ?_, rfl⟩) ?_)
  · intro t
    have := argFr_look hargs (fn.ntmps - vs.toArray.size) 0 t (Nat.zero_le _)
    simp only [Nat.sub_zero] at this
    have e : (vs.toArray ++ Array.replicate (fn.ntmps - vs.toArray.size) undef).getD t undef = (vs ++ List.replicate (fn.ntmps - vs.toArray.size) undef).getD t undef := by
      rw [Array.getD_eq_getD_getElem?, List.getD_eq_getElem?_getD, ← Array.getElem?_toList]
      simp
    rw [e]
    exact this
  · rintro e a w' ⟨e', fr', bx', ok', g', h1, h2, h3, h4⟩
    have fin : ∀ {e : Exit}, e = .normal ∨ e = .ret → (∃ x, resK G T fr' bx' fn.results.toList (oneR bx') = .ok True x bx' ∧ x.fits bx.length = true ∧ (bx'.take bx.length).all (Box.fits bx.length) = true ∧ R (.ret x) (bx'.take bx.length)) →
        bodyPost P fn (fun e w' => ∃ out ok' g' bx', RelW G ⟨w, ok, g, bx⟩ w' ok' g' bx' ∧ RelOut w' ok' g' bx' out e ∧ R out bx') e a w' := by
      rintro e he ⟨x, h5, h6, h7, h8⟩
      obtain ⟨v, h9, h10⟩ := run_results hT h2 h3 h5
      have h11 : a.defers = [] ∧ ∃ v, (results fn a.tmps).run P w' = .ok v w' ∧ ∃ out ok' g' bx', RelW G ⟨w, ok, g, bx⟩ w' ok' g' bx' ∧ RelOut w' ok' g' bx' out (.returned v) ∧ R out bx' :=
        ⟨h3.defers, v, h9, .ret x, ok', _, _, h2.trim (Nat.le_refl _) h7, ⟨v, rfl, RepS.trim x v h6 h10⟩, h8⟩
      rcases he with rfl | rfl <;> exact h11
    cases e' with
    | normal =>
      simp only [RelX] at h1
      subst h1
      exact fin (.inl rfl) h4
    | ret =>
      simp only [RelX] at h1
      subst h1
      exact fin (.inr rfl) h4
    | panic x =>
      simp only [RelX] at h1
      obtain ⟨u, rfl, h1⟩ := h1
      obtain ⟨h5, h6⟩ := h4
      exact ⟨h3.defers, .panic x, ok', _, _, h2.trim (Nat.le_refl _) h5, ⟨u, rfl, h1⟩, h6⟩
    | exit id => exact h4.elim
    | goto l => exact h4.elim

end
end Go.Abs

namespace Go.Abs
open Go

mutual
/-- Less is said of data. -/
inductive AVle : AV → AV → Prop
  | refl (x : AV) : AVle x x
  | sl {s : Nat} {rows rows' : List (List AV)} {f : Bool} : AVless rows rows' → AVle (.sl s rows f) (.sl s rows' false)
  | agg {cs cs' : List AV} : AVles cs cs' → AVle (.agg cs) (.agg cs')
  | tup {cs cs' : List AV} : AVles cs cs' → AVle (.tup cs) (.tup cs')
  | ifc {t : TypeId} {x y : AV} : AVle x y → AVle (.ifc t x) (.ifc t y)
  | ro {cs cs' : List AV} : AVles cs cs' → AVle (.ro cs) (.ro cs')
inductive AVles : List AV → List AV → Prop
  | nil : AVles [] []
  | cons {x y : AV} {xs ys : List AV} : AVle x y → AVles xs ys → AVles (x :: xs) (y :: ys)
inductive AVless : List (List AV) → List (List AV) → Prop
  | nil : AVless [] []
  | cons {x y : List AV} {xs ys : List (List AV)} : AVles x y → AVless xs ys → AVless (x :: xs) (y :: ys)
end

theorem AVles.refl : ∀ xs : List AV, AVles xs xs
  | [] => .nil
  | x :: xs => .cons (.refl x) (AVles.refl xs)
theorem AVless.refl : ∀ xs : List (List AV), AVless xs xs
  | [] => .nil
  | x :: xs => .cons (AVles.refl x) (AVless.refl xs)

section
variable {w : World} {ok : Nat → Nat}
mutual
theorem AVle.rep {x y : AV} (h : AVle x y) : ∀ {v : Value}, Rep w ok x v → Rep w ok y v := by
  cases h with
  | refl => exact fun h => h
  | sl h =>
    intro v hr
    obtain ⟨h1, h2⟩ := AVless.rep h
    simp only [Rep] at hr ⊢
    obtain ⟨p, cap, e1, e2, _, e4⟩ := hr
    refine ⟨p, cap, by rw [h1]; exact e1, by rw [h1]; exact e2, (fun hh => by cases hh), ?_⟩
    rcases e4 with e4 | ⟨b, o, e5, e6⟩
    · subst e4
      exact .inl (List.eq_nil_of_length_eq_zero (by rw [h1]; rfl))
    · exact .inr ⟨b, o, e5, h2 e6⟩
  | agg h =>
    intro v hr
    simp only [Rep] at hr ⊢
    obtain ⟨l, e1, e2⟩ := hr
    exact ⟨l, e1, (AVles.rep h).2.1 e2⟩
  | tup h =>
    intro v hr
    simp only [Rep] at hr ⊢
    obtain ⟨l, e1, e2⟩ := hr
    exact ⟨l, e1, (AVles.rep h).2.1 e2⟩
  | ifc h =>
    intro v hr
    simp only [Rep] at hr ⊢
    obtain ⟨u, e1, e2⟩ := hr
    exact ⟨u, e1, AVle.rep h e2⟩
  | ro h =>
    intro v hr
    simp only [Rep] at hr ⊢
    obtain ⟨b, o, e1, e2⟩ := hr
    exact ⟨b, o, e1, (AVles.rep h).2.2 e2⟩
theorem AVles.rep {x y : List AV} (h : AVles x y) : y.length = x.length ∧ (∀ {l : List Value}, Reps w ok x l → Reps w ok y l) ∧ (∀ {b o : Nat}, RepAt w ok x b o → RepAt w ok y b o) := by
  cases h with
  | nil => exact ⟨rfl, fun h => h, fun h => h⟩
  | cons h hs =>
    obtain ⟨h1, h2, h3⟩ := AVles.rep hs
    refine ⟨by simp [h1], ?_, ?_⟩
    · intro l hr
      simp only [Reps] at hr ⊢
      obtain ⟨v, r, e1, e2, e3⟩ := hr
      exact ⟨v, r, e1, AVle.rep h e2, h2 e3⟩
    · intro b o hr
      simp only [RepAt] at hr ⊢
      obtain ⟨e1, ⟨v, e2, e3⟩, e4⟩ := hr
      exact ⟨e1, ⟨v, e2, AVle.rep h e3⟩, h3 e4⟩
theorem AVless.rep {x y : List (List AV)} (h : AVless x y) : y.length = x.length ∧ (∀ {size b o : Nat}, RepRows w ok x size b o → RepRows w ok y size b o) := by
  cases h with
  | nil => exact ⟨rfl, fun h => h⟩
  | cons h hs =>
    obtain ⟨h1, h2⟩ := AVless.rep hs
    obtain ⟨h3, _, h4⟩ := AVles.rep h
    refine ⟨by simp [h1], ?_⟩
    intro size b o hr
    simp only [RepRows] at hr ⊢
    exact ⟨by rw [h3]; exact hr.1, h4 hr.2.1, h2 hr.2.2⟩
end
end
end Go.Abs

namespace Go.Abs
open Go

theorem Tab.ok_nil {P : Program} : Tab.Ok P [] := fun _ h => by cases h
theorem Tab.ok_cons {P : Program} {t : TypeId} {x : TI} {T : Tab} (h : TIok P t x) (h' : T.Ok P) : Tab.Ok P ((t, x) :: T) := by
  intro y hy
  rcases List.mem_cons.1 hy with rfl | hy
  · exact h
  · exact h' y hy

theorem least {p : Nat → Prop} (h : ∃ n, p n) : ∃ n, p n ∧ ∀ m, p m → n ≤ m := by
  obtain ⟨n, hn⟩ := h
  induction n using Nat.strongRecOn with
  | _ n ih =>
    by_cases hm : ∃ m, m < n ∧ p m
    · obtain ⟨m, h1, h2⟩ := hm
      exact ih m h1 h2
    · refine ⟨n, hn, fun m hpm => ?_⟩
      apply Classical.byContradiction
      intro h
      exact hm ⟨m, by omega, hpm⟩

/-- A loop, by rounds that are counted. -/
theorem wp_loopN {P : Program} {Q : Exit → Act → World → Prop} {c : Code} (I : Nat → Act → World → Prop) {n : Nat} {a : Act} {w : World} (h0 : I n a w)
    (round : ∀ n a w, I n a w → c.wp P (Exit.then (fun a' w' => ∃ m, m < n ∧ I m a' w') Q) a w) : (Code.loop c).wp P Q a w := by
  classical
  let μ : Act → World → Nat := fun a w => if h : ∃ n, I n a w then Classical.choose (least h) else 0
  have hμ : ∀ {a w}, (∃ n, I n a w) → I (μ a w) a w ∧ ∀ m, I m a w → μ a w ≤ m := by
    intro a w h
    simp only [μ, dif_pos h]
    exact Classical.choose_spec (least h)
  refine wp_loop (fun a w => ∃ n, I n a w) μ ⟨n, h0⟩ ?_
  intro a w h
  refine wp_mono (round _ a w (hμ h).1) ?_
  intro e a' w' hq
  cases e with
  | normal =>
    obtain ⟨m, h1, h2⟩ := hq
    exact ⟨⟨m, h2⟩, Nat.lt_of_le_of_lt ((hμ ⟨m, h2⟩).2 m h2) h1⟩
  | _ => exact hq

/-- Less is said. -/
inductive SLe : SV → SV → Prop
  | refl (x : SV) : SLe x x
  | d {x y : AV} : AVle x y → SLe (.d x) (.d y)
  | own (id s : Nat) (rows : List (List AV)) : SLe (.own id s rows) (.d (.sl s rows false))
  | junk (x : SV) : SLe x (.d .junk)

theorem SLe.full (s : Nat) (rows : List (List AV)) (f : Bool) : SLe (.d (.sl s rows f)) (.d (.sl s rows false)) := .d (.sl (AVless.refl rows))

theorem SLe.rep {x y : SV} (h : SLe x y) {w : World} {ok : Nat → Nat} {g : List Value} {bx : List Box} {v : Value} (hr : RepS w ok g bx x v) : RepS w ok g bx y v := by
  cases h with
  | refl => exact hr
  | d h =>
    simp only [RepS] at hr ⊢
    exact h.rep hr
  | own id s rows => exact hr.1
  | junk => simp only [RepS, Rep]

def SLes : List SV → List SV → Prop
  | [], [] => True
  | x :: xs, y :: ys => SLe x y ∧ SLes xs ys
  | _, _ => False

theorem SLes.refl : ∀ xs : List SV, SLes xs xs
  | [] => trivial
  | x :: xs => ⟨.refl x, SLes.refl xs⟩

theorem SLes.rep {w : World} {ok : Nat → Nat} {g : List Value} {bx : List Box} : ∀ {xs ys : List SV}, SLes xs ys → ∀ {l : List Value}, RepSs w ok g bx xs l → RepSs w ok g bx ys l
  | [], [], _, l, hr => hr
  | x :: xs, y :: ys, h, l, hr => by
    simp only [RepSs] at hr ⊢
    obtain ⟨v, r, e1, e2, e3⟩ := hr
    exact ⟨v, r, e1, h.1.rep e2, SLes.rep h.2 e3⟩
  | [], _ :: _, h, _, _ => h.elim
  | _ :: _, [], h, _, _ => h.elim

/-- Less is said of boxes. -/
def BxLe : List Box → List Box → Prop
  | [], [] => True
  | .cells cs :: xs, .cells cs' :: ys => SLes cs cs' ∧ BxLe xs ys
  | .acc s n :: xs, .acc s' n' :: ys => (s = s' ∧ n = n') ∧ BxLe xs ys
  | .dead :: xs, .dead :: ys => BxLe xs ys
  | _, _ => False

theorem BxLe.refl : ∀ xs : List Box, BxLe xs xs
  | [] => trivial
  | .cells cs :: xs => ⟨SLes.refl cs, BxLe.refl xs⟩
  | .acc _ _ :: xs => ⟨⟨rfl, rfl⟩, BxLe.refl xs⟩
  | .dead :: xs => BxLe.refl xs

theorem BxLe.get : ∀ {xs ys : List Box}, BxLe xs ys → xs.length = ys.length ∧ ∀ i : Nat, kindEq (xs[i]?) (ys[i]?) ∧ ∀ cs', ys[i]? = some (.cells cs') → ∃ cs, xs[i]? = some (.cells cs) ∧ SLes cs cs'
  | [], [], _ => ⟨rfl, fun i => ⟨by simp [kindEq], fun cs' h => by simp at h⟩⟩
  | .cells cs :: xs, .cells cs' :: ys, h => by
    obtain ⟨h1, h2⟩ := BxLe.get h.2
    refine ⟨by simp [h1], fun i => ?_⟩
    cases i with
    | zero =>
      refine ⟨by simp [kindEq], fun cs2 h3 => ?_⟩
      simp only [List.getElem?_cons_zero, Option.some.injEq, Box.cells.injEq] at h3
      subst h3
      exact ⟨cs, rfl, h.1⟩
    | succ i => simpa using h2 i
  | .acc s n :: xs, .acc s' n' :: ys, h => by
    obtain ⟨⟨rfl, rfl⟩, h⟩ := h
    obtain ⟨h1, h2⟩ := BxLe.get h
    refine ⟨by simp [h1], fun i => ?_⟩
    cases i with
    | zero => exact ⟨by simp [kindEq], fun cs2 h3 => by simp at h3⟩
    | succ i => simpa using h2 i
  | .dead :: xs, .dead :: ys, h => by
    obtain ⟨h1, h2⟩ := BxLe.get (show BxLe xs ys from h)
    refine ⟨by simp [h1], fun i => ?_⟩
    cases i with
    | zero => exact ⟨by simp [kindEq], fun cs2 h3 => by simp at h3⟩
    | succ i => simpa using h2 i
  | [], _ :: _, h => by simp [BxLe] at h
  | .cells _ :: _, [], h => by simp [BxLe] at h
  | .cells _ :: _, .acc _ _ :: _, h => by simp [BxLe] at h
  | .cells _ :: _, .dead :: _, h => by simp [BxLe] at h
  | .acc _ _ :: _, [], h => by simp [BxLe] at h
  | .acc _ _ :: _, .cells _ :: _, h => by simp [BxLe] at h
  | .acc _ _ :: _, .dead :: _, h => by simp [BxLe] at h
  | .dead :: _, [], h => by simp [BxLe] at h
  | .dead :: _, .cells _ :: _, h => by simp [BxLe] at h
  | .dead :: _, .acc _ _ :: _, h => by simp [BxLe] at h

theorem rens_id : ∀ xs : List SV, SV.rens (fun k => k) xs = xs ∧ True := by
  intro xs
  refine ⟨?_, trivial⟩
  have key : ∀ x : SV, x.ren (fun k => k) = x := by
    intro x
    exact SV.rec (motive_1 := fun x => x.ren (fun k => k) = x) (motive_2 := fun xs => SV.rens (fun k => k) xs = xs)
      (fun x => rfl) (fun _ _ => rfl) (fun _ _ _ => rfl) (fun f cap ih => by simp only [SV.ren, ih]) (fun vs ih => by simp only [SV.ren, ih]) (fun cs ih => by simp only [SV.ren, ih])
      rfl (fun x xs h1 h2 => by simp only [SV.rens, h1, h2]) x
  induction xs with
  | nil => rfl
  | cons x xs ih => simp only [SV.rens, key, ih]

theorem Corr.id {g : List Value} {bx bx' : List Box} (h : ∀ i : Nat, kindEq (bx[i]?) (bx'[i]?)) : Corr (fun k => k) g bx g bx' := fun k => ⟨rfl, h k⟩

theorem RepSs.kinds {w : World} {ok : Nat → Nat} {g : List Value} {bx bx' : List Box} (h : ∀ i : Nat, kindEq (bx[i]?) (bx'[i]?)) {xs : List SV} {l : List Value} (hr : RepSs w ok g bx xs l) : RepSs w ok g bx' xs l := by
  have := (RepSs.ren (w := w) (ok := ok) (Corr.id (g := g) h) xs l).2 hr
  rw [(rens_id xs).1] at this
  exact this

theorem RepS.kinds {w : World} {ok : Nat → Nat} {g : List Value} {bx bx' : List Box} (h : ∀ i : Nat, kindEq (bx[i]?) (bx'[i]?)) {x : SV} {v : Value} (hr : RepS w ok g bx x v) : RepS w ok g bx' x v := by
  have h1 : RepSs w ok g bx [x] [v] := by
    simp only [RepSs]
    exact ⟨v, [], rfl, hr, rfl⟩
  have h2 := RepSs.kinds h h1
  simp only [RepSs] at h2
  obtain ⟨u, r, e1, e2, _⟩ := h2
  cases e1
  exact e2

theorem RelW.boxLe {G : Glob} {B : Base} {w : World} {ok : Nat → Nat} {g : List Value} {bx bx' : List Box} (hr : RelW G B w ok g bx) (h : BxLe bx bx') : RelW G B w ok g bx' := by
  obtain ⟨hlen, hget⟩ := h.get
  have hk : ∀ i : Nat, kindEq (bx[i]?) (bx'[i]?) := fun i => (hget i).1
  have hblk : ∀ i, blk g bx' i = blk g bx i := fun i => blk_kind (hk i) rfl
  exact
  { size := hr.size
    keep := hr.keep
    ext := hr.ext
    dom := fun i b hi => hr.dom i b (by rw [← hblk]; exact hi)
    wf := hr.wf
    rest := hr.rest
    glob := hr.glob
    ids := fun i hi => by
      have h1 := hr.ids i hi
      have h2 := hk i
      exact h1.kind (b := B.bx[i]?) (b1 := bx[i]?) (by
        cases e : B.bx[i]? with
        | none => rfl
        | some b => cases b <;> simp [kindEq]) h2
    boxes :=
      { len := by rw [hr.boxes.len, hlen]
        cells := fun i cs' hi => by
          obtain ⟨cs, h1, h2⟩ := (hget i).2 cs' hi
          obtain ⟨b, arr, E, e1, e2, e3, e4⟩ := hr.boxes.cells i cs h1
          exact ⟨b, arr, E, e1, e2, e3, RepSs.kinds hk (h2.rep e4)⟩
        acc := fun i s n hi => hr.boxes.acc i s n (((hk i).acc s n).2 hi)
        apart := fun i j b hi hj => hr.boxes.apart i j b (by rw [← hblk]; exact hi) (by rw [← hblk]; exact hj) } }

/-- A frame of which less is said. -/
def FrLe (fr : Fr) : Fr → Prop
  | [] => True
  | (k, x) :: r => SLe (look fr k) x ∧ FrLe fr r

theorem FrLe.look {fr : Fr} : ∀ {r : Fr}, FrLe fr r → ∀ t, SLe (Abs.look fr t) (Abs.look r t)
  | [], _, t => SLe.junk _
  | (k, x) :: r, h, t => by
    simp only [Abs.look]
    cases e : Nat.beq k t with
    | true =>
      have e := Nat.eq_of_beq_eq_true e
      subst e
      exact h.1
    | false => exact h.2.look t

def Fr.fits (n : Nat) (fr : Fr) : Bool := fr.all fun p => p.2.fits n

theorem look_fits {n : Nat} : ∀ {fr : Fr}, fr.fits n = true → ∀ t, (look fr t).fits n = true
  | [], _, t => rfl
  | (k, x) :: r, h, t => by
    simp only [Fr.fits, List.all_cons, Bool.and_eq_true] at h
    simp only [look]
    cases Nat.beq k t with
    | true => exact h.1
    | false => exact look_fits h.2 t

/-- Less is said of a frame and of boxes. -/
structure StLe (fr : Fr) (bx : List Box) (fr' : Fr) (bx' : List Box) : Prop where
  hfr : FrLe fr fr'
  hbx : BxLe (bx.take bx'.length) bx'
  fits : Fr.fits bx'.length fr' = true
  closed : (bx.take bx'.length).all (Box.fits bx'.length) = true

section
variable {P : Program} {G : Glob} {N : Nat} {Q : Ex → Fr → List Box → Prop} {fr : Fr} {bx : List Box}

theorem StLe.rel {fr' : Fr} {bx' : List Box} (h : StLe fr bx fr' bx') (hcl : (bx.take bx'.length).all (Box.fits bx'.length) = true) {B : Base} {ds : List Deferred} {w : World} {a : Act} {ok : Nat → Nat} {g : List Value} (hn : B.bx.length ≤ bx'.length)
    (hr : RelW G B w ok g bx) (hf : RelF G w ok g bx fr a N ds) : RelW G B w ok (g.take bx'.length) bx' ∧ RelF G w ok (g.take bx'.length) bx' fr' a N ds := by
  have h1 := hr.trim hn hcl
  have hk : ∀ i : Nat, kindEq ((bx.take bx'.length)[i]?) (bx'[i]?) := fun i => (h.hbx.get.2 i).1
  refine ⟨h1.boxLe h.hbx, hf.size, fun t => ?_, hf.defers⟩
  have h2 := (h.hfr.look t).rep (hf.tmps t)
  exact RepS.kinds hk (RepS.trim (n := bx'.length) _ _ (look_fits h.fits t) h2)

/-- A piece of code, of less. -/
theorem AW.le {c : Code} {fr' : Fr} {bx' : List Box} (h : StLe fr bx fr' bx') (hn : bx.length ≤ bx'.length) (hw : AW P G N c Q fr' bx') : AW P G N c Q fr bx := by
  intro B ds w a ok g hr hf
  obtain ⟨h1, h2⟩ := h.rel h.closed (Nat.le_trans hr.len_le hn) hr hf
  exact hw B ds w a ok _ h1 h2

/-- A loop: S: what changes from round to round; C: what holds of it; F, X: frame and boxes at a round's head; m: a measure; n: how many boxes a round's head has, at least so many as came in. -/
theorem AW.loop {c : Code} {S : Type} (C : S → Prop) (F : S → Fr) (X : S → List Box) (m : S → Nat) (s0 : S) (h0 : C s0) (hlen : ∀ s, (X s).length = bx.length) (hle : StLe fr bx (F s0) (X s0))
    (round : ∀ s, C s → AW P G N c (thenA (fun fr' bx' => ∃ s', C s' ∧ m s' < m s ∧ StLe fr' bx' (F s') (X s')) Q) (F s) (X s)) : AW P G N (.loop c) Q fr bx := by
  intro B ds w a ok g hr hf
  have hn := hr.len_le
  refine wp_loopN (fun n a w => ∃ s ok g, C s ∧ m s = n ∧ RelW G B w ok g (X s) ∧ RelF G w ok g (X s) (F s) a N ds) (n := m s0) ?_ ?_
  · obtain ⟨h1, h2⟩ := hle.rel hle.closed (by rw [hlen]; exact hn) hr hf
    exact ⟨s0, ok, _, h0, rfl, h1, h2⟩
  · rintro n a w ⟨s, ok, g, hc, rfl, h1, h2⟩
    refine wp_mono (round s hc B ds w a ok g h1 h2) ?_
    rintro e a' w' ⟨e', fr', bx', ok', g', h3, h4, h5, h6⟩
    cases e' with
    | normal =>
      simp only [RelX] at h3
      subst h3
      obtain ⟨s', h7, h8, h9⟩ := h6
      obtain ⟨h10, h11⟩ := h9.rel h9.closed (by rw [hlen]; exact hn) h4 h5
      exact ⟨_, h8, s', ok', _, h7, rfl, h10, h11⟩
    | exit id =>
      simp only [RelX] at h3
      subst h3
      exact ⟨.exit id, fr', bx', ok', g', rfl, h4, h5, h6⟩
    | goto l =>
      simp only [RelX] at h3
      subst h3
      exact ⟨.goto l, fr', bx', ok', g', rfl, h4, h5, h6⟩
    | ret =>
      simp only [RelX] at h3
      subst h3
      exact ⟨.ret, fr', bx', ok', g', rfl, h4, h5, h6⟩
    | panic x =>
      simp only [RelX] at h3
      obtain ⟨u, rfl, h3⟩ := h3
      exact ⟨.panic x, fr', bx', ok', g', ⟨u, rfl, h3⟩, h4, h5, h6⟩

/-- Of what comes back less is said. -/
theorem ACalls.weak {f : FuncId} {args : List SV} {R R' : Out → List Box → Prop} (h : ACalls P G f args bx R) (hr : ∀ x b, R (.ret x) b → ∃ y b', SLe x y ∧ BxLe b b' ∧ R' (.ret y) b') (hp : ∀ x b, R (.panic x) b → R' (.panic x) b) :
    ACalls P G f args bx R' := by
  intro w ok g vs h1 h2
  refine (h w ok g vs h1 h2).mono ?_
  rintro e w' ⟨out, ok', g', bx', h3, h4, h5⟩
  cases out with
  | ret x =>
    obtain ⟨y, b', h6, h7, h8⟩ := hr x bx' h5
    obtain ⟨v, h9, h10⟩ := h4
    exact ⟨.ret y, ok', g', b', h3.boxLe h7, ⟨v, h9, RepS.kinds (fun i => (h7.get.2 i).1) (h6.rep h10)⟩, h8⟩
  | panic x => exact ⟨.panic x, ok', g', bx', h3, h4, hp x bx' h5⟩

end
end Go.Abs

namespace Go.Abs
open Go

/-! ### Regions that draw their order -/

def dirs (o : Oper) : List Nat := (o.after.toList.filter fun e => Region.binds .any e).map (·.on)

/-- What stands ahead of an operation, whatever the order. -/
def ancStep (tbl : List (List Nat)) (o : Oper) : List (List Nat) := tbl ++ [((dirs o) ++ (dirs o).flatMap fun k => tbl.getD k []).eraseDups]
def ancsR : List Oper → List (List Nat)
  | [] => []
  | o :: r => ancStep (ancsR r) o
def ancs (ops : List Oper) : List (List Nat) := ancsR ops.reverse

theorem ancsR_length : ∀ r : List Oper, (ancsR r).length = r.length
  | [] => rfl
  | o :: r => by simp [ancsR, ancStep, ancsR_length r]

/-- What is ahead has been done. -/
theorem ancsR_done {D : Nat → Prop} : ∀ {r : List Oper}, (∀ (i : Nat) o, r.reverse[i]? = some o → D i → ∀ k ∈ dirs o, D k) → ∀ {i : Nat} {o : Oper}, r.reverse[i]? = some o → (∀ k ∈ dirs o, D k) → ∀ j ∈ (ancsR r).getD i [], D j
  | [], _, i, o, ho, _, _, _ => by simp at ho
  | p :: r, hc, i, o, ho, hd, j, hj => by
    rw [List.reverse_cons] at hc ho
    have hc' : ∀ (i : Nat) o, r.reverse[i]? = some o → D i → ∀ k ∈ dirs o, D k := by
      intro i o h
      exact hc i o (by rw [List.getElem?_append_left (List.getElem?_eq_some_iff.1 h).1]; exact h)
    unfold ancsR ancStep at hj
    have hl := ancsR_length r
    have hr : r.reverse.length = r.length := List.length_reverse
    rcases Nat.lt_trichotomy i r.length with hi | hi | hi
    · rw [List.getElem?_append_left (by omega)] at ho
      rw [List.getD_eq_getElem?_getD, List.getElem?_append_left (by omega), ← List.getD_eq_getElem?_getD] at hj
      exact ancsR_done hc' ho hd j hj
    · subst hi
      rw [List.getElem?_append_right (by omega), hr, Nat.sub_self] at ho
      cases ho
      rw [List.getD_eq_getElem?_getD, List.getElem?_append_right (by omega), hl, Nat.sub_self] at hj
      simp only [List.getElem?_cons_zero, Option.getD_some] at hj
      have hj : j ∈ dirs p ++ (dirs p).flatMap fun k => (ancsR r).getD k [] := by simpa using hj
      rcases List.mem_append.1 hj with hj | hj
      · exact hd j hj
      · obtain ⟨k, hk, hjk⟩ := List.mem_flatMap.1 hj
        cases hok : r.reverse[k]? with
        | none =>
          have : (ancsR r)[k]? = none := by rw [List.getElem?_eq_none_iff] at hok ⊢; omega
          rw [List.getD_eq_getElem?_getD, this] at hjk
          cases hjk
        | some ok => exact ancsR_done hc' hok (hc' k ok hok (hd k hk)) j hjk
    · rw [List.getElem?_eq_none_iff.2 (by simp; omega)] at ho
      cases ho

theorem ancs_done {D : Nat → Prop} {ops : List Oper} (hc : ∀ (i : Nat) o, ops[i]? = some o → D i → ∀ k ∈ dirs o, D k) {i : Nat} {o : Oper} (ho : ops[i]? = some o) (hd : ∀ k ∈ dirs o, D k) :
    ∀ j ∈ (ancs ops).getD i [], D j := by
  unfold ancs
  exact ancsR_done (r := ops.reverse) (by rw [List.reverse_reverse]; exact hc) (by rw [List.reverse_reverse]; exact ho) hd

/-- The temporaries that an operation reads. -/
def reads (o : Oper) : List Nat := o.op.operands.toList.filterMap fun | .tmp t => some t | _ => none

/-- And those by which it is guarded. -/
def readsG (ops : List Oper) (o : Oper) : List Nat := reads o ++ match o.guard with | some (j, _) => ((ops[j]?).bind (·.dst)).toList | none => []

/-- Whether an operation is wanted. -/
def wantedA (ops : List Oper) (fr : Fr) (o : Oper) : Option Bool :=
  match o.guard with
  | none => some true
  | some (j, want) => match ops[j]? with
    | some oj => match oj.dst with
      | some d => match look fr d with
        | .d (.val (.bool b)) => some (b == want)
        | _ => none
      | none => none
    | none => none

def reachB (A : List (List Nat)) (i j : Nat) : Bool := (A.getD i []).contains j

def sufOk (A : List (List Nat)) (es : List Nat) : List Nat → Bool
  | [] => true
  | e :: rest => ((!es.contains e || rest.all (fun i => reachB A i e)) && rest.all (fun i => !reachB A e i)) && sufOk A es rest

/-- What must hold of a region's operations, of those that act (es), and of the order in which they are taken (ord). -/
structure DrawOk (ops : List Oper) (es ord : List Nat) : Prop where
  all : (List.range ops.length).all (fun i => ord.contains i) = true
  low : (ops.zipIdx.all fun (o, i) => (dirs o).all (fun k => decide (k < i))) = true
  suf : sufOk (ancs ops) es ord = true
  -- what is written by one is written by no other, and read by those alone that hang on it (or on which what acts hangs)
  apart : (ops.zipIdx.all fun (o, j) => match o.dst with
    | none => es.contains j
    | some d => ops.zipIdx.all fun (p, i) => (i == j && (es.contains j || !(readsG ops p).contains d)) || (i != j && (p.dst != some d) && (!(readsG ops p).contains d || reachB (ancs ops) i j || (es.contains j && reachB (ancs ops) j i)))) = true
  nodup : ord.Nodup

end Go.Abs

namespace Go.Abs
open Go

theorem sufOk_spec {A : List (List Nat)} {es : List Nat} : ∀ {pre : List Nat} {e : Nat} {rest : List Nat}, sufOk A es (pre ++ e :: rest) = true →
    (e ∈ es → ∀ i ∈ rest, reachB A i e = true) ∧ (∀ i ∈ rest, reachB A e i = false)
  | [], e, rest, h => by
    simp only [List.nil_append, sufOk, Bool.and_eq_true, Bool.or_eq_true, Bool.not_eq_true', List.all_eq_true] at h
    obtain ⟨⟨h1, h2⟩, _⟩ := h
    refine ⟨fun he i hi => ?_, h2⟩
    rcases h1 with h1 | h1
    · simp [he] at h1
    · exact h1 i hi
  | x :: pre, e, rest, h => by
    simp only [List.cons_append, sufOk, Bool.and_eq_true] at h
    exact sufOk_spec h.2

/-- An operation that acts, calls among them. -/
def EffS (P : Program) (G : Glob) (o : Oper) (fr : Fr) (bx : List Box) (R : Out → List Box → Prop) : Prop :=
  ∀ (B : Base) w a ok g (next : Act → World → Prop) (Q : Exit → Act → World → Prop), RelW G B w ok g bx → (∀ y ∈ o.op.operands, RepS w ok g bx (ev G fr y) (Act.eval a y)) →
    (∀ x bx' v w' ok' g', R (.ret x) bx' → RelW G B w' ok' g' bx' → Ext w ok w' ok' → Laters g bx g' bx' → RepS w' ok' g' bx' x v → next (a.put o.dst v) w') →
    (∀ x bx' u w' ok' g', R (.panic x) bx' → RelW G B w' ok' g' bx' → Ext w ok w' ok' → Laters g bx g' bx' → Rep w' ok' x u → Q (.panic [{ v := u, recovered := false }]) a w') →
    o.wp P a w next Q

theorem EffS.ofOp {P : Program} {G : Glob} {o : Oper} {fr : Fr} {bx bx' : List Box} {x : SV} (h : OpS P G o fr bx x bx') : EffS P G o fr bx (fun out b => out = .ret x ∧ b = bx') := by
  intro B w a ok g next Q hr ho hn _
  obtain ⟨v, w', ok', g', h1, h2, h3, h4, h5⟩ := h B w a ok g hr ho
  have h6 := hn x bx' v w' ok' g' ⟨rfl, rfl⟩ h2 h3 h4 h5
  unfold Oper.wp
  rcases h1 with h1 | ⟨h1, rfl⟩ <;> rw [h1] <;> exact h6

section
variable {P : Program} {G : Glob} {N : Nat} {ops : List Oper} {es : List Nat} {K : Ex → Fr → List Box → Prop}

/-- What is reckoned of an operation holds. -/
def Holds (P : Program) (G : Glob) (ops : List Oper) (o : Oper) (fr : Fr) (bx : List Box) (x : SV) : Prop :=
  (wantedA ops fr o = some true ∧ EffS P G o fr bx (fun out b => out = .ret x ∧ b = bx)) ∨ (wantedA ops fr o = some false ∧ x = .d .junk)

def Stable (P : Program) (G : Glob) (ops : List Oper) (fr : Fr) (pend : List Nat) (bx : List Box) : Prop :=
  ∀ j ∈ pend, ∀ o d, ops[j]? = some o → o.dst = some d → Holds P G ops o fr bx (look fr d)

inductive RegD (P : Program) (G : Glob) (N : Nat) (ops : List Oper) (es : List Nat) (K : Ex → Fr → List Box → Prop) : List Nat → List Nat → Fr → List Box → Prop
  | nil {pend : List Nat} {fr : Fr} {bx : List Box} : K .normal fr bx → RegD P G N ops es K pend [] fr bx
  | pure {pend : List Nat} {i : Nat} {ord : List Nat} {fr : Fr} {bx : List Box} {o : Oper} {d : Nat} {x : SV} : ops[i]? = some o → i ∉ es → o.dst = some d → d < N → Holds P G ops o fr bx x →
      RegD P G N ops es K (i :: pend) ord ((d, x) :: fr) bx → RegD P G N ops es K pend (i :: ord) fr bx
  | eff {pend pend' : List Nat} {i : Nat} {ord : List Nat} {fr : Fr} {bx : List Box} {o : Oper} {R : Out → List Box → Prop} : ops[i]? = some o → wantedA ops fr o = some true → i ∈ es → dstOk N o.dst = true → EffS P G o fr bx R →
      (∀ j ∈ pend, j ∈ pend' ∨ reachB (ancs ops) i j = true) → (∀ j ∈ pend', j ∈ pend) →
      (∀ x bx', R (.ret x) bx' → Stable P G ops fr pend' bx') →
      (∀ x bx', R (.ret x) bx' → RegD P G N ops es K pend' ord (putF o.dst x fr) bx') →
      (∀ x bx', R (.panic x) bx' → K (.panic x) [] bx') → RegD P G N ops es K pend (i :: ord) fr bx

/-- An operation does not see what it does not read. -/
theorem OpS.put {o : Oper} {fr : Fr} {bx bx' : List Box} {x y : SV} {d : Nat} (h : OpS P G o fr bx x bx') (hd : d ∉ reads o) : OpS P G o ((d, y) :: fr) bx x bx' := by
  intro B w a ok g hr ho
  refine h B w a ok g hr (fun z hz => ?_)
  have h1 := ho z hz
  cases z with
  | tmp t =>
    simp only [ev, look] at h1 ⊢
    have ht : d ≠ t := by
      rintro rfl
      exact hd (List.mem_filterMap.2 ⟨.tmp d, by simpa using hz, rfl⟩)
    have e : Nat.beq d t = false := by
      cases hh : Nat.beq d t with
      | false => rfl
      | true => exact (ht (Nat.eq_of_beq_eq_true hh)).elim
    rw [e] at h1
    exact h1
  | const v => exact h1
  | global gl => exact h1
  | func f => exact h1

/-- The same of an operation that acts. -/
theorem EffS.put {o : Oper} {fr : Fr} {bx : List Box} {R : Out → List Box → Prop} {y : SV} {d : Nat} (h : EffS P G o fr bx R) (hd : d ∉ reads o) : EffS P G o ((d, y) :: fr) bx R := by
  intro B w a ok g next Q hr ho
  refine h B w a ok g next Q hr (fun z hz => ?_)
  have h1 := ho z hz
  cases z with
  | tmp t =>
    simp only [ev, look] at h1 ⊢
    have ht : d ≠ t := by
      rintro rfl
      exact hd (List.mem_filterMap.2 ⟨.tmp d, by simpa using hz, rfl⟩)
    have e : Nat.beq d t = false := by
      cases hh : Nat.beq d t with
      | false => rfl
      | true => exact (ht (Nat.eq_of_beq_eq_true hh)).elim
    rw [e] at h1
    exact h1
  | const v => exact h1
  | global gl => exact h1
  | func f => exact h1

theorem wantedA_put {ops : List Oper} {o : Oper} {fr : Fr} {d : Nat} {y : SV} (hd : d ∉ readsG ops o) : wantedA ops ((d, y) :: fr) o = wantedA ops fr o := by
  unfold wantedA
  split
  · rfl
  · rename_i j want hg
    split
    · rename_i oj hj
      split
      · rename_i e he
        have hne : d ≠ e := by
          rintro rfl
          refine hd (List.mem_append_right _ ?_)
          rw [hg]
          simp [hj, he]
        have hb : Nat.beq d e = false := by
          cases hh : Nat.beq d e with
          | false => rfl
          | true => exact (hne (Nat.eq_of_beq_eq_true hh)).elim
        simp only [look, hb, cond_false]
      · rfl
    · rfl

theorem Holds.put {ops : List Oper} {o : Oper} {fr : Fr} {bx : List Box} {x y : SV} {d : Nat} (h : Holds P G ops o fr bx x) (hd : d ∉ readsG ops o) : Holds P G ops o ((d, y) :: fr) bx x := by
  unfold Holds
  rw [wantedA_put hd]
  exact h.imp (fun hh => ⟨hh.1, hh.2.put (fun hm => hd (List.mem_append_left _ hm))⟩) (fun hh => hh)

def L (listed : Array Bool) (i : Nat) : Prop := listed.getD i false = true

def cnt (n : Nat) (listed : Array Bool) : Nat := (List.range n).countP fun i => !listed.getD i false

theorem cnt_set {n : Nat} {listed : Array Bool} {i : Nat} (hi : i < n) (hs : listed.size = n) (h : ¬ L listed i) : cnt n (listed.setIfInBounds i true) < cnt n listed := by
  unfold cnt
  have key : ∀ (l : List Nat), (l.countP fun j => !(listed.setIfInBounds i true).getD j false) ≤ (l.countP fun j => !listed.getD j false) ∧
      (i ∈ l → (l.countP fun j => !(listed.setIfInBounds i true).getD j false) < (l.countP fun j => !listed.getD j false)) := by
    intro l
    induction l with
    | nil => simp
    | cons j l ih =>
      by_cases hj : j = i
      · subst hj
        have e1 : (listed.setIfInBounds j true).getD j false = true := by
          rw [Array.getD_eq_getD_getElem?, Array.getElem?_setIfInBounds_self_of_lt (by omega)]
          rfl
        have e2 : listed.getD j false = false := by
          unfold L at h
          cases hh : listed.getD j false <;> simp_all
        rw [List.countP_cons, List.countP_cons, e1, e2]
        simp only [Bool.not_true, Bool.not_false, if_true, Bool.false_eq_true, if_false]
        omega
      · have e1 : (listed.setIfInBounds i true).getD j false = listed.getD j false := by
          rw [Array.getD_eq_getD_getElem?, Array.getElem?_setIfInBounds_ne (by omega), ← Array.getD_eq_getD_getElem?]
        rw [List.countP_cons, List.countP_cons, e1]
        refine ⟨by omega, fun hm => ?_⟩
        have := ih.2 (by rcases List.mem_cons.1 hm with h | h; exact (hj h.symm).elim; exact h)
        omega
  exact (key _).2 (List.mem_range.2 hi)

theorem L_set {listed : Array Bool} {i j : Nat} (hi : i < listed.size) : L (listed.setIfInBounds i true) j ↔ j = i ∨ L listed j := by
  unfold L
  by_cases h : j = i
  · subst h
    rw [Array.getD_eq_getD_getElem?, Array.getElem?_setIfInBounds_self_of_lt hi]
    simp
  · rw [Array.getD_eq_getD_getElem?, Array.getElem?_setIfInBounds_ne (by omega), ← Array.getD_eq_getD_getElem?]
    simp [h]

theorem ready_iff {listed : Array Bool} (hs : listed.size = ops.length) {i : Nat} : i ∈ Region.ready .any ops.toArray listed ↔ ∃ o, ops[i]? = some o ∧ ¬ L listed i ∧ ∀ k ∈ dirs o, L listed k := by
  unfold Region.ready
  simp only [List.mem_filter, List.mem_range, List.size_toArray, List.getElem?_toArray, Bool.and_eq_true, Bool.not_eq_true']
  constructor
  · rintro ⟨h1, h2, h3⟩
    refine ⟨ops[i], by simp [h1], ?_, ?_⟩
    · unfold L
      have : listed.getD i true = listed.getD i false := by
        rw [Array.getD_eq_getD_getElem?, Array.getD_eq_getD_getElem?, Array.getElem?_eq_getElem (by omega)]
        rfl
      rw [← this, h2]
      simp
    · rw [List.getElem?_eq_getElem h1] at h3
      simp only [Option.map_some, Option.getD_some, Array.all_eq_true', Bool.or_eq_true, Bool.not_eq_true'] at h3
      intro k hk
      unfold dirs at hk
      obtain ⟨e, he, rfl⟩ := List.mem_map.1 hk
      obtain ⟨he1, he2⟩ := List.mem_filter.1 he
      rcases h3 e (by simpa using he1) with h4 | h4
      · rw [he2] at h4; cases h4
      · exact h4
  · rintro ⟨o, h1, h2, h3⟩
    have hlt := (List.getElem?_eq_some_iff.1 h1).1
    refine ⟨hlt, ?_, ?_⟩
    · have : listed.getD i true = listed.getD i false := by
        rw [Array.getD_eq_getD_getElem?, Array.getD_eq_getD_getElem?, Array.getElem?_eq_getElem (by omega)]
        rfl
      rw [this]
      unfold L at h2
      cases hh : listed.getD i false <;> simp_all
    · rw [h1]
      simp only [Option.map_some, Option.getD_some, Array.all_eq_true', Bool.or_eq_true, Bool.not_eq_true']
      intro e he
      cases hb : Region.binds .any e with
      | false => exact .inl rfl
      | true => exact .inr (h3 e.on (List.mem_map.2 ⟨e, List.mem_filter.2 ⟨by simpa using he, hb⟩, rfl⟩))

theorem DrawOk.apart_spec {ord0 : List Nat} (h : DrawOk ops es ord0) {j i : Nat} {o p : Oper} {d : Nat} (hj : ops[j]? = some o) (hd : o.dst = some d) (hi : ops[i]? = some p) :
    (i = j ∧ (j ∈ es ∨ d ∉ readsG ops p)) ∨ (i ≠ j ∧ p.dst ≠ some d ∧ (d ∉ readsG ops p ∨ reachB (ancs ops) i j = true ∨ (j ∈ es ∧ reachB (ancs ops) j i = true))) := by
  have h1 := List.all_eq_true.1 h.apart (o, j) (by rw [List.mem_zipIdx_iff_getElem?]; exact hj)
  simp only [hd] at h1
  have h2 := List.all_eq_true.1 h1 (p, i) (by rw [List.mem_zipIdx_iff_getElem?]; exact hi)
  simp only [Bool.or_eq_true, Bool.and_eq_true, beq_iff_eq, bne_iff_ne, Bool.not_eq_true', List.contains_iff_mem, ne_eq] at h2
  have hc : ∀ {l : List Nat} {x : Nat}, l.contains x = false → x ∉ l := by
    intro l x hh hm
    simp [hm] at hh
  rcases h2 with ⟨h3, h4⟩ | ⟨⟨h3, h4⟩, h5⟩
  · exact .inl ⟨h3, h4.imp id hc⟩
  · refine .inr ⟨h3, h4, ?_⟩
    rcases h5 with (h5 | h5) | h5
    · exact .inl (hc h5)
    · exact .inr (.inl h5)
    · exact .inr (.inr h5)

end
end Go.Abs

namespace Go.Abs
open Go

section
variable {P : Program} {G : Glob} {N : Nat} {ops : List Oper} {es ord0 : List Nat} {K : Ex → Fr → List Box → Prop} {B : Base} {ds : List Deferred}

/-- Where a region stands that draws its order: what is done (listed), what has been reckoned ahead of it (pend), what is still to come (ord). -/
structure InvD (P : Program) (G : Glob) (N : Nat) (ops : List Oper) (es ord0 : List Nat) (K : Ex → Fr → List Box → Prop) (B : Base) (ds : List Deferred)
    (listed : Array Bool) (pend pre ord : List Nat) (fr : Fr) (bx : List Box) (w : World) (ok : Nat → Nat) (g : List Value) (a : Act) : Prop where
  deriv : RegD P G N ops es K pend ord fr bx
  rel : RelW G B w ok g bx
  size : a.tmps.size = N
  defers : a.defers = ds
  lsize : listed.size = ops.length
  llt : ∀ i, L listed i → i < ops.length
  tmps : ∀ t, (∃ j o, j ∈ pend ∧ ¬ L listed j ∧ ops[j]? = some o ∧ o.dst = some t) ∨ RepS w ok g bx (look fr t) (a.tmps.getD t undef)
  pends : ∀ j o d, j ∈ pend → ¬ L listed j → ops[j]? = some o → o.dst = some d → Holds P G ops o fr bx (look fr d)
  split : ord0 = pre ++ ord
  done : ∀ i, L listed i → i ∈ pre
  cover : ∀ i ∈ pre, L listed i ∨ i ∈ pend
  pendpre : ∀ j ∈ pend, j ∈ pre ∧ j ∉ es ∧ ∃ o d, ops[j]? = some o ∧ o.dst = some d ∧ d < N
  down : ∀ (i : Nat) o, ops[i]? = some o → L listed i → ∀ k ∈ dirs o, L listed k

variable {listed : Array Bool} {pend pre ord : List Nat} {fr : Fr} {bx : List Box} {w : World} {ok : Nat → Nat} {g : List Value} {a : Act}

theorem InvD.reach (h : InvD P G N ops es ord0 K B ds listed pend pre ord fr bx w ok g a) {i : Nat} {o : Oper} (ho : ops[i]? = some o) (hd : ∀ k ∈ dirs o, L listed k) {j : Nat} (hr : reachB (ancs ops) i j = true) : L listed j :=
  ancs_done (D := L listed) h.down ho hd j (by unfold reachB at hr; simpa using hr)

/-- What is read by what is ready stands there. -/
theorem InvD.stands (hok : DrawOk ops es ord0) (h : InvD P G N ops es ord0 K B ds listed pend pre ord fr bx w ok g a) {i : Nat} {o : Oper} (ho : ops[i]? = some o) (hd : ∀ k ∈ dirs o, L listed k) {t : Nat} (ht : t ∈ readsG ops o) :
    RepS w ok g bx (look fr t) (a.tmps.getD t undef) := by
  rcases h.tmps t with ⟨j, p, h1, h2, h3, h4⟩ | h1
  · exfalso
    obtain ⟨_, h5, _⟩ := h.pendpre j h1
    rcases hok.apart_spec h3 h4 ho with ⟨rfl, h6 | h6⟩ | ⟨_, _, h6 | h6 | ⟨h6, _⟩⟩
    · exact h5 h6
    · exact h6 ht
    · exact h6 ht
    · exact h2 (h.reach ho hd h6)
    · exact h5 h6
  · exact h1

/-- The operands of what is ready stand there. -/
theorem InvD.operands (hok : DrawOk ops es ord0) (h : InvD P G N ops es ord0 K B ds listed pend pre ord fr bx w ok g a) {i : Nat} {o : Oper} (ho : ops[i]? = some o) (hd : ∀ k ∈ dirs o, L listed k) :
    ∀ y ∈ o.op.operands, RepS w ok g bx (ev G fr y) (a.eval y) := by
  intro y hy
  cases y with
  | tmp t => exact h.stands hok ho hd (List.mem_append_left _ (List.mem_filterMap.2 ⟨.tmp t, by simpa using hy, rfl⟩))
  | const v => simp only [ev, Act.eval, RepS, Rep]
  | global gl =>
    simp only [ev, Act.eval, RepS, Rep]
    exact ⟨gl, 0, rfl, h.rel.glob gl⟩
  | func f =>
    simp only [ev, Act.eval, RepS, RepSs]
    exact ⟨[], rfl, rfl⟩

/-- Whether what is ready is wanted. -/
theorem InvD.wanted (hok : DrawOk ops es ord0) (h : InvD P G N ops es ord0 K B ds listed pend pre ord fr bx w ok g a) {i : Nat} {o : Oper} (ho : ops[i]? = some o) (hd : ∀ k ∈ dirs o, L listed k) {b : Bool} (hw : wantedA ops fr o = some b) :
    Region.wanted o (yielded ops.toArray a.tmps) = b := by
  unfold wantedA at hw
  unfold Region.wanted
  split at hw
  · rename_i hg
    rw [hg]
    exact Option.some.inj hw
  · rename_i j want hg
    rw [hg]
    simp only
    split at hw
    · rename_i oj hj
      split at hw
      · rename_i d hdj
        split at hw
        · rename_i c hc
          have h1 := h.stands hok ho hd (t := d) (List.mem_append_right _ (by rw [hg]; simp [hj, hdj]))
          rw [hc] at h1
          simp only [RepS, Rep] at h1
          have h2 : a.tmps[d]? = some (.bool c) := by
            rw [Array.getD_eq_getD_getElem?] at h1
            cases e : a.tmps[d]? with
            | none => rw [e] at h1; cases h1
            | some v => rw [e] at h1; simp only [Option.getD_some] at h1; rw [h1]
          have h3 : yielded ops.toArray a.tmps j = some c := by
            unfold yielded
            simp only [List.getElem?_toArray, hj, Option.bind_some, hdj, h2]
          rw [h3]
          cases hw
          cases c <;> cases want <;> rfl
        · cases hw
      · cases hw
    · cases hw

theorem wpOp_of {Q : Exit → Act → World → Prop} {i : Nat} {o : Oper} (ho : ops[i]? = some o) (hw : Region.wanted o (yielded ops.toArray a.tmps) = true) {M : Act → World → Prop} (h : o.wp P a w M Q) : wpOp P ops.toArray Q i M a w := by
  unfold wpOp
  simp only [List.getElem?_toArray, ho, hw, if_true]
  exact .inl h

theorem wpOp_no {Q : Exit → Act → World → Prop} {i : Nat} {o : Oper} (ho : ops[i]? = some o) (hw : Region.wanted o (yielded ops.toArray a.tmps) = false) {M : Act → World → Prop} (h : M (a.put o.dst undef) w) : wpOp P ops.toArray Q i M a w := by
  unfold wpOp
  simp only [List.getElem?_toArray, ho, hw]
  exact h

theorem tmps_put {t d : Nat} {v : Value} (hd : d < N) (hs : a.tmps.size = N) : (a.put (some d) v).tmps.getD t undef = if t = d then v else a.tmps.getD t undef := by
  simp only [Act.put]
  by_cases h : t = d
  · subst h
    rw [Array.getD_eq_getD_getElem?, Array.getElem?_setIfInBounds_self_of_lt (by omega), if_pos rfl]
    rfl
  · rw [Array.getD_eq_getD_getElem?, Array.getElem?_setIfInBounds_ne (by omega), ← Array.getD_eq_getD_getElem?, if_neg h]

theorem look_cons {d t : Nat} {x : SV} : look ((d, x) :: fr) t = if t = d then x else look fr t := by
  simp only [look]
  by_cases h : t = d
  · subst h
    rw [if_pos rfl, Nat.beq_refl]
    rfl
  · rw [if_neg h]
    cases e : Nat.beq d t with
    | false => rfl
    | true => exact (h (Nat.eq_of_beq_eq_true e).symm).elim

/-- What is reckoned ahead of its time. -/
theorem InvD.ahead (hok : DrawOk ops es ord0) {m : Nat} {o : Oper} {d : Nat} {x : SV} (h : InvD P G N ops es ord0 K B ds listed pend pre (m :: ord) fr bx w ok g a)
    (hm : ops[m]? = some o) (hes : m ∉ es) (hd : o.dst = some d) (hlt : d < N) (hop : Holds P G ops o fr bx x) (hder : RegD P G N ops es K (m :: pend) ord ((d, x) :: fr) bx) :
    InvD P G N ops es ord0 K B ds listed (m :: pend) (pre ++ [m]) ord ((d, x) :: fr) bx w ok g a := by
  have hnd : m ∉ pre := by
    have := hok.nodup
    rw [h.split] at this
    have := (List.nodup_append.1 this).2.2
    intro hh
    exact this m hh m (List.mem_cons_self ..) rfl
  have hnl : ¬ L listed m := fun hh => hnd (h.done m hh)
  have hself : d ∉ readsG ops o := by
    rcases hok.apart_spec hm hd hm with ⟨_, h1 | h1⟩ | ⟨h1, _⟩
    · exact (hes h1).elim
    · exact h1
    · exact (h1 rfl).elim
  have hother : ∀ j p e, j ∈ pend → ¬ L listed j → ops[j]? = some p → p.dst = some e → e ≠ d ∧ d ∉ readsG ops p := by
    intro j p e h1 h2 h3 h4
    have hjp := (h.pendpre j h1).1
    have hjm : j ≠ m := fun hh => hnd (hh ▸ hjp)
    rcases hok.apart_spec hm hd h3 with ⟨h5, _⟩ | ⟨_, h5, h6⟩
    · exact (hjm h5).elim
    · refine ⟨fun hh => h5 (by rw [h4, hh]), ?_⟩
      rcases h6 with h6 | h6 | ⟨h6, _⟩
      · exact h6
      · exfalso
        -- j stands ahead of m, so it does not hang on it
        obtain ⟨p1, p2, hp⟩ := List.append_of_mem hjp
        have hsuf := hok.suf
        rw [h.split, hp, List.append_assoc, List.cons_append] at hsuf
        have := (sufOk_spec hsuf).2 m (by simp)
        rw [h6] at this
        cases this
      · exact (hes h6).elim
  exact
  { deriv := hder
    rel := h.rel
    size := h.size
    defers := h.defers
    lsize := h.lsize
    llt := h.llt
    tmps := fun t => by
      by_cases ht : t = d
      · subst ht
        exact .inl ⟨m, o, List.mem_cons_self .., hnl, hm, hd⟩
      · rw [look_cons, if_neg ht]
        rcases h.tmps t with ⟨j, p, h1, h2, h3, h4⟩ | h1
        · exact .inl ⟨j, p, List.mem_cons_of_mem _ h1, h2, h3, h4⟩
        · exact .inr h1
    pends := fun j p e h1 h2 h3 h4 => by
      rcases List.mem_cons.1 h1 with rfl | h1
      · rw [hm] at h3
        cases h3
        rw [hd] at h4
        cases h4
        rw [look_cons, if_pos rfl]
        exact hop.put hself
      · obtain ⟨h5, h6⟩ := hother j p e h1 h2 h3 h4
        rw [look_cons, if_neg h5]
        exact (h.pends j p e h1 h2 h3 h4).put h6
    split := by rw [h.split]; simp
    done := fun i hi => List.mem_append_left _ (h.done i hi)
    cover := fun i hi => by
      rcases List.mem_append.1 hi with hi | hi
      · exact (h.cover i hi).imp id (List.mem_cons_of_mem _)
      · simp only [List.mem_singleton] at hi
        subst hi
        exact .inr (List.mem_cons_self ..)
    pendpre := fun j hj => by
      rcases List.mem_cons.1 hj with rfl | hj
      · exact ⟨by simp, hes, o, d, hm, hd, hlt⟩
      · obtain ⟨h1, h2⟩ := h.pendpre j hj
        exact ⟨List.mem_append_left _ h1, h2⟩
    down := h.down }

/-- What was reckoned ahead is done. -/
theorem InvD.doPend (hok : DrawOk ops es ord0) (h : InvD P G N ops es ord0 K B ds listed pend pre ord fr bx w ok g a) {i : Nat} {o : Oper} (ho : ops[i]? = some o) (hnl : ¬ L listed i) (hd : ∀ k ∈ dirs o, L listed k) (hp : i ∈ pend)
    {M : Act → World → Prop} {Q : Exit → Act → World → Prop}
    (next : ∀ w' ok' g' a', InvD P G N ops es ord0 K B ds (listed.setIfInBounds i true) pend pre ord fr bx w' ok' g' a' → M a' w') : wpOp P ops.toArray Q i M a w := by
  obtain ⟨hpre, hes, o', d, ho', hdst, hlt⟩ := h.pendpre i hp
  rw [ho] at ho'
  cases ho'
  have hilt : i < listed.size := by rw [h.lsize]; exact (List.getElem?_eq_some_iff.1 ho).1
  have hinv : ∀ {v w' ok' g'}, RelW G B w' ok' g' bx → Ext w ok w' ok' → Laters g bx g' bx → RepS w' ok' g' bx (look fr d) v → InvD P G N ops es ord0 K B ds (listed.setIfInBounds i true) pend pre ord fr bx w' ok' g' (a.put o.dst v) := fun {v w' ok' g'} h2 h3 h4 h5 =>
    { deriv := h.deriv
      rel := h2
      size := by rw [hdst]; simp [Act.put, h.size]
      defers := by rw [hdst]; exact h.defers
      lsize := by simp [h.lsize]
      llt := fun j hj => by
        rcases (L_set hilt).1 hj with rfl | hj
        · rw [← h.lsize]; exact hilt
        · exact h.llt j hj
      tmps := fun t => by
        rw [hdst, tmps_put hlt h.size]
        by_cases ht : t = d
        · subst ht
          rw [if_pos rfl]
          exact .inr h5
        · rw [if_neg ht]
          rcases h.tmps t with ⟨j, p, e1, e2, e3, e4⟩ | e1
          · refine .inl ⟨j, p, e1, fun hj => ?_, e3, e4⟩
            rcases (L_set hilt).1 hj with rfl | hj
            · rw [ho] at e3
              cases e3
              rw [hdst] at e4
              cases e4
              exact ht rfl
            · exact e2 hj
          · exact .inr (RepS.later h3 h4 _ _ e1)
      pends := fun j p e e1 e2 e3 e4 => h.pends j p e e1 (fun hj => e2 ((L_set hilt).2 (.inr hj))) e3 e4
      split := h.split
      done := fun j hj => by
        rcases (L_set hilt).1 hj with rfl | hj
        · exact hpre
        · exact h.done j hj
      cover := fun j hj => (h.cover j hj).imp (fun hh => (L_set hilt).2 (.inr hh)) id
      pendpre := h.pendpre
      down := fun j p hj hl k hk => by
        refine (L_set hilt).2 (.inr ?_)
        rcases (L_set hilt).1 hl with rfl | hl
        · rw [ho] at hj
          cases hj
          exact hd k hk
        · exact h.down j p hj hl k hk }
  rcases h.pends i o d hp hnl ho hdst with ⟨hw, hop⟩ | ⟨hw, hj⟩
  · refine wpOp_of ho (h.wanted hok ho hd hw) ?_
    refine hop B w a ok g M Q h.rel (h.operands hok ho hd) ?_ ?_
    · rintro x b v w' ok' g' ⟨e, rfl⟩ h2 h3 h4 h5
      cases e
      exact next _ _ _ _ (hinv h2 h3 h4 h5)
    · rintro x b u w' ok' g' ⟨e, _⟩
      cases e
  · refine wpOp_no ho (h.wanted hok ho hd hw) (next _ _ _ _ (hinv h.rel (Ext.refl _ _) (Laters.refl h.rel.boxes.len) ?_))
    rw [hj]
    simp only [RepS, Rep]

end
end Go.Abs

namespace Go.Abs
open Go

section
variable {P : Program} {G : Glob} {N : Nat} {ops : List Oper} {es ord0 : List Nat} {K : Ex → Fr → List Box → Prop} {B : Base} {ds : List Deferred}
variable {listed : Array Bool} {pend pre ord : List Nat} {fr : Fr} {bx : List Box} {w : World} {ok : Nat → Nat} {g : List Value} {a : Act}

theorem InvD.fresh (hok : DrawOk ops es ord0) {m : Nat} (h : InvD P G N ops es ord0 K B ds listed pend pre (m :: ord) fr bx w ok g a) : m ∉ pre ∧ ¬ L listed m := by
  have hnd : m ∉ pre := by
    have := hok.nodup
    rw [h.split] at this
    have := (List.nodup_append.1 this).2.2
    intro hh
    exact this m hh m (List.mem_cons_self ..) rfl
  exact ⟨hnd, fun hh => hnd (h.done m hh)⟩

/-- What acts is done. -/
theorem InvD.doEff (hok : DrawOk ops es ord0) {i : Nat} {o : Oper} {pend' : List Nat} {R : Out → List Box → Prop} (h : InvD P G N ops es ord0 K B ds listed pend pre (i :: ord) fr bx w ok g a) (ho : ops[i]? = some o)
    (hd : ∀ k ∈ dirs o, L listed k) (hwant : wantedA ops fr o = some true) (hes : i ∈ es) (hdst : dstOk N o.dst = true) (heff : EffS P G o fr bx R) (hp1 : ∀ j ∈ pend, j ∈ pend' ∨ reachB (ancs ops) i j = true) (hp2 : ∀ j ∈ pend', j ∈ pend)
    (hst : ∀ x bx', R (.ret x) bx' → Stable P G ops fr pend' bx') (hder : ∀ x bx', R (.ret x) bx' → RegD P G N ops es K pend' ord (putF o.dst x fr) bx') (hpan : ∀ x bx', R (.panic x) bx' → K (.panic x) [] bx')
    {M : Act → World → Prop}
    (next : ∀ bx' fr' w' ok' g' a', InvD P G N ops es ord0 K B ds (listed.setIfInBounds i true) pend' (pre ++ [i]) ord fr' bx' w' ok' g' a' → M a' w') : wpOp P ops.toArray (QC G N B ds K) i M a w := by
  obtain ⟨hnd, hnl⟩ := h.fresh hok
  have hilt : i < listed.size := by rw [h.lsize]; exact (List.getElem?_eq_some_iff.1 ho).1
  refine wpOp_of ho (h.wanted hok ho hd hwant) (heff B w a ok g _ _ h.rel (h.operands hok ho hd) ?_ ?_)
  · intro x bx' v w' ok' g' hR h2 h3 h4 h5
    have hother : ∀ j p e d, j ∈ pend' → ¬ L listed j → ops[j]? = some p → p.dst = some e → o.dst = some d → e ≠ d ∧ d ∉ readsG ops p := by
      intro j p e d h1 h6 h7 h8 h9
      have hjp := (h.pendpre j (hp2 j h1)).1
      have hji : j ≠ i := fun hh => hnd (hh ▸ hjp)
      rcases hok.apart_spec ho h9 h7 with ⟨h10, _⟩ | ⟨_, h10, h11⟩
      · exact (hji h10).elim
      · refine ⟨fun hh => h10 (by rw [h8, hh]), ?_⟩
        rcases h11 with h11 | h11 | ⟨_, h11⟩
        · exact h11
        · exfalso
          obtain ⟨p1, p2, hp⟩ := List.append_of_mem hjp
          have hsuf := hok.suf
          rw [h.split, hp, List.append_assoc, List.cons_append] at hsuf
          have := (sufOk_spec hsuf).2 i (by simp)
          rw [h11] at this
          cases this
        · exact (h6 (h.reach ho hd h11)).elim
    refine next bx' (putF o.dst x fr) w' ok' g' (a.put o.dst v)
      { deriv := hder x bx' hR
        rel := h2
        size := by cases o.dst <;> simp [Act.put, h.size]
        defers := by cases o.dst <;> exact h.defers
        lsize := by simp [h.lsize]
        llt := fun j hj => by
          rcases (L_set hilt).1 hj with rfl | hj
          · rw [← h.lsize]; exact hilt
          · exact h.llt j hj
        tmps := fun t => by
          have hold : (∃ j p, j ∈ pend' ∧ ¬ L (listed.setIfInBounds i true) j ∧ ops[j]? = some p ∧ p.dst = some t) ∨ RepS w' ok' g' bx' (look fr t) (a.tmps.getD t undef) := by
            rcases h.tmps t with ⟨j, p, e1, e2, e3, e4⟩ | e1
            · refine .inl ⟨j, p, ?_, fun hj => ?_, e3, e4⟩
              · rcases hp1 j e1 with hh | hh
                · exact hh
                · exact (e2 (h.reach ho hd hh)).elim
              · rcases (L_set hilt).1 hj with rfl | hj
                · exact hnd (h.pendpre j e1).1
                · exact e2 hj
            · exact .inr (RepS.later h3 h4 _ _ e1)
          cases hd2 : o.dst with
          | none => exact hold
          | some d =>
            have hlt : d < N := by rw [hd2] at hdst; exact Nat.le_of_ble_eq_true hdst
            rw [tmps_put hlt h.size]
            simp only [putF]
            rw [look_cons]
            by_cases ht : t = d
            · rw [if_pos ht, if_pos ht]
              exact .inr h5
            · rw [if_neg ht, if_neg ht]
              exact hold
        pends := fun j p e e1 e2 e3 e4 => by
          have e5 := hst x bx' hR j e1 p e e3 e4
          cases hd2 : o.dst with
          | none => exact e5
          | some d =>
            obtain ⟨e6, e7⟩ := hother j p e d e1 (fun hj => e2 ((L_set hilt).2 (.inr hj))) e3 e4 hd2
            simp only [putF]
            rw [look_cons, if_neg e6]
            exact e5.put e7
        split := by rw [h.split]; simp
        done := fun j hj => by
          rcases (L_set hilt).1 hj with rfl | hj
          · simp
          · exact List.mem_append_left _ (h.done j hj)
        cover := fun j hj => by
          rcases List.mem_append.1 hj with hj | hj
          · rcases h.cover j hj with hh | hh
            · exact .inl ((L_set hilt).2 (.inr hh))
            · rcases hp1 j hh with h6 | h6
              · exact .inr h6
              · exact .inl ((L_set hilt).2 (.inr (h.reach ho hd h6)))
          · simp only [List.mem_singleton] at hj
            subst hj
            exact .inl ((L_set hilt).2 (.inl rfl))
        pendpre := fun j hj => by
          obtain ⟨h6, h7⟩ := h.pendpre j (hp2 j hj)
          exact ⟨List.mem_append_left _ h6, h7⟩
        down := fun j p hj hl k hk => by
          refine (L_set hilt).2 (.inr ?_)
          rcases (L_set hilt).1 hl with rfl | hl
          · rw [ho] at hj
            cases hj
            exact hd k hk
          · exact h.down j p hj hl k hk }
  · intro x bx' u w' ok' g' hR h2 h3 h4 h5
    refine ⟨.panic x, [], bx', ok', g', ⟨u, rfl, h5⟩, h2, ⟨h.size, fun t => ?_, h.defers⟩, hpan x bx' hR⟩
    simp only [look, RepS, Rep]

/-- The next one that is ready, wherever it stands in the order. -/
theorem InvD.next (hok : DrawOk ops es ord0) {i : Nat} {o : Oper} (ho : ops[i]? = some o) (hd : ∀ k ∈ dirs o, L listed k) (hnl : ¬ L listed i) {M : Act → World → Prop}
    (next : ∀ pend pre ord bx' fr' w' ok' g' a', InvD P G N ops es ord0 K B ds (listed.setIfInBounds i true) pend pre ord fr' bx' w' ok' g' a' → M a' w') :
    ∀ {ord pend pre : List Nat} {fr : Fr}, InvD P G N ops es ord0 K B ds listed pend pre ord fr bx w ok g a → (i ∈ pend ∨ i ∈ ord) → wpOp P ops.toArray (QC G N B ds K) i M a w := by
  intro ord
  induction ord with
  | nil =>
    intro pend pre fr h hi
    rcases hi with hi | hi
    · exact h.doPend hok ho hnl hd hi (fun w' ok' g' a' hh => next _ _ _ _ _ _ _ _ _ hh)
    · cases hi
  | cons m ord ih =>
    intro pend pre fr h hi
    by_cases hp : i ∈ pend
    · exact h.doPend hok ho hnl hd hp (fun w' ok' g' a' hh => next _ _ _ _ _ _ _ _ _ hh)
    · have hi : i ∈ m :: ord := hi.resolve_left hp
      have hder := h.deriv
      cases hder with
      | pure e1 e2 e3 e4 e5 e6 =>
        refine ih (h.ahead hok e1 e2 e3 e4 e5 e6) ?_
        rcases List.mem_cons.1 hi with rfl | hi
        · exact .inl (List.mem_cons_self ..)
        · exact .inr hi
      | eff e1 ew e2 e3 e4 e5 e6 e7 e8 e9 =>
        rcases List.mem_cons.1 hi with rfl | hi
        · rw [ho] at e1
          cases e1
          exact h.doEff hok ho hd ew e2 e3 e4 e5 e6 e7 e8 e9 (fun bx' fr' w' ok' g' a' hh => next _ _ _ _ _ _ _ _ _ hh)
        · exfalso
          have hsuf := hok.suf
          rw [h.split] at hsuf
          have := (sufOk_spec hsuf).1 e2 i hi
          exact (h.fresh hok).2 (h.reach ho hd this)

theorem InvD.any (hok : DrawOk ops es ord0) : ∀ (fuel : Nat) {listed : Array Bool} {pend pre ord : List Nat} {fr : Fr} {bx : List Box} {w : World} {ok : Nat → Nat} {g : List Value} {a : Act},
    InvD P G N ops es ord0 K B ds listed pend pre ord fr bx w ok g a → cnt ops.length listed ≤ fuel → wpAny P .any ops.toArray (QC G N B ds K) fuel listed a w := by
  have fin : ∀ {listed : Array Bool} {pend pre ord : List Nat} {fr : Fr} {bx : List Box} {w : World} {ok : Nat → Nat} {g : List Value} {a : Act},
      InvD P G N ops es ord0 K B ds listed pend pre ord fr bx w ok g a → (∀ i, i < ops.length → L listed i) → QC G N B ds K .normal a w := by
    intro listed pend pre ord fr bx w ok g a h hall
    have hder := h.deriv
    cases hder with
    | nil hk =>
      refine ⟨.normal, fr, bx, ok, g, rfl, h.rel, ⟨h.size, fun t => ?_, h.defers⟩, hk⟩
      rcases h.tmps t with ⟨j, p, e1, e2, e3, e4⟩ | e1
      · exact (e2 (hall j (List.getElem?_eq_some_iff.1 e3).1)).elim
      · exact e1
    | pure e1 => exact ((h.fresh hok).2 (hall _ (List.getElem?_eq_some_iff.1 e1).1)).elim
    | eff e1 => exact ((h.fresh hok).2 (hall _ (List.getElem?_eq_some_iff.1 e1).1)).elim
  have stuckless : ∀ {listed : Array Bool}, listed.size = ops.length → Region.ready .any ops.toArray listed = [] → ∀ i, i < ops.length → L listed i := by
    intro listed hs hr i
    induction i using Nat.strongRecOn with
    | _ i ih =>
      intro hi
      apply Classical.byContradiction
      intro hn
      have : i ∈ Region.ready .any ops.toArray listed := (ready_iff hs).2 ⟨ops[i], by simp [hi], hn, fun k hk => by
        have h1 := List.all_eq_true.1 hok.low (ops[i], i) (by rw [List.mem_zipIdx_iff_getElem?]; simp [hi])
        have h2 := of_decide_eq_true (List.all_eq_true.1 h1 k hk)
        exact ih k h2 (by omega)⟩
      rw [hr] at this
      cases this
  intro fuel
  induction fuel with
  | zero =>
    intro listed pend pre ord fr bx w ok g a h hc
    have hall : ∀ i, i < ops.length → L listed i := by
      intro i hi
      apply Classical.byContradiction
      intro hn
      have := cnt_set hi h.lsize hn
      omega
    refine ⟨?_, fin h hall⟩
    cases hr : Region.ready .any ops.toArray listed with
    | nil => rfl
    | cons i r =>
      have hi : i ∈ Region.ready .any ops.toArray listed := by rw [hr]; exact List.mem_cons_self ..
      obtain ⟨o, h1, h2, _⟩ := (ready_iff h.lsize).1 hi
      exact (h2 (hall i (List.getElem?_eq_some_iff.1 h1).1)).elim
  | succ fuel ih =>
    intro listed pend pre ord fr bx w ok g a h hc
    refine ⟨fun hr => fin h (stuckless h.lsize hr), fun i hi => ?_⟩
    obtain ⟨o, h1, h2, h3⟩ := (ready_iff h.lsize).1 hi
    have hilt := (List.getElem?_eq_some_iff.1 h1).1
    have hmem : i ∈ pend ∨ i ∈ ord := by
      have h4 := List.all_eq_true.1 hok.all i (List.mem_range.2 hilt)
      have h4 : i ∈ ord0 := by simpa using h4
      rw [h.split] at h4
      rcases List.mem_append.1 h4 with h5 | h5
      · rcases h.cover i h5 with h6 | h6
        · exact (h2 h6).elim
        · exact .inl h6
      · exact .inr h5
    refine InvD.next hok h1 h3 h2 (M := wpAny P .any ops.toArray (QC G N B ds K) fuel (listed.setIfInBounds i true)) ?_ h hmem
    intro pend' pre' ord' bx' fr' w' ok' g' a' hh
    exact ih hh (by have := cnt_set hilt h.lsize h2; omega)

/-- A region that draws its order, by one order. -/
theorem AW.draw {id : Nat} {opsA : Array Oper} {fr : Fr} {bx : List Box} (es ord : List Nat) (hm : P.follows .mixedOrders = true) (hok : DrawOk opsA.toList es ord) (h : RegD P G N opsA.toList es K [] ord fr bx) : AW P G N (.region id opsA true) K fr bx := by
  intro B ds w a ok g hr hf
  refine wp_region_any hm ?_
  have hx := Ext.drew w ok (w.drawn + 1)
  have hl := Laters.refl hr.boxes.len
  have hf' := hf.step (w' := { w with drawn := w.drawn + 1 }) hx hl
  have hn : ∀ i, ¬ L (Array.replicate opsA.toList.length false) i := by
    intro i hi
    unfold L at hi
    rw [Array.getD_eq_getD_getElem?, Array.getElem?_replicate] at hi
    split at hi <;> cases hi
  have hinv : InvD P G N opsA.toList es ord K B ds (Array.replicate opsA.toList.length false) [] [] ord fr bx { w with drawn := w.drawn + 1 } ok g a :=
    { deriv := h
      rel := hr.drew _
      size := hf.size
      defers := hf.defers
      lsize := by simp
      llt := fun i hi => (hn i hi).elim
      tmps := fun t => .inr (hf'.tmps t)
      pends := fun j o d hj => by cases hj
      split := rfl
      done := fun i hi => (hn i hi).elim
      cover := fun i hi => by cases hi
      pendpre := fun j hj => by cases hj
      down := fun i o _ hi => (hn i hi).elim }
  have := hinv.any hok opsA.toList.length (by
    unfold cnt
    exact Nat.le_trans List.countP_le_length (by simp))
  simpa using this

end
end Go.Abs

namespace Go.Abs
open Go

section
variable {P : Program} {T : Tab} {G : Glob} {N : Nat} {fr : Fr} {bx bx' : List Box} {K : Ex → Fr → List Box → Prop}

theorem AW.reg {id : Nat} {ops : Array Oper} (h : Reg P G N ops K (List.range' 0 ops.size) fr bx) : AW P G N (.region id ops false) K fr bx :=
  AW.region (by rw [List.range_eq_range']; exact h)

/-- A plain operation with a result. -/
theorem Reg.opS (hT : T.Ok P) {ops : Array Oper} {i : Nat} {rest : List Nat} {o : Oper} {d : Nat} {hint : List AV} {c : Prop} {x : SV} (ho : ops[i]? = some o) (hg : o.guard = none) (hd : o.dst = some d) (hN : Nat.blt d N = true)
    (he : evalO G T hint o.op o.type fr bx = .ok c x bx') (hc : c) (h : Reg P G N ops K rest ((d, x) :: fr) bx') : Reg P G N ops K (i :: rest) fr bx := by
  refine Reg.op ho hg (by rw [hd]; exact hN) (evalO_sound hT he hc) ?_
  rw [hd]
  exact h

/-- A plain operation without a result. -/
theorem Reg.opN (hT : T.Ok P) {ops : Array Oper} {i : Nat} {rest : List Nat} {o : Oper} {hint : List AV} {c : Prop} {x : SV} (ho : ops[i]? = some o) (hg : o.guard = none) (hd : o.dst = none)
    (he : evalO G T hint o.op o.type fr bx = .ok c x bx') (hc : c) (h : Reg P G N ops K rest fr bx') : Reg P G N ops K (i :: rest) fr bx := by
  refine Reg.op ho hg (by rw [hd]; rfl) (evalO_sound hT he hc) ?_
  rw [hd]
  exact h

/-- A guarded operation: both ways. -/
theorem Reg.ifS (hT : T.Ok P) {ops : Array Oper} {i : Nat} {rest : List Nat} {o oj : Oper} {d dj j : Nat} {want b : Bool} {hint : List AV} {c : Prop} {x : SV} (ho : ops[i]? = some o) (hg : o.guard = some (j, want)) (hj : ops[j]? = some oj)
    (hdj : oj.dst = some dj) (hb : look fr dj = .d (.val (.bool b))) (hbw : (b == want) = true) (hd : o.dst = some d) (hN : Nat.blt d N = true)
    (he : evalO G T hint o.op o.type fr bx = .ok c x bx') (hc : c) (h : Reg P G N ops K rest ((d, x) :: fr) bx') : Reg P G N ops K (i :: rest) fr bx := by
  refine Reg.wanted ho hg hj hdj hb hbw (by rw [hd]; exact hN) (evalO_sound hT he hc) ?_
  rw [hd]
  exact h
theorem Reg.ifN {ops : Array Oper} {i : Nat} {rest : List Nat} {o oj : Oper} {d dj j : Nat} {want b : Bool} (ho : ops[i]? = some o) (hg : o.guard = some (j, want)) (hj : ops[j]? = some oj)
    (hdj : oj.dst = some dj) (hb : look fr dj = .d (.val (.bool b))) (hbw : (b == want) = false) (hd : o.dst = some d) (hN : Nat.blt d N = true)
    (h : Reg P G N ops K rest ((d, .d .junk) :: fr) bx) : Reg P G N ops K (i :: rest) fr bx := by
  refine Reg.unwanted ho hg hj hdj hb hbw (by rw [hd]; exact hN) ?_
  rw [hd]
  exact h

theorem RegD.pureS (hT : T.Ok P) {ops : List Oper} {es pend ord : List Nat} {i : Nat} {o : Oper} {d : Nat} {hint : List AV} {c : Prop} {x : SV} (ho : ops[i]? = some o) (hes : es.contains i = false) (hd : o.dst = some d) (hN : Nat.blt d N = true)
    (hw : wantedA ops fr o = some true) (he : evalO G T hint o.op o.type fr bx = .ok c x bx) (hc : c) (h : RegD P G N ops es K (i :: pend) ord ((d, x) :: fr) bx) : RegD P G N ops es K pend (i :: ord) fr bx :=
  RegD.pure ho (fun hh => by simp [hh] at hes) hd (Nat.le_of_ble_eq_true hN) (.inl ⟨hw, EffS.ofOp (evalO_sound hT he hc)⟩) h

theorem RegD.skipS {ops : List Oper} {es pend ord : List Nat} {i : Nat} {o : Oper} {d : Nat} (ho : ops[i]? = some o) (hes : es.contains i = false) (hd : o.dst = some d) (hN : Nat.blt d N = true)
    (hw : wantedA ops fr o = some false) (h : RegD P G N ops es K (i :: pend) ord ((d, .d .junk) :: fr) bx) : RegD P G N ops es K pend (i :: ord) fr bx :=
  RegD.pure ho (fun hh => by simp [hh] at hes) hd (Nat.le_of_ble_eq_true hN) (.inr ⟨hw, rfl⟩) h

theorem RegD.effS (hT : T.Ok P) {ops : List Oper} {es pend ord : List Nat} (pend' : List Nat) {i : Nat} {o : Oper} {hint : List AV} {c : Prop} {x : SV} (ho : ops[i]? = some o) (hw : wantedA ops fr o = some true) (hes : es.contains i = true) (hd : dstOk N o.dst = true)
    (hp1 : (pend.all fun j => pend'.contains j || reachB (ancs ops) i j) = true) (hp2 : (pend'.all fun j => pend.contains j) = true)
    (he : evalO G T hint o.op o.type fr bx = .ok c x bx') (hc : c) (hst : Stable P G ops fr pend' bx') (h : RegD P G N ops es K pend' ord (putF o.dst x fr) bx') : RegD P G N ops es K pend (i :: ord) fr bx := by
  refine RegD.eff (pend' := pend') ho hw (by simpa using hes) hd (EffS.ofOp (evalO_sound hT he hc)) ?_ ?_ ?_ ?_ ?_
  · intro j hj
    have := List.all_eq_true.1 hp1 j hj
    simpa using this
  · intro j hj
    have := List.all_eq_true.1 hp2 j hj
    simpa using this
  · rintro x' b ⟨e, rfl⟩
    exact hst
  · rintro x' b ⟨e, rfl⟩
    cases e
    exact h
  · rintro x' b ⟨e, _⟩
    cases e

theorem Stable.nil {ops : List Oper} : Stable P G ops fr [] bx := fun _ h => by cases h

/-- A call, as an operation that acts. -/
theorem EffS.call (hT : T.Ok P) {o : Oper} (σ : List Nat) {args0 : List SV} {bx0 : List Box} {R : Out → List Box → Prop} {fo : Operand} {args : Array Operand} {ts : Array TypeId} {f : FuncId} {cap : List SV}
    (hspec : ACalls P G f args0 bx0 R) (hcall : Callable P f) (hop : o.op = .call ⟨.value fo, args, ts⟩) (hf : ev G fr fo = .clo f cap) (hn : σ.Nodup)
    (ha : argsV G T fr args.toList ts.toList ++ cap = SV.rens (rn σ bx.length) args0) (hb : Picks σ bx bx0) :
    EffS P G o fr bx (fun out b => ∃ out1 bx1, R out1 bx1 ∧ b = mergeAt σ bx (bx1.map (Box.ren (rn σ bx.length))) ∧ out = match out1 with | .ret x => .ret (x.ren (rn σ bx.length)) | .panic x => .panic x) := by
  intro B w a ok g next Q hr ho h1 h2
  obtain ⟨g0, hg0, hbl, hlt, hc, hsub⟩ := hb.sub hn hr
  have hf1 := ho fo (by rw [hop]; simp [Op.operands, Call.operands])
  rw [hf] at hf1
  simp only [RepS] at hf1
  obtain ⟨cl, h3, h4⟩ := hf1
  have h5 : RepSs w ok g bx (argsV G T fr args.toList ts.toList ++ cap) (args.toList.map a.eval ++ cl) :=
    (argsV_rep hT (fun y hy => ho y (by rw [hop]; simp [Op.operands, Call.operands]; exact .inr (by simpa using hy)))).append h4
  rw [ha, RepSs.ren hc] at h5
  have h6 := hspec w ok g0 _ hsub h5
  unfold Oper.wp
  rw [run_call hop h3 hcall w]
  simp only [Oper.upon_enter]
  refine h6.mono ?_
  rintro e w' ⟨out, ok', g', bx1, h7, h8, h9⟩
  obtain ⟨m1, m2, m3⟩ := hr.merge hn hlt hg0 hbl hc h7
  have hx : Ext w ok w' ok' := h7.ext
  cases out with
  | ret x =>
    obtain ⟨v, rfl, h10⟩ := h8
    exact h1 _ _ v w' ok' _ ⟨_, _, h9, rfl, rfl⟩ m1 hx m3 ((RepS.ren m2 x v).2 h10)
  | panic x =>
    obtain ⟨u, rfl, h10⟩ := h8
    exact h2 x _ u w' ok' _ ⟨_, _, h9, rfl, rfl⟩ m1 hx m3 h10

/-- Calls of functions that ask no boxes of their caller. -/
theorem Reg.call0 (hT : T.Ok P) {ops : Array Oper} {i : Nat} {rest : List Nat} {o : Oper} {args0 : List SV} {fo : Operand} {args : Array Operand} {ts : Array TypeId} {f : FuncId} {d : Nat} {x : SV}
    (hspec : ACalls P G f args0 [] fun out b => out = .ret x ∧ b = []) (hcall : Callable P f) (ho : ops[i]? = some o) (hg : o.guard = none) (hd : o.dst = some d) (hN : Nat.blt d N = true) (hop : o.op = .call ⟨.value fo, args, ts⟩)
    (hf : ev G fr fo = .clo f []) (ha : argsV G T fr args.toList ts.toList ++ [] = SV.rens (rn [] bx.length) args0) (hx : x.ren (rn [] bx.length) = x)
    (hk : Reg P G N ops K rest ((d, x) :: fr) bx) : Reg P G N ops K (i :: rest) fr bx := by
  refine Reg.call hT [] hspec hcall ho (.inl hg) (by rw [hd]; exact hN) hop hf List.nodup_nil ha rfl ?_
  rintro out bx1 ⟨rfl, rfl⟩
  have e : mergeAt [] bx (List.map (Box.ren (rn [] bx.length)) []) = bx := by
    unfold mergeAt
    apply List.ext_getElem?
    intro j
    simp [List.idxOf?, List.getElem?_mapIdx]
  simp only [afterCall, hx, hd, putF, e]
  exact hk

theorem AW.condS {c : Operand} {x y : Code} {b : Bool} (hc : ev G fr c = .d (.val (.bool b))) (ht : b = true → AW P G N x K fr bx) (hf : b = false → AW P G N y K fr bx) :
    AW P G N (.cond c x y) K fr bx := AW.cond hc ht hf
theorem AW.condT {c : Operand} {x y : Code} (hc : ev G fr c = .d (.val (.bool true))) (ht : AW P G N x K fr bx) : AW P G N (.cond c x y) K fr bx := AW.cond hc (fun _ => ht) (fun h => by cases h)
theorem AW.condF {c : Operand} {x y : Code} (hc : ev G fr c = .d (.val (.bool false))) (hf : AW P G N y K fr bx) : AW P G N (.cond c x y) K fr bx := AW.cond hc (fun h => by cases h) (fun _ => hf)

theorem thenA_normal {next : Fr → List Box → Prop} (h : next fr bx) : thenA next K .normal fr bx := h

end
end Go.Abs

namespace Go.Abs
open Go

section
variable {G : Glob} {B : Base} {w w' : World} {ok ok' : Nat → Nat} {g : List Value} {bx : List Box}

theorem RelB.lt_of_acc (h : RelB w ok g bx) {id size n : Nat} (hb : bx[id]? = some (.acc size n)) : id < bx.length ∧ id < g.length := by
  have := (List.getElem?_eq_some_iff.1 hb).1
  rw [h.len]
  exact ⟨this, this⟩

/-- The right to append, at a slice that has no room, or that is nil. -/
theorem RelW.adopt (h : RelW G B w ok g bx) (p : Option Addr) (size n : Nat) :
    RelW G B w ok (g ++ [.slice p n n]) (bx ++ [.acc size n]) ∧ Laters g bx (g ++ [.slice p n n]) (bx ++ [.acc size n]) := by
  have hl := Laters.append h.boxes.len [.slice p n n] [.acc size n]
  have hb : blk [Value.slice p n n] [Box.acc size n] 0 = none := by
    cases p <;> simp [blk]
  refine ⟨h.step (Ext.refl _ _) (fun i _ => hl i) (Nat.le_refl _) (fun _ _ _ => ⟨rfl, rfl⟩) ?_ h.wf ⟨rfl, rfl, rfl⟩ h.len_le ?_, hl⟩
  · intro i b hi
    rw [blk_append h.boxes.len, hb] at hi
    split at hi
    · exact .inl ⟨i, hi⟩
    · split at hi <;> cases hi
  · exact
    { len := by simp [h.boxes.len]
      cells := fun i cs hi => by
        rcases Nat.lt_or_ge i bx.length with hlt | hge
        · rw [List.getElem?_append_left hlt] at hi
          obtain ⟨b, arr, E, h1, h2, h3, h4⟩ := h.boxes.cells i cs hi
          have hlen := h.boxes.len
          exact ⟨b, arr, E, by rw [List.getElem?_append_left (by omega)]; exact h1, h2, h3, RepSs.later (Ext.refl _ _) hl _ _ h4⟩
        · rw [List.getElem?_append_right hge] at hi
          cases hj : i - bx.length with
          | zero => rw [hj] at hi; cases hi
          | succ m => rw [hj] at hi; cases hi
      acc := fun i s hw hi => by
        rcases Nat.lt_trichotomy i bx.length with hlt | rfl | hgt
        · rw [List.getElem?_append_left hlt] at hi
          obtain ⟨q, cap, h1, h2⟩ := h.boxes.acc i s hw hi
          have hlen := h.boxes.len
          exact ⟨q, cap, by rw [List.getElem?_append_left (by omega)]; exact h1, h2⟩
        · rw [List.getElem?_append_right (Nat.le_refl _), Nat.sub_self] at hi
          cases hi
          exact ⟨p, n, by rw [← h.boxes.len, List.getElem?_append_right (Nat.le_refl _), Nat.sub_self]; rfl, Nat.le_refl _, .inl rfl⟩
        · rw [List.getElem?_eq_none_iff.2 (by simp; omega)] at hi
          cases hi
      apart := fun i j b hi hj => by
        rw [blk_append h.boxes.len, hb] at hi hj
        split at hi
        · split at hj
          · exact h.boxes.apart i j b hi hj
          · split at hj <;> cases hj
        · split at hi <;> cases hi }

/-- A slice with the right to append grows. -/
theorem RelW.accSet (h : RelW G B w ok g bx) {id size n n' cap' : Nat} {p' : Option Addr} (hb : bx[id]? = some (.acc size n)) (hn : n < n') (hx : Ext w ok w' ok') (hsize : w.heap.size ≤ w'.heap.size)
    (hrest : w'.tape = w.tape ∧ w'.os = w.os ∧ w'.output = w.output) (hwf : ∀ b, ok' b ≠ 0 → b < w'.heap.size)
    (hkeep : ∀ b, b < w.heap.size → blk g bx id ≠ some b → w'.heap[b]? = w.heap[b]? ∧ ok' b = ok b)
    (hcap : n' ≤ cap') (hv : cap' = n' ∨ ∃ b arr E, p' = some (pl b 0) ∧ w'.heap[b]? = some (.cells arr E (0, 0)) ∧ arr.size = cap' * size ∧ ok' b = n' * size ∧ (blk g bx id = some b ∨ w.heap.size ≤ b)) :
    RelW G B w' ok' (g.set id (.slice p' n' cap')) (bx.set id (.acc size n')) ∧ Laters g bx (g.set id (.slice p' n' cap')) (bx.set id (.acc size n')) := by
  obtain ⟨hlt, hltg⟩ := h.boxes.lt_of_acc hb
  have hl : Laters g bx (g.set id (.slice p' n' cap')) (bx.set id (.acc size n')) := by
    intro j
    by_cases hj : id = j
    · subst hj
      rw [List.getElem?_set_self hlt, List.getElem?_set_self hltg, hb]
      exact .inl ⟨n', rfl, by omega, fun e => by omega⟩
    · rw [List.getElem?_set_ne hj, List.getElem?_set_ne hj]
      exact Laters.refl h.boxes.len j
  have hblk : ∀ j, j ≠ id → blk (g.set id (.slice p' n' cap')) (bx.set id (.acc size n')) j = blk g bx j := by
    intro j hj
    unfold blk
    rw [List.getElem?_set_ne (fun e => hj e.symm), List.getElem?_set_ne (fun e => hj e.symm)]
  have hblkid : ∀ b, blk (g.set id (.slice p' n' cap')) (bx.set id (.acc size n')) id = some b → blk g bx id = some b ∨ w.heap.size ≤ b := by
    intro b hbb
    unfold blk at hbb
    rw [List.getElem?_set_self hlt, List.getElem?_set_self hltg] at hbb
    cases p' with
    | none => cases hbb
    | some a =>
      simp only at hbb
      split at hbb
      · cases hbb
      · rename_i hne
        cases hbb
        rcases hv with hv | ⟨b2, arr, E, e1, _, _, _, e2⟩
        · exact (hne hv).elim
        · cases e1
          exact e2
  have heap_other : ∀ j b, j ≠ id → blk g bx j = some b → w'.heap[b]? = w.heap[b]? ∧ ok' b = ok b := by
    intro j b hj hbb
    exact hkeep b (h.boxes.blk_lt hbb) (fun e => hj (h.boxes.apart j id b hbb e))
  refine ⟨h.step hx (fun i _ => hl i) hsize ?_ ?_ hwf hrest h.len_le ?_, hl⟩
  · intro b hlt2 hnone
    exact hkeep b hlt2 (hnone id)
  · intro j b hj
    by_cases e : j = id
    · subst e
      rcases hblkid b hj with h1 | h1
      · exact .inl ⟨_, h1⟩
      · exact .inr h1
    · rw [hblk j e] at hj
      exact .inl ⟨j, hj⟩
  · exact
    { len := by rw [List.length_set, List.length_set]; exact h.boxes.len
      cells := fun j cs hj => by
        have e : id ≠ j := by
          rintro rfl
          rw [List.getElem?_set_self hlt] at hj
          cases hj
        rw [List.getElem?_set_ne e] at hj
        obtain ⟨b, arr, E, h1, h2, h3, h4⟩ := h.boxes.cells j cs hj
        obtain ⟨h5, h6⟩ := heap_other j b (fun h => e h.symm) (by unfold blk; rw [hj, h1])
        exact ⟨b, arr, E, by rw [List.getElem?_set_ne e]; exact h1, h5.trans h2, h6.trans h3, RepSs.later hx hl _ _ h4⟩
      acc := fun j s hw hj => by
        by_cases e : id = j
        · subst e
          rw [List.getElem?_set_self hlt] at hj
          cases hj
          refine ⟨p', cap', by rw [List.getElem?_set_self hltg], hcap, hv.imp (fun e => e) ?_⟩
          rintro ⟨b, arr, E, e1, e2, e3, e4, _⟩
          exact ⟨b, arr, E, e1, e2, e3, e4⟩
        · rw [List.getElem?_set_ne e] at hj
          obtain ⟨q, cap, h1, h2, h3⟩ := h.boxes.acc j s hw hj
          refine ⟨q, cap, by rw [List.getElem?_set_ne e]; exact h1, h2, ?_⟩
          by_cases hc : cap = hw
          · exact .inl hc
          · rcases h3 with h3 | ⟨b, arr, E, e1, e2, e3, e4⟩
            · exact (hc h3).elim
            · obtain ⟨h5, h6⟩ := heap_other j b (fun h => e h.symm) (by unfold blk; rw [hj, h1, e1]; simp only [if_neg hc])
              exact .inr ⟨b, arr, E, e1, h5.trans e2, e3, h6.trans e4⟩
      apart := fun i j b hi hj => by
        by_cases ei : i = id
        · subst ei
          by_cases ej : j = i
          · exact ej.symm
          · rw [hblk j ej] at hj
            rcases hblkid b hi with h1 | h1
            · exact h.boxes.apart i j b h1 hj
            · have := h.boxes.blk_lt hj
              omega
        · rw [hblk i ei] at hi
          by_cases ej : j = id
          · subst ej
            rcases hblkid b hj with h1 | h1
            · exact h.boxes.apart i j b hi h1
            · have := h.boxes.blk_lt hi
              omega
          · rw [hblk j ej] at hj
            exact h.boxes.apart i j b hi hj }

/-- Cells that lie one behind the other, in a block of which so many are settled. -/
theorem RepAt.ofLe {b m : Nat} {arr : Array Value} {E : TypeId} {fz : Nat × Nat} (hh : w.heap[b]? = some (.cells arr E fz)) (hok : m ≤ ok b) :
    ∀ {as : List AV} {l : List Value} {o : Nat}, Reps w ok as l → o + as.length ≤ m → (∀ j v, l[j]? = some v → arr[o + j]? = some v) → RepAt w ok as b o
  | [], _, _, _, _, _ => by simp only [RepAt]
  | x :: as, l, o, h, hm, hl => by
    simp only [Reps] at h
    obtain ⟨v, r, rfl, h1, h2⟩ := h
    have h3 := hl 0 v rfl
    simp only [Nat.add_zero] at h3
    simp only [List.length_cons] at hm
    simp only [RepAt]
    refine ⟨by omega, ⟨v, by rw [cell_at hh]; exact h3, h1⟩, RepAt.ofLe hh hok h2 (by omega) ?_⟩
    intro j u hj
    have := hl (j + 1) u (by simpa using hj)
    rw [show o + 1 + j = o + (j + 1) by omega]
    exact this

theorem RepRows.ofLe {b m : Nat} {arr : Array Value} {E : TypeId} {fz : Nat × Nat} (hh : w.heap[b]? = some (.cells arr E fz)) (hok : m ≤ ok b) {size : Nat} :
    ∀ {rows : List (List AV)} {vs : List (List Value)} {o : Nat}, RepL w ok size rows vs → o + rows.length * size ≤ m → (∀ j v, vs.flatten[j]? = some v → arr[o + j]? = some v) → RepRows w ok rows size b o
  | [], _, _, _, _, _ => by simp only [RepRows]
  | r :: rows, _, o, h, hm, hl => by
    simp only [RepL] at h
    obtain ⟨l, vs, rfl, h1, h2⟩ := h
    have hlen := h1.1.length
    simp only [List.length_cons, Nat.add_mul, Nat.one_mul] at hm
    simp only [RepRows]
    refine ⟨h1.2, RepAt.ofLe hh hok h1.1 (by omega) ?_, RepRows.ofLe hh hok h2 (by omega) ?_⟩
    · intro j v hj
      refine hl j v ?_
      simp only [List.flatten_cons]
      rw [List.getElem?_append_left (List.getElem?_eq_some_iff.1 hj).1]
      exact hj
    · intro j v hj
      have := hl (size + j) v (by
        simp only [List.flatten_cons]
        rw [List.getElem?_append_right (by omega)]
        rw [show size + j - l.length = j by omega]
        exact hj)
      rw [Nat.add_assoc]
      exact this

theorem RepRows.load {size : Nat} : ∀ {rows : List (List AV)} {b o : Nat}, RepRows w ok rows size b o →
    ∃ vs : List (List Value), RepL w ok size rows vs ∧ ∀ j u, vs.flatten[j]? = some u → w.cell? ((pl b o).add j) = some u
  | [], b, o, _ => ⟨[], rfl, by simp⟩
  | r :: rows, b, o, h => by
    simp only [RepRows] at h
    obtain ⟨h1, h2, h3⟩ := h
    obtain ⟨l, e1, e2, e3⟩ := h2.load r.length (Nat.le_refl _)
    rw [List.take_length] at e3
    obtain ⟨vs, e4, e5⟩ := RepRows.load h3
    refine ⟨l :: vs, ⟨l, vs, rfl, ⟨e3, h1⟩, e4⟩, ?_⟩
    intro j u hj
    simp only [List.flatten_cons] at hj
    rcases Nat.lt_or_ge j l.length with hlt | hge
    · rw [List.getElem?_append_left hlt] at hj
      exact e2 j u hj
    · rw [List.getElem?_append_right hge] at hj
      have := e5 _ u hj
      rw [add_pl] at this ⊢
      rw [show o + j = o + size + (j - l.length) by omega]
      exact this

theorem RepL.flat_length {size : Nat} : ∀ {rows : List (List AV)} {vs : List (List Value)}, RepL w ok size rows vs → vs.flatten.length = rows.length * size
  | [], _, h => by
    simp only [RepL] at h
    subst h
    simp
  | r :: rows, _, h => by
    simp only [RepL] at h
    obtain ⟨l, vs, rfl, h1, h2⟩ := h
    simp only [List.flatten_cons, List.length_append, List.length_cons, Nat.add_mul, Nat.one_mul, RepL.flat_length h2, h1.1.length, h1.2]
    omega

theorem RepL.append {size : Nat} : ∀ {rows rows2 : List (List AV)} {vs vs2 : List (List Value)}, RepL w ok size rows vs → RepL w ok size rows2 vs2 → RepL w ok size (rows ++ rows2) (vs ++ vs2)
  | [], _, _, _, h, h2 => by
    simp only [RepL] at h
    subst h
    exact h2
  | r :: rows, _, _, _, h, h2 => by
    simp only [RepL] at h
    obtain ⟨l, vs, rfl, h1, h3⟩ := h
    exact ⟨l, _, rfl, h1, RepL.append h3 h2⟩

end
end Go.Abs
