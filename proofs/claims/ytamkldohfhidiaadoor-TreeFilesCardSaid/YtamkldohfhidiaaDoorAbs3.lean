/-
  A program logic over the model: append, short forms for walks, deferred calls. No statement of the seat is proved here.
-/
import Derived.Test.YtamkldohfhidiaaDoorAbs2
import Derived.Scope
import Derived.Below
namespace Go.Abs
open Go

/-- The rows that the second argument of an append yields. -/
def srcRows (ts : Option TI) : SV → Option (Nat × List (List AV))
  | .d (.sl s rows _) => match ts with | some ⟨.slice _, _, _, _⟩ => some (s, rows) | _ => none
  | .own _ s rows => match ts with | some ⟨.slice _, _, _, _⟩ => some (s, rows) | _ => none
  | .d (.val (.string s)) => match ts with | some ⟨.str, _, _, _⟩ => some (1, s.data.toList.map fun b => [.val (.int .u8 b.toNat)]) | _ => none
  | _ => none

section
variable {P : Program} {T : Tab} {G : Glob} {B : Base} {w : World} {ok : Nat → Nat} {g : List Value} {bx : List Box}

theorem ones_flat {size : Nat} : ∀ {rows : List (List AV)} {vs : List (List Value)}, (∀ r ∈ rows, ∀ x ∈ r, (SV.d x).one = true) → RepL w ok size rows vs → ∀ u ∈ vs.flatten, u.oneCell' = true
  | [], vs, _, h, u, hu => by
    simp only [RepL] at h
    subst h
    cases hu
  | r :: rows, vs, h1, h, u, hu => by
    simp only [RepL] at h
    obtain ⟨l, vs, rfl, h2, h3⟩ := h
    simp only [List.flatten_cons, List.mem_append] at hu
    rcases hu with hu | hu
    · refine ones_cells (g := []) (bx := []) (ys := r.map SV.d) ?_ (RepSs.data h2.1) u hu
      rw [List.all_map, List.all_eq_true]
      exact fun x hx => h1 r (List.mem_cons_self ..) x hx
    · exact ones_flat (fun r hr => h1 r (List.mem_cons_of_mem _ hr)) h3 u hu

theorem src_of (hT : T.Ok P) {tx : TypeId} {y : SV} {v : Value} {size : Nat} {rows2 : List (List AV)} (hs : srcRows (T.ti tx) y = some (size, rows2)) (h1 : ∀ r ∈ rows2, ∀ x ∈ r, (SV.d x).one = true)
    (hy : RepS w ok g bx y v) : ∃ vs, RepL w ok size rows2 vs ∧ Src P size tx v rows2.length vs.flatten w := by
  have sl : ∀ {f : Bool} {e : TypeId} {s b : Nat} {z : List AV}, T.ti tx = some ⟨.slice e, s, b, z⟩ → Rep w ok (.sl size rows2 f) v → ∃ vs, RepL w ok size rows2 vs ∧ Src P size tx v rows2.length vs.flatten w := by
    intro f e s b z ht hr
    obtain ⟨d, hu, hd⟩ := (Tab.ti_ok hT ht).under
    have hd := td_slice hd
    subst hd
    simp only [Rep] at hr
    obtain ⟨p, cap, rfl, _, _, h4⟩ := hr
    cases p with
    | none =>
      rcases h4 with rfl | ⟨b, o, e1, _⟩
      · exact ⟨[], rfl, Src.ofNil w hu cap⟩
      · cases e1
    | some a =>
      rcases h4 with rfl | ⟨b, o, e1, h5⟩
      · exact ⟨[], rfl, Src.ofSlice w hu a 0 cap [] (by simp) (by simp) (by simp)⟩
      · cases e1
        obtain ⟨vs, h6, h7⟩ := RepRows.load h5
        exact ⟨vs, h6, Src.ofSlice w hu _ _ cap _ h6.flat_length h7 (ones_flat h1 h6)⟩
  unfold srcRows at hs
  split at hs
  · split at hs
    · rename_i s rows f _ e sz b z ht
      cases hs
      exact sl ht (by simpa only [RepS] using hy)
    · cases hs
  · split at hs
    · rename_i id s rows _ e sz b z ht
      cases hs
      simp only [RepS] at hy
      exact sl ht hy.1
    · cases hs
  · split at hs
    · rename_i s _ sz b z ht
      cases hs
      obtain ⟨d, hu, hd⟩ := (Tab.ti_ok hT ht).under
      have hd := td_str hd
      subst hd
      have e : v = .string s := by simpa only [RepS, Rep] using hy
      subst e
      refine ⟨s.data.toList.map fun b => [.int .u8 b.toNat], ?_, ?_⟩
      · have : ∀ l : List UInt8, RepL w ok 1 (l.map fun b => [AV.val (.int .u8 b.toNat)]) (l.map fun b => [Value.int .u8 b.toNat]) := by
          intro l
          induction l with
          | nil => rfl
          | cons b l ih =>
            refine ⟨_, _, rfl, ⟨?_, rfl⟩, ih⟩
            simp only [Reps, Rep]
            exact ⟨_, _, rfl, rfl, rfl⟩
        exact this _
      · have h2 := Src.ofString (P := P) w hu s
        have e1 : (s.data.toList.map fun b => [Value.int .u8 b.toNat]).flatten = byteCells s := by
          unfold byteCells
          induction s.data.toList with
          | nil => rfl
          | cons b l ih => simp [ih]
        rw [e1]
        have e2 : (s.data.toList.map fun b => [AV.val (.int .u8 b.toNat)]).length = s.size := by simp
        rw [e2]
        exact h2
    · cases hs
  · cases hs

theorem splice_get {α : Type} {l m : List α} {n j : Nat} {v : α} (hn : n ≤ l.length) (h : m[j]? = some v) : (l.take n ++ m ++ l.drop (n + m.length))[n + j]? = some v := by
  have hj := (List.getElem?_eq_some_iff.1 h).1
  rw [List.append_assoc, List.getElem?_append_right (by rw [List.length_take]; omega), List.length_take, Nat.min_eq_left hn, show n + j - n = j by omega, List.getElem?_append_left hj]
  exact h

/-- append, at a slice that has the right. -/
theorem append_core (hT : T.Ok P) (h : RelW G B w ok g bx) {t tx e ty : TypeId} {size bytes sz1 b1 : Nat} {z1 z2 : List AV} {de : TD} (ht : T.ti t = some ⟨.slice e, sz1, b1, z1⟩) (he : T.ti e = some ⟨de, size, bytes, z2⟩) (_hsz : 0 < size)
    {id : Nat} {rows rows2 : List (List AV)} {v y : Value} {sy : SV} (hb : bx[id]? = some (.acc size rows.length)) (hg : g[id]? = some v) (hv : Rep w ok (.sl size rows false) v)
    (hs : srcRows (T.ti tx) sy = some (size, rows2)) (h1 : ∀ r ∈ rows2, ∀ x ∈ r, (SV.d x).one = true) (hy : RepS w ok g bx sy y)
    (hlen : rows.length + rows2.length ≤ 4611686018427387904) (hbytes : (rows.length + rows2.length) * bytes ≤ 140737488355328) :
    ∃ v' w' ok' g', (Builtin.append_ #[t, tx] ty #[v, y]).run P w = .ok v' w' ∧ RelW G B w' ok' g' (bx.set id (.acc size (rows.length + rows2.length))) ∧ Ext w ok w' ok' ∧
      Laters g bx g' (bx.set id (.acc size (rows.length + rows2.length))) ∧ RepS w' ok' g' (bx.set id (.acc size (rows.length + rows2.length))) (.own id size (rows ++ rows2)) v' := by
  obtain ⟨i, z, hi, hisz, hib, hiz, hizl⟩ := (Tab.ti_ok hT he).info
  simp only at hisz hib hizl
  have hzs : z.cells.size = size := by
    have := (Tab.ti_ok hT he).zlen
    simp only at this
    rw [← Array.length_toList, hizl, List.length_map, this]
  obtain ⟨d, hu, hd⟩ := (Tab.ti_ok hT ht).under
  have hd := td_slice hd
  subst hd
  obtain ⟨vs2, hl2, hsrc⟩ := src_of (P := P) hT hs h1 hy
  have hn2 := hl2.flat_length
  obtain ⟨hlt, hltg⟩ := h.boxes.lt_of_acc hb
  obtain ⟨p, cap, hg2, hcap, hroom⟩ := h.boxes.acc id size rows.length hb
  rw [hg] at hg2
  cases hg2
  simp only [Rep] at hv
  obtain ⟨p', cap', hpe, _, _, hrows⟩ := hv
  cases hpe
  -- nothing is appended
  rcases Nat.eq_zero_or_pos rows2.length with h0 | hpos
  · have hr2 : rows2 = [] := List.eq_nil_of_length_eq_zero h0
    subst hr2
    simp only [RepL] at hl2
    subst hl2
    have hset : bx.set id (.acc size (rows.length + ([] : List (List AV)).length)) = bx := by
      apply List.ext_getElem?
      intro j
      by_cases hj : id = j
      · subst hj
        rw [List.getElem?_set_self hlt, hb]
        rfl
      · rw [List.getElem?_set_ne hj]
    rw [hset]
    refine ⟨.slice p rows.length cap, w, ok, g, ?_, h, Ext.refl _ _, Laters.refl h.boxes.len, ?_⟩
    · have hc := hsrc.cells
      have hle : rows.length + 0 ≤ cap := hcap
      rcases hsrc.kind with ⟨e', hk⟩ | hk <;> cases p <;>
        simp [Builtin.append_, run_underlying hu, run_underlying hk, sizeOf, typeInfo, hi, hsrc.len, hcap, hisz, storeCells] <;> simp at hc <;> simp [hc, storeCells]
    · simp only [List.append_nil, RepS, Rep]
      refine ⟨⟨p, cap, rfl, hcap, (fun hh => by cases hh), hrows⟩, ?_⟩
      rw [OwnOk_iff]
      exact .inl ⟨rows.length, hb, Nat.le_refl _, fun _ => hg⟩
  · by_cases hfit : rows.length + rows2.length ≤ cap
    · -- there is room
      rcases hroom with hroom | ⟨b, arr, E, rfl, hh, harr, hokb⟩
      · omega
      · have hfit2 : rows.length * size + vs2.flatten.length ≤ arr.size := by
          rw [hn2, harr, ← Nat.add_mul]
          exact Nat.mul_le_mul_right _ hfit
        have hA2 : rows.length * size ≤ arr.size := Nat.le_trans (Nat.le_add_right _ _) hfit2
        have hst := run_storeCells_at P b (rows.length * size) E vs2.flatten 0 arr w hh (by simpa only [Nat.add_zero] using hfit2) hsrc.one
        simp only [Nat.add_zero] at hst
        have hrun : (Builtin.append_ #[t, tx] ty #[.slice (some (pl b 0)) rows.length cap, y]).run P w = .ok (.slice (some (pl b 0)) (rows.length + rows2.length) cap)
            (w.setRow b (arr.toList.take (rows.length * size) ++ vs2.flatten ++ arr.toList.drop (rows.length * size + vs2.flatten.length)).toArray) := by
          have hc := hsrc.cells
          rw [← hisz] at hc hst ⊢
          rcases hsrc.kind with ⟨e', hk⟩ | hk <;>
            simp [Builtin.append_, run_underlying hu, run_underlying hk, sizeOf, typeInfo, hi, hsrc.len, hfit, hc, Addr.add_lit, hst]
        refine ⟨_, _, fun b' => if b' = b then (rows.length + rows2.length) * size else ok b', g.set id (.slice (some (pl b 0)) (rows.length + rows2.length) cap), hrun, ?_⟩
        have hblk : blk g bx id = some b := by
          unfold blk
          rw [hb, hg]
          simp only
          rw [if_neg (by omega)]
        have hmul : rows.length * size ≤ (rows.length + rows2.length) * size := Nat.mul_le_mul_right _ (Nat.le_add_right _ _)
        have hx : Ext w ok (w.setRow b (arr.toList.take (rows.length * size) ++ vs2.flatten ++ arr.toList.drop (rows.length * size + vs2.flatten.length)).toArray) (fun b' => if b' = b then (rows.length + rows2.length) * size else ok b') := by
          intro b'
          by_cases e1 : b' = b
          · subst e1
            simp only [if_pos]
            refine ⟨by omega, fun o ho => ?_⟩
            rw [hokb] at ho
            rw [cell_at hh, cell_at (setRow_heap w b' arr _ E _ hh)]
            rw [← Array.getElem?_toList, ← Array.getElem?_toList, List.toList_toArray, List.append_assoc, List.getElem?_append_left (by rw [List.length_take, Array.length_toList]; exact Nat.lt_min.2 ⟨ho, Nat.lt_of_lt_of_le ho hA2⟩), List.getElem?_take_of_lt ho]
          · simp only [if_neg e1]
            exact ⟨Nat.le_refl _, fun o ho => cell_of_heap (heap_setRow_ne e1)⟩
        have hh' := setRow_heap w b arr (arr.toList.take (rows.length * size) ++ vs2.flatten ++ arr.toList.drop (rows.length * size + vs2.flatten.length)).toArray E _ hh
        have harr' : (arr.toList.take (rows.length * size) ++ vs2.flatten ++ arr.toList.drop (rows.length * size + vs2.flatten.length)).toArray.size = cap * size := by
          simp only [List.size_toArray, List.length_append, List.length_take, List.length_drop, Array.length_toList]
          rw [← harr, Nat.min_eq_left hA2]
          generalize rows.length * size = q1 at hfit2 hA2 ⊢
          generalize vs2.flatten.length = q2 at hfit2 ⊢
          omega
        obtain ⟨r1, r2⟩ := h.accSet (n' := rows.length + rows2.length) (cap' := cap) (p' := some (pl b 0)) hb (by omega) hx (by simp) ⟨rfl, rfl, rfl⟩ (by
            intro b' hb'
            by_cases e1 : b' = b
            · subst e1
              simpa using h.boxes.blk_lt hblk
            · simp only [if_neg e1] at hb'
              simpa using h.wf b' hb') (by
            intro b' _ hne
            have e1 : b' ≠ b := by
              rintro rfl
              exact hne hblk
            exact ⟨heap_setRow_ne e1, by simp only [if_neg e1]⟩) hfit (.inr ⟨b, _, E, rfl, hh', harr', by simp only [if_pos], .inl hblk⟩)
        refine ⟨r1, hx, r2, ?_⟩
        simp only [RepS]
        refine ⟨?_, ?_⟩
        · simp only [Rep]
          refine ⟨some (pl b 0), cap, by rw [List.length_append], by rw [List.length_append]; exact hfit, (fun hh => by cases hh), .inr ⟨b, 0, rfl, ?_⟩⟩
          have hold : RepRows w ok rows size b 0 := by
            rcases hrows with rfl | ⟨b2, o2, e1, h5⟩
            · simp only [RepRows]
            · cases e1
              exact h5
          have happ : ∀ {rs rs2 : List (List AV)} {o : Nat}, RepRows (w.setRow b (arr.toList.take (rows.length * size) ++ vs2.flatten ++ arr.toList.drop (rows.length * size + vs2.flatten.length)).toArray) (fun b' => if b' = b then (rows.length + rows2.length) * size else ok b') rs size b o →
              RepRows (w.setRow b (arr.toList.take (rows.length * size) ++ vs2.flatten ++ arr.toList.drop (rows.length * size + vs2.flatten.length)).toArray) (fun b' => if b' = b then (rows.length + rows2.length) * size else ok b') rs2 size b (o + rs.length * size) →
              RepRows (w.setRow b (arr.toList.take (rows.length * size) ++ vs2.flatten ++ arr.toList.drop (rows.length * size + vs2.flatten.length)).toArray) (fun b' => if b' = b then (rows.length + rows2.length) * size else ok b') (rs ++ rs2) size b o := by
            intro rs
            induction rs with
            | nil => intro rs2 o _ h2; simpa using h2
            | cons r rs ih =>
              intro rs2 o h1 h2
              simp only [RepRows, List.cons_append] at h1 ⊢
              refine ⟨h1.1, h1.2.1, ih h1.2.2 ?_⟩
              rw [List.length_cons, Nat.succ_mul] at h2
              rw [show o + size + rs.length * size = o + (rs.length * size + size) by omega]
              exact h2
          refine happ (RepRows.ext hx _ _ _ _ hold) ?_
          rw [Nat.zero_add]
          refine RepRows.ofLe (m := (rows.length + rows2.length) * size) hh' (by simp only [if_pos, Nat.le_refl]) (RepL.ext hx hl2) (by rw [Nat.add_mul]; exact Nat.le_refl _) ?_
          intro j u hj
          rw [← Array.getElem?_toList, List.toList_toArray]
          exact splice_get (by rw [Array.length_toList]; exact hA2) hj
        · rw [OwnOk_iff]
          refine .inl ⟨rows.length + rows2.length, by rw [List.getElem?_set_self hlt], by rw [List.length_append]; exact Nat.le_refl _, fun _ => by rw [List.getElem?_set_self hltg]⟩
    · -- a new row
      obtain ⟨vs, hl1, holds⟩ : ∃ vs, RepL w ok size rows vs ∧ (Builtin.firstCells i.size rows.length (.slice p rows.length cap)).run P w.drew = .ok vs.flatten.toArray w.drew := by
        rcases hrows with hr | ⟨b, o, rfl, h5⟩
        · subst hr
          refine ⟨[], rfl, ?_⟩
          cases p <;> simp [Builtin.firstCells, loadCells, loadCellsFrom]
        · obtain ⟨vs, h6, h7⟩ := RepRows.load h5
          refine ⟨vs, h6, run_firstCells_some w.drew i.size rows.length (pl b o) rows.length cap vs.flatten (by rw [hisz]; exact h6.flat_length) (by simpa using h7)⟩
      have hnl := hl1.flat_length
      rw [← hisz] at hsrc
      have hrun := run_append_grow_src (P := P) w t tx ty e i z hu hi hiz p rows.length cap vs.flatten holds y rows2.length vs2.flatten hsrc (by omega) (by omega) (growslice_fits (by omega) (by rw [hib]; exact hbytes))
      have hge := grownCap_ge w (rows.length + rows2.length) cap e
      have hnew : ((vs.flatten ++ vs2.flatten).toArray ++ Builtin.zeroCells z.cells (grownCap w (rows.length + rows2.length) cap e - (rows.length + rows2.length))).size = grownCap w (rows.length + rows2.length) cap e * size := by
        rw [Array.size_append, List.size_toArray, List.length_append, size_zeroCells, hzs, hnl, hn2, ← Nat.add_mul, ← Nat.add_mul]
        congr 1
        omega
      generalize hM : grownCap w (rows.length + rows2.length) cap e = M at hrun hge hnew
      generalize hA : (vs.flatten ++ vs2.flatten).toArray ++ Builtin.zeroCells z.cells (M - (rows.length + rows2.length)) = A at hrun hnew
      have hx : Ext w ok (w.drew.alloc (.cells A e)) (fun b' => if b' = w.heap.size then (rows.length + rows2.length) * size else ok b') :=
        (Ext.drew w ok (w.drawn + 1)).trans (Ext.grow (w := w.drew) h.wf (.cells A e) _)
      have hheap : (w.drew.alloc (.cells A e)).heap[w.heap.size]? = some (.cells A e (0, 0)) := heap_grow_new (w := w.drew)
      have hkeep : ∀ b, b < w.heap.size → (w.drew.alloc (.cells A e)).heap[b]? = w.heap[b]? := fun b hb' => heap_grow (w := w.drew) hb'
      have hsz2 : (w.drew.alloc (.cells A e)).heap.size = w.heap.size + 1 := by simp
      obtain ⟨r1, r2⟩ := h.accSet (n' := rows.length + rows2.length) (cap' := M) (p' := some (pl w.heap.size 0)) hb (by omega) hx (by rw [hsz2]; omega) ⟨rfl, rfl, rfl⟩ (by
          intro b' hb'
          rw [hsz2]
          by_cases e1 : b' = w.heap.size
          · omega
          · simp only [if_neg e1] at hb'
            have := h.wf b' hb'
            omega) (by
          intro b' hb' _
          exact ⟨hkeep b' hb', by simp only [if_neg (Nat.ne_of_lt hb')]⟩) hge (.inr ⟨w.heap.size, A, e, rfl, hheap, hnew, by simp only [if_pos], .inr (Nat.le_refl _)⟩)
      refine ⟨_, _, _, _, hrun, r1, hx, r2, ?_⟩
      simp only [RepS]
      refine ⟨?_, ?_⟩
      · simp only [Rep]
        refine ⟨some (pl w.heap.size 0), M, by rw [List.length_append], by rw [List.length_append]; exact hge, (fun hh => by cases hh), .inr ⟨w.heap.size, 0, rfl, ?_⟩⟩
        refine RepRows.ofLe (m := (rows.length + rows2.length) * size) hheap (by simp only [if_pos, Nat.le_refl]) (RepL.append (RepL.ext hx hl1) (RepL.ext hx hl2)) (by rw [List.length_append]; omega) ?_
        intro j u hj
        rw [Nat.zero_add, ← hA]
        rw [List.flatten_append] at hj
        have hj2 := (List.getElem?_eq_some_iff.1 hj).1
        rw [Array.getElem?_append_left (by simpa using hj2)]
        simpa using hj
      · rw [OwnOk_iff]
        refine .inl ⟨rows.length + rows2.length, by rw [List.getElem?_set_self hlt], by rw [List.length_append]; exact Nat.le_refl _, fun _ => by rw [List.getElem?_set_self hltg]⟩

theorem run_append_op {o : Oper} {s y : Operand} {t tx : TypeId} (hop : o.op = .call ⟨.builtin .append, #[s, y], #[t, tx]⟩) (a : Act) {v : Value} {w' : World}
    (h : (Builtin.append_ #[t, tx] o.type #[a.eval s, a.eval y]).run P w = .ok v w') : (execOp a.eval o).run P w = .ok (.value v) w' := by
  unfold execOp
  simp only [hop, resolve, invoke, builtin, Sem.run_bind, Sem.run_pure, Result.andThen_ok, List.map_toArray, List.map_cons, List.map_nil, h]

theorem OpS.append_own (hT : T.Ok P) {o : Oper} {fr : Fr} {s y : Operand} {t tx e : TypeId} {size bytes sz1 b1 : Nat} {z1 z2 : List AV} {de : TD} {id : Nat} {rows rows2 : List (List AV)} (hop : o.op = .call ⟨.builtin .append, #[s, y], #[t, tx]⟩)
    (ht : T.ti t = some ⟨.slice e, sz1, b1, z1⟩) (he : T.ti e = some ⟨de, size, bytes, z2⟩) (hsz : Nat.blt 0 size = true) (hs : ev G fr s = .own id size rows) (hb : bx[id]? = some (.acc size rows.length))
    (hy : srcRows (T.ti tx) (ev G fr y) = some (size, rows2)) (h1 : ∀ r ∈ rows2, ∀ x ∈ r, (SV.d x).one = true)
    (hlen : rows.length + rows2.length ≤ 4611686018427387904) (hbytes : (rows.length + rows2.length) * bytes ≤ 140737488355328) :
    OpS P G o fr bx (.own id size (rows ++ rows2)) (bx.set id (.acc size (rows.length + rows2.length))) := by
  intro B w a ok g hr ho
  have h2 := ho s (by rw [hop]; simp [Op.operands, Call.operands])
  have h3 := ho y (by rw [hop]; simp [Op.operands, Call.operands])
  rw [hs] at h2
  simp only [RepS] at h2
  obtain ⟨h4, h5⟩ := h2
  rw [OwnOk_iff] at h5
  have hg : g[id]? = some (a.eval s) := by
    rcases h5 with ⟨hw, e1, e2, e3⟩ | e1
    · rw [hb] at e1
      cases e1
      exact e3 rfl
    · rw [hb] at e1
      cases e1
  obtain ⟨v', w', ok', g', r1, r2, r3, r4, r5⟩ := append_core (ty := o.type) hT hr ht he (Nat.le_of_ble_eq_true hsz) hb hg h4 hy h1 h3 hlen hbytes
  exact ⟨v', w', ok', g', .inl (run_append_op hop a r1), r2, r3, r4, r5⟩

theorem OpS.append_new (hT : T.Ok P) {o : Oper} {fr : Fr} {s y : Operand} {t tx e : TypeId} {size bytes sz1 b1 : Nat} {z1 z2 : List AV} {de : TD} {rows rows2 : List (List AV)} (hop : o.op = .call ⟨.builtin .append, #[s, y], #[t, tx]⟩)
    (ht : T.ti t = some ⟨.slice e, sz1, b1, z1⟩) (he : T.ti e = some ⟨de, size, bytes, z2⟩) (hsz : Nat.blt 0 size = true) (hs : nilS T (.slice e) (ev G fr s) = .d (.sl size rows true))
    (hy : srcRows (T.ti tx) (ev G fr y) = some (size, rows2)) (h1 : ∀ r ∈ rows2, ∀ x ∈ r, (SV.d x).one = true)
    (hlen : rows.length + rows2.length ≤ 4611686018427387904) (hbytes : (rows.length + rows2.length) * bytes ≤ 140737488355328) :
    OpS P G o fr bx (.own bx.length size (rows ++ rows2)) (bx ++ [.acc size (rows.length + rows2.length)]) := by
  intro B w a ok g hr ho
  have h2 := nilS_rep hT (d := .slice e) (ho s (by rw [hop]; simp [Op.operands, Call.operands]))
  have h3 := ho y (by rw [hop]; simp [Op.operands, Call.operands])
  rw [hs] at h2
  simp only [RepS] at h2
  have h4 := h2
  simp only [Rep] at h4
  obtain ⟨p, cap, e1, _, e2, _⟩ := h4
  have e2 := e2 trivial
  subst e2
  obtain ⟨q1, q2⟩ := hr.adopt p size rows.length
  have h5 : Rep w ok (.sl size rows false) (a.eval s) := SLe.rep (g := g) (bx := bx) (.full size rows true) (by simp only [RepS]; exact h2)
  have h6 := RepS.later (Ext.refl w ok) q2 _ _ h3
  obtain ⟨v', w', ok', g', r1, r2, r3, r4, r5⟩ := append_core (ty := o.type) hT q1 ht he (Nat.le_of_ble_eq_true hsz) (id := bx.length) (rows := rows) (v := a.eval s) (by rw [List.getElem?_append_right (Nat.le_refl _), Nat.sub_self]; rfl)
    (by rw [e1, ← hr.boxes.len, List.getElem?_append_right (Nat.le_refl _), Nat.sub_self]; rfl) h5 hy h1 h6 hlen hbytes
  have e3 : (bx ++ [Box.acc size rows.length]).set bx.length (.acc size (rows.length + rows2.length)) = bx ++ [.acc size (rows.length + rows2.length)] := by
    rw [List.set_append_right _ _ (Nat.le_refl _), Nat.sub_self]
    rfl
  rw [e3] at r2 r4 r5
  exact ⟨v', w', ok', g', .inl (run_append_op hop a r1), r2, r3, q2.trans r4, r5⟩

end
end Go.Abs

namespace Go.Abs
open Go

section
variable {P : Program} {T : Tab} {G : Glob} {N : Nat} {fr : Fr} {bx bx' : List Box} {K : Ex → Fr → List Box → Prop} {ops : Array Oper} {rest : List Nat}

theorem mergeAt_nil : mergeAt ([] : List Nat) bx (([] : List Box).map (Box.ren (rn [] bx.length))) = bx := by
  unfold mergeAt
  apply List.ext_getElem?
  intro j
  simp [List.idxOf?, List.getElem?_mapIdx]

theorem mergeAt_one {k : Nat} {b : Box} (_hk : k < bx.length) : mergeAt [k] bx [b] = bx.set k b := by
  unfold mergeAt
  apply List.ext_getElem?
  intro j
  simp only [List.length_cons, List.length_nil, List.drop_succ_cons, List.drop_zero, List.append_nil, List.getElem?_mapIdx]
  by_cases hj : k = j
  · subst hj
    rw [List.getElem?_set_self' ]
    simp [List.idxOf?, List.findIdx?]
    cases bx[k]? <;> simp [List.findIdx?.go]
  · rw [List.getElem?_set_ne hj]
    have : (k == j) = false := by simpa using hj
    cases bx[j]? <;> simp [List.idxOf?, List.findIdx?, List.findIdx?.go, this]

/-- Behind a call without boxes. -/
theorem after0 {d : Option Tmp} {t : Nat} {y : AV} {bx1 : List Box} {r : Nat → Nat} (hd : d = some t) (hb : bx1 = []) (h : Reg P G N ops K rest ((t, .d y) :: fr) bx) :
    afterCall P G N ops K rest d fr r (mergeAt [] bx (bx1.map (Box.ren (rn [] bx.length)))) (.ret (.d y)) := by
  subst hb hd
  rw [mergeAt_nil]
  exact h
/-- Behind a call that gives several things. -/
theorem after0t {d : Option Tmp} {t : Nat} {ys : List SV} {bx1 : List Box} {r : Nat → Nat} (hd : d = some t) (hb : bx1 = []) (hy : SV.rens r ys = ys) (h : Reg P G N ops K rest ((t, .tup ys) :: fr) bx) :
    afterCall P G N ops K rest d fr r (mergeAt [] bx (bx1.map (Box.ren (rn [] bx.length)))) (.ret (.tup ys)) := by
  subst hb hd
  rw [mergeAt_nil]
  simp only [afterCall, putF, SV.ren, hy]
  exact h
theorem after0p {d : Option Tmp} {y : AV} {bx1 : List Box} {r : Nat → Nat} (hb : bx1 = []) (h : K (.panic y) fr bx) :
    afterCall P G N ops K rest d fr r (mergeAt [] bx (bx1.map (Box.ren (rn [] bx.length)))) (.panic y) := by
  subst hb
  rw [mergeAt_nil]
  exact h
/-- Behind a call with one box. -/
theorem after1 {d : Option Tmp} {t k : Nat} {y : SV} {b : Box} (hk : Nat.blt k bx.length = true) (hd : d = some t) (hy : y.ren (rn [k] bx.length) = y) (hb : b.ren (rn [k] bx.length) = b) (hm : setK none k b bx some = some bx')
    (h : Reg P G N ops K rest ((t, y) :: fr) bx') : afterCall P G N ops K rest d fr (rn [k] bx.length) (mergeAt [k] bx ([b].map (Box.ren (rn [k] bx.length)))) (.ret y) := by
  subst hd
  have hk : k < bx.length := Nat.le_of_ble_eq_true hk
  rw [setK_eq, if_pos hk] at hm
  cases hm
  simp only [afterCall, putF, hy, List.map_cons, List.map_nil, hb]
  rw [mergeAt_one hk]
  exact h
theorem after1n {d : Option Tmp} {k : Nat} {y : SV} {b : Box} {r : Nat → Nat} (hk : Nat.blt k bx.length = true) (hd : d = none) (hb : b.ren (rn [k] bx.length) = b) (hm : setK none k b bx some = some bx')
    (h : Reg P G N ops K rest fr bx') : afterCall P G N ops K rest d fr r (mergeAt [k] bx ([b].map (Box.ren (rn [k] bx.length)))) (.ret y) := by
  subst hd
  have hk : k < bx.length := Nat.le_of_ble_eq_true hk
  rw [setK_eq, if_pos hk] at hm
  cases hm
  simp only [List.map_cons, List.map_nil, hb]
  rw [mergeAt_one hk]
  exact h
theorem after1p {d : Option Tmp} {k : Nat} {y : AV} {b : Box} {r : Nat → Nat} (hk : Nat.blt k bx.length = true) (hb : b.ren (rn [k] bx.length) = b) (hm : setK none k b bx some = some bx')
    (h : K (.panic y) fr bx') : afterCall P G N ops K rest d fr r (mergeAt [k] bx ([b].map (Box.ren (rn [k] bx.length)))) (.panic y) := by
  have hk : k < bx.length := Nat.le_of_ble_eq_true hk
  rw [setK_eq, if_pos hk] at hm
  cases hm
  simp only [List.map_cons, List.map_nil, hb]
  rw [mergeAt_one hk]
  exact h

/-- A call in a region that draws its order. -/
def afterCallD (P : Program) (G : Glob) (N : Nat) (ops : List Oper) (es : List Nat) (K : Ex → Fr → List Box → Prop) (pend ord : List Nat) (dst : Option Tmp) (fr : Fr) (r : Nat → Nat) (bx : List Box) : Out → Prop
  | .ret x => Stable P G ops fr pend bx ∧ RegD P G N ops es K pend ord (putF dst (x.ren r) fr) bx
  | .panic x => K (.panic x) [] bx

theorem RegD.call (hT : T.Ok P) {ops : List Oper} {es pend ord : List Nat} (σ : List Nat) (pend' : List Nat) {i : Nat} {o : Oper} {args0 : List SV} {bx0 : List Box} {R : Out → List Box → Prop} {fo : Operand} {args : Array Operand} {ts : Array TypeId} {f : FuncId} {cap : List SV}
    (hspec : ACalls P G f args0 bx0 R) (hcall : Callable P f) (ho : ops[i]? = some o) (hw : wantedA ops fr o = some true) (hes : es.contains i = true) (hd : dstOk N o.dst = true)
    (hp1 : (pend.all fun j => pend'.contains j || reachB (ancs ops) i j) = true) (hp2 : (pend'.all fun j => pend.contains j) = true)
    (hop : o.op = .call ⟨.value fo, args, ts⟩) (hf : ev G fr fo = .clo f cap) (hn : σ.Nodup)
    (ha : argsV G T fr args.toList ts.toList ++ cap = SV.rens (rn σ bx.length) args0) (hb : Picks σ bx bx0)
    (hk : ∀ out bx1, R out bx1 → afterCallD P G N ops es K pend' ord o.dst fr (rn σ bx.length) (mergeAt σ bx (bx1.map (Box.ren (rn σ bx.length)))) out) :
    RegD P G N ops es K pend (i :: ord) fr bx := by
  refine RegD.eff (pend' := pend') ho hw (by simpa using hes) hd (EffS.call hT σ hspec hcall hop hf hn ha hb) ?_ ?_ ?_ ?_ ?_
  · intro j hj
    have := List.all_eq_true.1 hp1 j hj
    simpa using this
  · intro j hj
    have := List.all_eq_true.1 hp2 j hj
    simpa using this
  · rintro x b ⟨out1, bx1, h1, rfl, e⟩
    have := hk out1 bx1 h1
    cases out1 with
    | ret y => exact this.1
    | panic y => cases e
  · rintro x b ⟨out1, bx1, h1, rfl, e⟩
    have := hk out1 bx1 h1
    cases out1 with
    | ret y =>
      cases e
      exact this.2
    | panic y => cases e
  · rintro x b ⟨out1, bx1, h1, rfl, e⟩
    have := hk out1 bx1 h1
    cases out1 with
    | ret y => cases e
    | panic y =>
      cases e
      exact this

theorem after0D {ops : List Oper} {es pend ord : List Nat} {d : Option Tmp} {t : Nat} {y : AV} {bx1 : List Box} {r : Nat → Nat} (hd : d = some t) (hb : bx1 = []) (hs : Stable P G ops fr pend bx) (h : RegD P G N ops es K pend ord ((t, .d y) :: fr) bx) :
    afterCallD P G N ops es K pend ord d fr r (mergeAt [] bx (bx1.map (Box.ren (rn [] bx.length)))) (.ret (.d y)) := by
  subst hb hd
  rw [mergeAt_nil]
  exact ⟨hs, h⟩
theorem after1D {ops : List Oper} {es pend ord : List Nat} {d : Option Tmp} {t k : Nat} {y : SV} {b : Box} (hk : Nat.blt k bx.length = true) (hd : d = some t) (hy : y.ren (rn [k] bx.length) = y) (hb : b.ren (rn [k] bx.length) = b) (hm : setK none k b bx some = some bx')
    (hs : Stable P G ops fr pend bx') (h : RegD P G N ops es K pend ord ((t, y) :: fr) bx') :
    afterCallD P G N ops es K pend ord d fr (rn [k] bx.length) (mergeAt [k] bx ([b].map (Box.ren (rn [k] bx.length)))) (.ret y) := by
  subst hd
  have hk : k < bx.length := Nat.le_of_ble_eq_true hk
  rw [setK_eq, if_pos hk] at hm
  cases hm
  simp only [afterCallD, putF, hy, List.map_cons, List.map_nil, hb]
  rw [mergeAt_one hk]
  exact ⟨hs, h⟩
theorem after1Dp {ops : List Oper} {es pend ord : List Nat} {d : Option Tmp} {k : Nat} {y : AV} {b : Box} {r : Nat → Nat} (hk : Nat.blt k bx.length = true) (hb : b.ren (rn [k] bx.length) = b) (hm : setK none k b bx some = some bx')
    (h : K (.panic y) [] bx') : afterCallD P G N ops es K pend ord d fr r (mergeAt [k] bx ([b].map (Box.ren (rn [k] bx.length)))) (.panic y) := by
  have hk : k < bx.length := Nat.le_of_ble_eq_true hk
  rw [setK_eq, if_pos hk] at hm
  cases hm
  simp only [List.map_cons, List.map_nil, hb]
  rw [mergeAt_one hk]
  exact h

theorem Stable.cons {ops : List Oper} {j : Nat} {pend : List Nat} {o : Oper} {d : Nat} {hint : List AV} {c : Prop} (hT : T.Ok P) (ho : ops[j]? = some o) (hd : o.dst = some d)
    (hw : wantedA ops fr o = some true) (he : evalO G T hint o.op o.type fr bx = .ok c (look fr d) bx) (hc : c) (h : Stable P G ops fr pend bx) : Stable P G ops fr (j :: pend) bx := by
  intro i hi o' d' ho' hd'
  rcases List.mem_cons.1 hi with rfl | hi
  · rw [ho] at ho'
    cases ho'
    rw [hd] at hd'
    cases hd'
    exact .inl ⟨hw, EffS.ofOp (evalO_sound hT he hc)⟩
  · exact h i hi o' d' ho' hd'

theorem Stable.skip {ops : List Oper} {j : Nat} {pend : List Nat} {o : Oper} {d : Nat} (ho : ops[j]? = some o) (hd : o.dst = some d)
    (hw : wantedA ops fr o = some false) (he : look fr d = .d .junk) (h : Stable P G ops fr pend bx) : Stable P G ops fr (j :: pend) bx := by
  intro i hi o' d' ho' hd'
  rcases List.mem_cons.1 hi with rfl | hi
  · rw [ho] at ho'
    cases ho'
    rw [hd] at hd'
    cases hd'
    exact .inr ⟨hw, he⟩
  · exact h i hi o' d' ho' hd'

/-- The panic of the program's own. -/
theorem Reg.panic {i : Nat} {o : Oper} {y : Operand} {t : TypeId} {x : AV} (ho : ops[i]? = some o) (hg : o.guard = none) (hop : o.op = .panic y) (hy : ev G fr y = .d (.ifc t x)) (h : K (.panic (.ifc t x)) fr bx) : Reg P G N ops K (i :: rest) fr bx := by
  intro B ds w a ok g hr hf
  have h1 := hf.ev hr y
  rw [hy] at h1
  simp only [RepS, Rep] at h1
  obtain ⟨u, h2, h3⟩ := h1
  rw [wpOps_cons]
  unfold wpOp
  simp only [ho, Region.wanted, hg, if_true]
  refine .inl ?_
  unfold Oper.wp
  have e : (execOp a.eval o).run P w = .halt (.panic (.iface t u)) w := by
    unfold execOp
    simp only [hop, Instr.panic, h2]
    rfl
  rw [e]
  simp only [Oper.upon_panic]
  exact ⟨.panic (.ifc t x), fr, bx, ok, g, ⟨_, rfl, by simp only [Rep]; exact ⟨u, rfl, h3⟩⟩, hr, hf, h⟩

/-- An append, at a slice that has the right. -/
theorem Reg.append (hT : T.Ok P) {i : Nat} {o : Oper} {d : Nat} {s y : Operand} {t tx e : TypeId} {size bytes sz1 b1 : Nat} {z1 z2 : List AV} {de : TD} {id : Nat} {rows rows2 : List (List AV)} (ho : ops[i]? = some o) (hg : o.guard = none) (hd : o.dst = some d) (hN : Nat.blt d N = true)
    (hop : o.op = .call ⟨.builtin .append, #[s, y], #[t, tx]⟩) (ht : T.ti t = some ⟨.slice e, sz1, b1, z1⟩) (he : T.ti e = some ⟨de, size, bytes, z2⟩) (hsz : Nat.blt 0 size = true) (hs : ev G fr s = .own id size rows) (hb : bx[id]? = some (.acc size rows.length))
    (hy : srcRows (T.ti tx) (ev G fr y) = some (size, rows2)) (hm : setK none id (Box.acc size (rows.length + rows2.length)) bx some = some bx')
    (h1 : ∀ r ∈ rows2, ∀ x ∈ r, (SV.d x).one = true) (hlen : rows.length + rows2.length ≤ 4611686018427387904) (hbytes : (rows.length + rows2.length) * bytes ≤ 140737488355328)
    (h : Reg P G N ops K rest ((d, .own id size (rows ++ rows2)) :: fr) bx') : Reg P G N ops K (i :: rest) fr bx := by
  have hlt : id < bx.length := (List.getElem?_eq_some_iff.1 hb).1
  rw [setK_eq, if_pos hlt] at hm
  cases hm
  refine Reg.op ho hg (by rw [hd]; exact hN) (OpS.append_own hT hop ht he hsz hs hb hy h1 hlen hbytes) ?_
  rw [hd]
  exact h

/-- An append, at a slice that has no room, or that is nil. -/
theorem Reg.appendNew (hT : T.Ok P) {i : Nat} {o : Oper} {d n : Nat} {s y : Operand} {t tx e : TypeId} {size bytes sz1 b1 : Nat} {z1 z2 : List AV} {de : TD} {rows rows2 : List (List AV)} (ho : ops[i]? = some o) (hg : o.guard = none) (hd : o.dst = some d) (hN : Nat.blt d N = true)
    (hop : o.op = .call ⟨.builtin .append, #[s, y], #[t, tx]⟩) (ht : T.ti t = some ⟨.slice e, sz1, b1, z1⟩) (he : T.ti e = some ⟨de, size, bytes, z2⟩) (hsz : Nat.blt 0 size = true) (hs : nilS T (.slice e) (ev G fr s) = .d (.sl size rows true))
    (hy : srcRows (T.ti tx) (ev G fr y) = some (size, rows2)) (hm : snocK 0 (Box.acc size (rows.length + rows2.length)) bx (fun m l => some (m, l)) = some (n, bx'))
    (h1 : ∀ r ∈ rows2, ∀ x ∈ r, (SV.d x).one = true) (hlen : rows.length + rows2.length ≤ 4611686018427387904) (hbytes : (rows.length + rows2.length) * bytes ≤ 140737488355328)
    (h : Reg P G N ops K rest ((d, .own n size (rows ++ rows2)) :: fr) bx') : Reg P G N ops K (i :: rest) fr bx := by
  rw [snocK_eq, Nat.zero_add] at hm
  cases hm
  refine Reg.op ho hg (by rw [hd]; exact hN) (OpS.append_new hT hop ht he hsz hs hy h1 hlen hbytes) ?_
  rw [hd]
  exact h

/-- Before a loop: a slice that has no room gets the right to append. -/
theorem AW.adopt {c : Code} {k n size : Nat} {rows : List (List AV)} (hk : look fr k = .d (.sl size rows true)) (hm : snocK 0 (Box.acc size rows.length) bx (fun m l => some (m, l)) = some (n, bx'))
    (h : AW P G N c K ((k, .own n size rows) :: fr) bx') : AW P G N c K fr bx := by
  rw [snocK_eq, Nat.zero_add] at hm
  cases hm
  intro B ds w a ok g hr hf
  have h1 := hf.tmps k
  rw [hk] at h1
  simp only [RepS] at h1
  have h2 := h1
  simp only [Rep] at h2
  obtain ⟨p, cap, e1, _, e2, _⟩ := h2
  have e2 := e2 trivial
  subst e2
  obtain ⟨q1, q2⟩ := hr.adopt p size rows.length
  refine h B ds w a ok _ q1 ⟨hf.size, fun t => ?_, hf.defers⟩
  rw [look_cons]
  split
  · rename_i e
    subst e
    simp only [RepS]
    refine ⟨SLe.rep (g := g) (bx := bx) (.full size rows true) (by simp only [RepS]; exact h1), ?_⟩
    rw [OwnOk_iff]
    refine .inl ⟨rows.length, by rw [List.getElem?_append_right (Nat.le_refl _), Nat.sub_self]; rfl, Nat.le_refl _, fun _ => ?_⟩
    rw [e1, ← hr.boxes.len, List.getElem?_append_right (Nat.le_refl _), Nat.sub_self]
    rfl
  · exact RepS.later (Ext.refl _ _) q2 _ _ (hf.tmps t)

theorem thenA_exit {next : Fr → List Box → Prop} {id : Nat} (h : K (.exit id) fr bx) : thenA next K (.exit id) fr bx := h
theorem thenA_goto {next : Fr → List Box → Prop} {l : Nat} (h : K (.goto l) fr bx) : thenA next K (.goto l) fr bx := h
theorem thenA_ret {next : Fr → List Box → Prop} (h : K .ret fr bx) : thenA next K .ret fr bx := h
theorem thenA_panic {next : Fr → List Box → Prop} {x : AV} (h : K (.panic x) fr bx) : thenA next K (.panic x) fr bx := h
theorem blockA_normal {id : Nat} (h : K .normal fr bx) : blockA id K .normal fr bx := h
theorem blockA_ret {id : Nat} (h : K .ret fr bx) : blockA id K .ret fr bx := h
theorem blockA_panic {id : Nat} {x : AV} (h : K (.panic x) fr bx) : blockA id K (.panic x) fr bx := h
theorem blockA_hit {id : Nat} (h : K .normal fr bx) : blockA id K (.exit id) fr bx := by
  simp only [blockA, if_true]
  exact h
theorem blockA_miss {id id' : Nat} (hne : Nat.beq id' id = false) (h : K (.exit id') fr bx) : blockA id K (.exit id') fr bx := by
  have : id' ≠ id := fun e => by subst e; rw [Nat.beq_refl] at hne; cases hne
  simp only [blockA, if_neg this]
  exact h

/-- A box is told otherwise. -/
theorem RelW.redesc {B : Base} {w : World} {ok : Nat → Nat} {g : List Value} (h : RelW G B w ok g bx) {i : Nat} {cs cs' : List SV} (hi : bx[i]? = some (.cells cs)) (hc : ∀ l : List Value, RepSs w ok g bx cs l → RepSs w ok g bx cs' l) :
    RelW G B w ok g (bx.set i (.cells cs')) ∧ Laters g bx g (bx.set i (.cells cs')) := by
  have hlt : i < bx.length := (List.getElem?_eq_some_iff.1 hi).1
  have hk : ∀ j : Nat, kindEq (bx[j]?) ((bx.set i (.cells cs'))[j]?) := by
    intro j
    by_cases hj : i = j
    · subst hj
      rw [List.getElem?_set_self hlt, hi]
      exact ⟨_, rfl⟩
    · rw [List.getElem?_set_ne hj]
      cases e : bx[j]? with
      | none => rfl
      | some b => cases b <;> simp [kindEq]
  have hblk : ∀ j, blk g (bx.set i (.cells cs')) j = blk g bx j := fun j => blk_kind (hk j) rfl
  have hl : Laters g bx g (bx.set i (.cells cs')) := by
    intro j
    have h1 := Laters.refl h.boxes.len j
    exact h1.kind (by
      cases e : bx[j]? with
      | none => rfl
      | some b => cases b <;> simp [kindEq]) (hk j)
  refine ⟨
  { size := h.size
    keep := h.keep
    ext := h.ext
    dom := fun j b hj => h.dom j b (by rw [← hblk]; exact hj)
    wf := h.wf
    rest := h.rest
    glob := h.glob
    ids := fun j hj => (h.ids j hj).trans (hl j)
    boxes :=
      { len := by rw [List.length_set]; exact h.boxes.len
        cells := fun j cs2 hj => by
          by_cases e : i = j
          · subst e
            rw [List.getElem?_set_self hlt] at hj
            cases hj
            obtain ⟨b, arr, E, e1, e2, e3, e4⟩ := h.boxes.cells i cs hi
            exact ⟨b, arr, E, e1, e2, e3, RepSs.kinds hk (hc _ e4)⟩
          · rw [List.getElem?_set_ne e] at hj
            obtain ⟨b, arr, E, e1, e2, e3, e4⟩ := h.boxes.cells j cs2 hj
            exact ⟨b, arr, E, e1, e2, e3, RepSs.kinds hk e4⟩
        acc := fun j s n hj => h.boxes.acc j s n (((hk j).acc s n).2 hj)
        apart := fun j k b hj hk2 => h.boxes.apart j k b (by rw [← hblk]; exact hj) (by rw [← hblk]; exact hk2) } }, hl⟩

/-- Before a loop: a slice in a cell of a box, that has no room, gets the right to append. -/
theorem AW.adoptBox {c : Code} {b j n size : Nat} {rows : List (List AV)} {cs cs' : List SV} {bx1 bx2 : List Box} (hb : bx[b]? = some (.cells cs)) (hj : cs[j]? = some (.d (.sl size rows true)))
    (hm : snocK 0 (Box.acc size rows.length) bx (fun m l => some (m, l)) = some (n, bx1)) (hc : setK none j (SV.own n size rows) cs some = some cs') (hm2 : setK none b (.cells cs') bx1 some = some bx2)
    (h : AW P G N c K fr bx2) : AW P G N c K fr bx := by
  rw [snocK_eq, Nat.zero_add] at hm
  cases hm
  have hblt : b < bx.length := (List.getElem?_eq_some_iff.1 hb).1
  have hjlt : j < cs.length := (List.getElem?_eq_some_iff.1 hj).1
  rw [setK_eq, if_pos hjlt] at hc
  cases hc
  rw [setK_eq, if_pos (by simp; omega)] at hm2
  cases hm2
  intro B ds w a ok g hr hf
  -- what stands in the cell
  obtain ⟨blkb, arr, E, e1, e2, e3, e4⟩ := hr.boxes.cells b cs hb
  obtain ⟨v, e5, e6⟩ := e4.get hj
  simp only [RepS] at e6
  have e7 := e6
  simp only [Rep] at e7
  obtain ⟨p, cap, f1, _, f2, _⟩ := e7
  have f2 := f2 trivial
  subst f2
  obtain ⟨q1, q2⟩ := hr.adopt p size rows.length
  have hb1 : (bx ++ [Box.acc size rows.length])[b]? = some (.cells cs) := by rw [List.getElem?_append_left hblt]; exact hb
  obtain ⟨blkb', arr', E', g1, g2, g3, g4⟩ := q1.boxes.cells b cs hb1
  rw [List.getElem?_append_left (by rw [hr.boxes.len]; exact hblt), e1] at g1
  cases g1
  rw [e2] at g2
  cases g2
  have hown : RepS w ok (g ++ [Value.slice p rows.length rows.length]) (bx ++ [Box.acc size rows.length]) (.own bx.length size rows) v := by
    simp only [RepS]
    refine ⟨SLe.rep (g := g) (bx := bx) (.full size rows true) (by simp only [RepS]; exact e6), ?_⟩
    rw [OwnOk_iff]
    refine .inl ⟨rows.length, by rw [List.getElem?_append_right (Nat.le_refl _), Nat.sub_self]; rfl, Nat.le_refl _, fun _ => ?_⟩
    rw [f1, ← hr.boxes.len, List.getElem?_append_right (Nat.le_refl _), Nat.sub_self]
    rfl
  have hset : RepSs w ok (g ++ [Value.slice p rows.length rows.length]) (bx ++ [Box.acc size rows.length]) (cs.set j (.own bx.length size rows)) arr.toList := by
    have h1 := g4.set j hown
    have h2 : arr.toList.set j v = arr.toList := by
      apply List.ext_getElem?
      intro i
      by_cases hi : j = i
      · subst hi
        rw [List.getElem?_set_self (List.getElem?_eq_some_iff.1 e5).1, e5]
      · rw [List.getElem?_set_ne hi]
    rw [h2] at h1
    exact h1
  have hlt1 : b < (bx ++ [Box.acc size rows.length]).length := by simp; omega
  have hk : ∀ i : Nat, kindEq ((bx ++ [Box.acc size rows.length])[i]?) (((bx ++ [Box.acc size rows.length]).set b (.cells (cs.set j (.own bx.length size rows))))[i]?) := by
    intro i
    by_cases hi : b = i
    · subst hi
      rw [List.getElem?_set_self hlt1, hb1]
      exact ⟨_, rfl⟩
    · rw [List.getElem?_set_ne hi]
      cases e : (bx ++ [Box.acc size rows.length])[i]? with
      | none => rfl
      | some x => cases x <;> simp [kindEq]
  have hblk : ∀ i, blk (g ++ [Value.slice p rows.length rows.length]) ((bx ++ [Box.acc size rows.length]).set b (.cells (cs.set j (.own bx.length size rows)))) i = blk (g ++ [Value.slice p rows.length rows.length]) (bx ++ [Box.acc size rows.length]) i := fun i => blk_kind (hk i) rfl
  have hl2 : Laters (g ++ [Value.slice p rows.length rows.length]) (bx ++ [Box.acc size rows.length]) (g ++ [Value.slice p rows.length rows.length]) ((bx ++ [Box.acc size rows.length]).set b (.cells (cs.set j (.own bx.length size rows)))) := by
    intro i
    have h1 := Laters.refl q1.boxes.len i
    exact h1.kind (by
      cases e : (bx ++ [Box.acc size rows.length])[i]? with
      | none => rfl
      | some x => cases x <;> simp [kindEq]) (hk i)
  have hrel : RelW G B w ok (g ++ [Value.slice p rows.length rows.length]) ((bx ++ [Box.acc size rows.length]).set b (.cells (cs.set j (.own bx.length size rows)))) :=
    { size := q1.size
      keep := q1.keep
      ext := q1.ext
      dom := fun i x hi => q1.dom i x (by rw [← hblk]; exact hi)
      wf := q1.wf
      rest := q1.rest
      glob := q1.glob
      ids := fun i hi => (q1.ids i hi).trans (hl2 i)
      boxes :=
        { len := by rw [List.length_set]; exact q1.boxes.len
          cells := fun i cs2 hi => by
            by_cases e : b = i
            · subst e
              rw [List.getElem?_set_self hlt1] at hi
              cases hi
              exact ⟨blkb, arr, E, by rw [List.getElem?_append_left (by rw [hr.boxes.len]; exact hblt)]; exact e1, e2, e3, RepSs.kinds hk hset⟩
            · rw [List.getElem?_set_ne e] at hi
              obtain ⟨b2, arr2, E2, h1, h2, h3, h4⟩ := q1.boxes.cells i cs2 hi
              exact ⟨b2, arr2, E2, h1, h2, h3, RepSs.kinds hk h4⟩
          acc := fun i s n hi => q1.boxes.acc i s n (((hk i).acc s n).2 hi)
          apart := fun i k x hi hk2 => q1.boxes.apart i k x (by rw [← hblk]; exact hi) (by rw [← hblk]; exact hk2) } }
  exact h B ds w a ok _ hrel (hf.step (Ext.refl _ _) (q2.trans hl2))

end
end Go.Abs

namespace Go.Abs
open Go

variable {P : Program} {G : Glob} {N : Nat} {fr : Fr} {bx : List Box} {K : Ex → Fr → List Box → Prop} {next : Fr → List Box → Prop}

/-- Less is said, at once or in two steps. -/
def StLeT (fr : Fr) (bx : List Box) (fr' : Fr) (bx' : List Box) : Prop := StLe fr bx fr' bx' ∨ ∃ fr1 bx1, bx.length ≤ bx1.length ∧ StLe fr bx fr1 bx1 ∧ StLe fr1 bx1 fr' bx'

/-- Something is said between two pieces of code: of frames and boxes that a thing tells. -/
theorem AW.cut {c : Code} {S : Type} (C : S → Prop) (F : S → Fr) (X : S → List Box) (hlen : ∀ s, bx.length ≤ (X s).length) (h1 : AW P G N c (thenA (fun fr' bx' => ∃ s, C s ∧ StLeT fr' bx' (F s) (X s)) K) fr bx) (d : Code)
    (h2 : ∀ s, C s → AW P G N d K (F s) (X s)) : AW P G N c (thenA (AW P G N d K) K) fr bx := by
  intro B ds w a ok g hr hf
  have hn := hr.len_le
  refine wp_mono (h1 B ds w a ok g hr hf) ?_
  rintro e a' w' ⟨e', fr', bx', ok', g', h3, h4, h5, h6⟩
  cases e' with
  | normal =>
    obtain ⟨s, hc, hle⟩ := h6
    rcases hle with hle | ⟨fr1, bx1, hl, hle1, hle⟩
    · obtain ⟨h10, h11⟩ := hle.rel hle.closed (Nat.le_trans hn (hlen s)) h4 h5
      exact ⟨.normal, F s, X s, ok', _, h3, h10, h11, h2 s hc⟩
    · obtain ⟨h10, h11⟩ := hle1.rel hle1.closed (Nat.le_trans h4.len_le hl) h4 h5
      obtain ⟨h12, h13⟩ := hle.rel hle.closed (Nat.le_trans hn (hlen s)) h10 h11
      exact ⟨.normal, F s, X s, ok', _, h3, h12, h13, h2 s hc⟩
  | exit id => exact ⟨.exit id, fr', bx', ok', g', h3, h4, h5, h6⟩
  | goto l => exact ⟨.goto l, fr', bx', ok', g', h3, h4, h5, h6⟩
  | ret => exact ⟨.ret, fr', bx', ok', g', h3, h4, h5, h6⟩
  | panic x => exact ⟨.panic x, fr', bx', ok', g', h3, h4, h5, h6⟩

theorem RegD.effO {T : Tab} {ops : List Oper} {es pend ord : List Nat} {bx' : List Box} (_hT : T.Ok P) (pend' : List Nat) {i : Nat} {o : Oper} {x : SV} (ho : ops[i]? = some o) (hw : wantedA ops fr o = some true) (hes : es.contains i = true) (hd : dstOk N o.dst = true)
    (hp1 : (pend.all fun j => pend'.contains j || reachB (ancs ops) i j) = true) (hp2 : (pend'.all fun j => pend.contains j) = true)
    (he : OpS P G o fr bx x bx') (hst : Stable P G ops fr pend' bx') (h : RegD P G N ops es K pend' ord (putF o.dst x fr) bx') : RegD P G N ops es K pend (i :: ord) fr bx := by
  refine RegD.eff (pend' := pend') ho hw (by simpa using hes) hd (EffS.ofOp he) ?_ ?_ ?_ ?_ ?_
  · intro j hj
    have := List.all_eq_true.1 hp1 j hj
    simpa using this
  · intro j hj
    have := List.all_eq_true.1 hp2 j hj
    simpa using this
  · rintro x' b ⟨e, rfl⟩
    exact hst
  · rintro x' b ⟨e, rfl⟩
    cases e
    exact h
  · rintro x' b ⟨e, _⟩
    cases e

/-- An append at a slice that has no room, in a region that draws its order; everything that was is ahead of it. -/
theorem RegD.appendNew {T : Tab} {ops : List Oper} {es pend ord : List Nat} {bx' : List Box} (hT : T.Ok P) {i : Nat} {o : Oper} {d n : Nat} {s y : Operand} {t tx e : TypeId} {size bytes sz1 b1 : Nat} {z1 z2 : List AV} {de : TD} {rows rows2 : List (List AV)} (ho : ops[i]? = some o)
    (hw : wantedA ops fr o = some true) (hes : es.contains i = true) (hd : o.dst = some d) (hN : Nat.blt d N = true) (hp1 : (pend.all fun j => ([] : List Nat).contains j || reachB (ancs ops) i j) = true)
    (hop : o.op = .call ⟨.builtin .append, #[s, y], #[t, tx]⟩) (ht : T.ti t = some ⟨.slice e, sz1, b1, z1⟩) (he : T.ti e = some ⟨de, size, bytes, z2⟩) (hsz : Nat.blt 0 size = true) (hs : nilS T (.slice e) (ev G fr s) = .d (.sl size rows true))
    (hy : srcRows (T.ti tx) (ev G fr y) = some (size, rows2)) (hm : snocK 0 (Box.acc size (rows.length + rows2.length)) bx (fun m l => some (m, l)) = some (n, bx'))
    (h1 : ∀ r ∈ rows2, ∀ x ∈ r, (SV.d x).one = true) (hlen : rows.length + rows2.length ≤ 4611686018427387904) (hbytes : (rows.length + rows2.length) * bytes ≤ 140737488355328)
    (h : RegD P G N ops es K [] ord ((d, .own n size (rows ++ rows2)) :: fr) bx') : RegD P G N ops es K pend (i :: ord) fr bx := by
  rw [snocK_eq, Nat.zero_add] at hm
  cases hm
  refine RegD.effO hT [] ho hw hes (by rw [hd]; exact hN) hp1 rfl (OpS.append_new hT hop ht he hsz hs hy h1 hlen hbytes) Stable.nil ?_
  rw [hd]
  exact h

end Go.Abs

namespace Go.Abs
open Go

variable {P : Program}

theorem Oper.wp_mono2 {o : Oper} {a : Act} {w : World} {K K' : Act → World → Prop} {Q Q' : Exit → Act → World → Prop} (h : ∀ a w, K a w → K' a w) (hq : ∀ e a w, e ≠ .normal → Q e a w → Q' e a w)
    (hh : o.wp P a w K Q) : o.wp P a w K' Q' := by
  unfold Oper.wp at *
  generalize (execOp a.eval o).run P w = r at *
  cases r with
  | ok n w' =>
    cases n <;> simp only [Oper.upon] at hh ⊢ <;>
      first
        | exact h _ _ hh
        | exact Calls.mono hh (fun e w'' he => by
            cases e with
            | returned v => exact h _ _ he
            | panicked chain => exact hq _ _ _ (by simp) he
            | outgrown =>
              obtain ⟨a2, w2, h2⟩ := he
              exact ⟨a2, w2, hq _ _ _ (by simp) h2⟩)
        | exact Rows.mono hh (fun _ _ he => h _ _ he)
  | halt x w' =>
    cases x <;> simp only [Oper.upon] at hh ⊢ <;> first | exact hq _ _ _ (by simp) hh | exact hh

/-- A region whose first operations are all done ahead of the others. -/
structure TwoOk (ops : List Oper) (n : Nat) : Prop where
  le : n ≤ ops.length
  low : ((ops.take n).zipIdx.all fun (o, i) => (dirs o).all (fun k => decide (k < i))) = true
  high : (ops.zipIdx.all fun (o, i) => decide (i < n) || (List.range n).all (fun k => (dirs o).contains k)) = true
  guards : ((ops.take n).all fun o => match o.guard with | none => true | some (j, _) => decide (j < n)) = true

theorem L_append {l : Array Bool} {m i : Nat} : L (l ++ Array.replicate m false) i ↔ L l i := by
  unfold L
  rw [Array.getD_eq_getD_getElem?, Array.getD_eq_getD_getElem?, Array.getElem?_append]
  split
  · rfl
  · rename_i h
    rw [Array.getElem?_eq_none (by omega : l.size ≤ i), Array.getElem?_replicate]
    split <;> rfl

theorem yielded_take {ops : List Oper} {n j : Nat} (hj : j < n) (tmps : Array Value) : yielded (ops.take n).toArray tmps j = yielded ops.toArray tmps j := by
  unfold yielded
  simp only [List.getElem?_toArray, List.getElem?_take, if_pos hj]

theorem wpAny_two {ops : List Oper} {n m : Nat} (h2 : TwoOk ops n) {Q1 Q : Exit → Act → World → Prop} (hq : ∀ e a w, e ≠ .normal → Q1 e a w → Q e a w)
    (ht : ∀ a w, Q1 .normal a w → ∀ f, m ≤ f → wpAny P .any ops.toArray Q f (Array.replicate n true ++ Array.replicate (ops.length - n) false) a w) :
    ∀ (fuel : Nat) (listed : Array Bool) (a : Act) (w : World), listed.size = n → cnt n listed ≤ fuel → wpAny P .any (ops.take n).toArray Q1 fuel listed a w →
      wpAny P .any ops.toArray Q (fuel + m) (listed ++ Array.replicate (ops.length - n) false) a w := by
  have hlen : (ops.take n).length = n := by rw [List.length_take]; exact Nat.min_eq_left h2.le
  have hsize : ∀ listed : Array Bool, listed.size = n → (listed ++ Array.replicate (ops.length - n) false).size = ops.length := by
    intro listed hs
    have := h2.le
    simp
    omega
  have hget : ∀ {i : Nat} {o : Oper}, i < n → ops[i]? = some o → (ops.take n)[i]? = some o := by
    intro i o hi ho
    rw [List.getElem?_take, if_pos hi]
    exact ho
  have stuckless : ∀ {listed : Array Bool}, listed.size = n → Region.ready .any ops.toArray (listed ++ Array.replicate (ops.length - n) false) = [] → ∀ i, i < n → L listed i := by
    intro listed hs hr i
    induction i using Nat.strongRecOn with
    | _ i ih =>
      intro hi
      apply Classical.byContradiction
      intro hn
      have hle := h2.le
      have hi2 : i < ops.length := by omega
      have : i ∈ Region.ready .any ops.toArray (listed ++ Array.replicate (ops.length - n) false) := (ready_iff (hsize listed hs)).2 ⟨ops[i], by simp [hi2], fun h => hn (L_append.1 h), fun k hk => by
        have h1 := List.all_eq_true.1 h2.low (ops[i], i) (by rw [List.mem_zipIdx_iff_getElem?]; exact hget hi (by simp [hi2]))
        have h3 := of_decide_eq_true (List.all_eq_true.1 h1 k hk)
        exact L_append.2 (ih k h3 (by omega))⟩
      rw [hr] at this
      cases this
  have hdone : ∀ {listed : Array Bool}, listed.size = n → (∀ i, i < n → L listed i) → listed = Array.replicate n true ∧ Region.ready .any (ops.take n).toArray listed = [] := by
    intro listed hs hall
    constructor
    · apply Array.ext
      · simp [hs]
      · intro i h1 h3
        have := hall i (by omega)
        unfold L at this
        rw [Array.getD_eq_getD_getElem?, Array.getElem?_eq_getElem h1] at this
        simpa using this
    · cases hr : Region.ready .any (ops.take n).toArray listed with
      | nil => rfl
      | cons i r =>
        have hi : i ∈ Region.ready .any (ops.take n).toArray listed := by rw [hr]; exact List.mem_cons_self ..
        obtain ⟨o, h1, h3, _⟩ := (ready_iff (by rw [hs, hlen])).1 hi
        exact (h3 (hall i (by have := (List.getElem?_eq_some_iff.1 h1).1; omega))).elim
  intro fuel
  induction fuel with
  | zero =>
    intro listed a w hs hc h
    have hall : ∀ i, i < n → L listed i := by
      intro i hi
      apply Classical.byContradiction
      intro hn
      have := cnt_set hi hs hn
      omega
    obtain ⟨e1, e2⟩ := hdone hs hall
    have h3 := h.2
    rw [e1]
    exact ht a w h3 _ (by omega)
  | succ fuel ih =>
    intro listed a w hs hc h
    by_cases hall : ∀ i, i < n → L listed i
    · obtain ⟨e1, e2⟩ := hdone hs hall
      have h3 := h.1 e2
      rw [e1]
      exact ht a w h3 _ (by omega)
    · rw [show fuel + 1 + m = (fuel + m) + 1 from by omega]
      refine ⟨fun hr => (hall (stuckless hs hr)).elim, fun i hi => ?_⟩
      obtain ⟨o, h1, h3, h4⟩ := (ready_iff (hsize listed hs)).1 hi
      have hin : i < n := by
        apply Classical.byContradiction
        intro hn
        apply hall
        intro k hk
        have h5 := List.all_eq_true.1 h2.high (o, i) (by rw [List.mem_zipIdx_iff_getElem?]; exact h1)
        simp only [Bool.or_eq_true, decide_eq_true_eq, List.all_eq_true, List.mem_range, List.contains_iff_mem] at h5
        exact L_append.1 (h4 k (h5.resolve_left hn k hk))
      have h6 := h.2 i ((ready_iff (by rw [hs, hlen])).2 ⟨o, hget hin h1, fun hh => h3 (L_append.2 hh), fun k hk => L_append.1 (h4 k hk)⟩)
      unfold wpOp at h6 ⊢
      have hgo := hget hin h1
      simp only [List.getElem?_toArray, hgo, h1] at h6 ⊢
      have hset : (listed ++ Array.replicate (ops.length - n) false).setIfInBounds i true = listed.setIfInBounds i true ++ Array.replicate (ops.length - n) false := by
        apply Array.ext
        · simp
        · intro j g1 g2
          rw [← Option.some.injEq, ← Array.getElem?_eq_getElem, ← Array.getElem?_eq_getElem, Array.getElem?_append, Array.getElem?_setIfInBounds, Array.getElem?_append]
          simp only [Array.size_append, Array.size_setIfInBounds, Array.getElem?_setIfInBounds]
          by_cases hj : i = j
          · subst hj
            rw [if_pos rfl, if_pos (by omega), if_pos (by omega), if_pos rfl, if_pos (by omega)]
          · rw [if_neg hj]
            split <;> rfl
      have hk : ∀ a w, wpAny P .any (ops.take n).toArray Q1 fuel (listed.setIfInBounds i true) a w → wpAny P .any ops.toArray Q (fuel + m) ((listed ++ Array.replicate (ops.length - n) false).setIfInBounds i true) a w := by
        intro a w hh
        rw [hset]
        refine ih _ _ _ (by simp [hs]) ?_ hh
        have := cnt_set hin hs (fun hh => h3 (L_append.2 hh))
        omega
      have hwant : Region.wanted o (yielded (ops.take n).toArray a.tmps) = Region.wanted o (yielded ops.toArray a.tmps) := by
        have h7 := List.all_eq_true.1 h2.guards o (List.mem_of_getElem? hgo)
        unfold Region.wanted
        cases hg : o.guard with
        | none => rfl
        | some p =>
          obtain ⟨j, b⟩ := p
          rw [hg] at h7
          simp only [decide_eq_true_eq] at h7
          simp only [yielded_take h7]
      rw [hwant] at h6
      by_cases hw : Region.wanted o (yielded ops.toArray a.tmps) = true
      · rw [if_pos hw] at h6 ⊢
        rcases h6 with h6 | ⟨h6, a2, w2, h8⟩
        · exact .inl (Oper.wp_mono2 hk hq h6)
        · exact .inr ⟨h6, a2, w2, hq _ _ _ (by simp) h8⟩
      · rw [if_neg hw] at h6 ⊢
        exact hk _ _ h6

/-- What is left of a region, from where its first n operations are done. -/
def Tail (P : Program) (G : Glob) (N : Nat) (ops : List Oper) (n m : Nat) (K : Ex → Fr → List Box → Prop) (fr : Fr) (bx : List Box) : Prop :=
  ∀ B ds w a ok g, RelW G B w ok g bx → RelF G w ok g bx fr a N ds → ∀ f, m ≤ f → wpAny P .any ops.toArray (QC G N B ds K) f (Array.replicate n true ++ Array.replicate (ops.length - n) false) a w

/-- A region that draws its order, in two parts. -/
theorem AW.drawTwo {G : Glob} {N : Nat} {K : Ex → Fr → List Box → Prop} {id : Nat} {opsA : Array Oper} {fr : Fr} {bx : List Box} (n m : Nat) (es ord : List Nat) (hm : P.follows .mixedOrders = true) (h2 : TwoOk opsA.toList n) (hmm : m = opsA.toList.length - n)
    (hok : DrawOk (opsA.toList.take n) es ord) (h : RegD P G N (opsA.toList.take n) es (thenA (Tail P G N opsA.toList n m K) K) [] ord fr bx) : AW P G N (.region id opsA true) K fr bx := by
  subst hmm
  intro B ds w a ok g hr hf
  refine wp_region_any hm ?_
  have hx := Ext.drew w ok (w.drawn + 1)
  have hl := Laters.refl hr.boxes.len
  have hf' := hf.step (w' := { w with drawn := w.drawn + 1 }) hx hl
  have hlen : (opsA.toList.take n).length = n := by rw [List.length_take]; exact Nat.min_eq_left h2.le
  have hn : ∀ i, ¬ L (Array.replicate n false) i := by
    intro i hi
    unfold L at hi
    rw [Array.getD_eq_getD_getElem?, Array.getElem?_replicate] at hi
    split at hi <;> cases hi
  have hinv : InvD P G N (opsA.toList.take n) es ord (thenA (Tail P G N opsA.toList n (opsA.toList.length - n) K) K) B ds (Array.replicate n false) [] [] ord fr bx { w with drawn := w.drawn + 1 } ok g a :=
    { deriv := h
      rel := hr.drew _
      size := hf.size
      defers := hf.defers
      lsize := by simp [hlen]
      llt := fun i hi => (hn i hi).elim
      tmps := fun t => .inr (hf'.tmps t)
      pends := fun j o d hj => by cases hj
      split := rfl
      done := fun i hi => (hn i hi).elim
      cover := fun i hi => by cases hi
      pendpre := fun j hj => by cases hj
      down := fun i o _ hi => (hn i hi).elim }
  have h3 := hinv.any hok n (by
    unfold cnt
    exact Nat.le_trans List.countP_le_length (by simp [hlen]))
  have h4 := wpAny_two (P := P) h2 (Q1 := QC G N B ds (thenA (Tail P G N opsA.toList n (opsA.toList.length - n) K) K)) (Q := QC G N B ds K) (m := opsA.toList.length - n) ?_ ?_ n _ _ _ (by simp) ?_ h3
  · have e1 : n + (opsA.toList.length - n) = opsA.size := by
      have := h2.le
      simp at this ⊢
      omega
    have e2 : Array.replicate n false ++ Array.replicate (opsA.toList.length - n) false = Array.replicate opsA.size false := by
      rw [Array.replicate_append_replicate, e1]
    rw [e1, e2] at h4
    simpa using h4
  · rintro e a w he ⟨e', fr, bx, ok, g, q1, q2, q3, q4⟩
    refine ⟨e', fr, bx, ok, g, q1, q2, q3, ?_⟩
    cases e' with
    | normal =>
      simp only [RelX] at q1
      exact (he q1).elim
    | exit id => exact q4
    | goto l => exact q4
    | ret => exact q4
    | panic x => exact q4
  · rintro a w ⟨e', fr, bx, ok, g, q1, q2, q3, q4⟩ f hf
    cases e' with
    | normal => exact q4 B ds w a ok g q2 q3 f hf
    | exit id => simp only [RelX] at q1; cases q1
    | goto l => simp only [RelX] at q1; cases q1
    | ret => simp only [RelX] at q1; cases q1
    | panic x =>
      simp only [RelX] at q1
      obtain ⟨u, q1, _⟩ := q1
      cases q1
  · unfold cnt
    exact Nat.le_trans List.countP_le_length (by simp)

end Go.Abs

namespace Go.Abs
open Go

section
variable {P : Program} {T : Tab} {G : Glob} {B : Base} {w : World} {ok : Nat → Nat} {g : List Value} {bx : List Box}

/-- Rows are laid behind those of a slice that has room. -/
theorem appRel_room (h : RelW G B w ok g bx) {size id b cap : Nat} {arr : Array Value} {E : TypeId} {rows rows2 : List (List AV)} {vs2 : List (List Value)} (hb : bx[id]? = some (.acc size rows.length)) (hg : g[id]? = some (.slice (some (pl b 0)) rows.length cap))
    (hh : w.heap[b]? = some (.cells arr E (0, 0))) (harr : arr.size = cap * size) (hokb : ok b = rows.length * size) (hrows : rows = [] ∨ ∃ b' o, (some (pl b 0) : Option Addr) = some (pl b' o) ∧ RepRows w ok rows size b' o) (hl2 : RepL w ok size rows2 vs2)
    (hpos : 0 < rows2.length) (hfit : rows.length + rows2.length ≤ cap) :
    ∃ ok' g', RelW G B (w.setRow b (arr.toList.take (rows.length * size) ++ vs2.flatten ++ arr.toList.drop (rows.length * size + vs2.flatten.length)).toArray) ok' g' (bx.set id (.acc size (rows.length + rows2.length))) ∧
      Ext w ok (w.setRow b (arr.toList.take (rows.length * size) ++ vs2.flatten ++ arr.toList.drop (rows.length * size + vs2.flatten.length)).toArray) ok' ∧
      Laters g bx g' (bx.set id (.acc size (rows.length + rows2.length))) ∧
      RepS (w.setRow b (arr.toList.take (rows.length * size) ++ vs2.flatten ++ arr.toList.drop (rows.length * size + vs2.flatten.length)).toArray) ok' g' (bx.set id (.acc size (rows.length + rows2.length))) (.own id size (rows ++ rows2)) (.slice (some (pl b 0)) (rows.length + rows2.length) cap) := by
  obtain ⟨hlt, hltg⟩ := h.boxes.lt_of_acc hb
  have hn2 := hl2.flat_length
  have hfit2 : rows.length * size + vs2.flatten.length ≤ arr.size := by
    rw [hn2, harr, ← Nat.add_mul]
    exact Nat.mul_le_mul_right _ hfit
  have hA2 : rows.length * size ≤ arr.size := Nat.le_trans (Nat.le_add_right _ _) hfit2
  refine ⟨fun b' => if b' = b then (rows.length + rows2.length) * size else ok b', g.set id (.slice (some (pl b 0)) (rows.length + rows2.length) cap), ?_⟩
  have hblk : blk g bx id = some b := by
    unfold blk
    rw [hb, hg]
    simp only
    rw [if_neg (by omega)]
  have hmul : rows.length * size ≤ (rows.length + rows2.length) * size := Nat.mul_le_mul_right _ (Nat.le_add_right _ _)
  have hx : Ext w ok (w.setRow b (arr.toList.take (rows.length * size) ++ vs2.flatten ++ arr.toList.drop (rows.length * size + vs2.flatten.length)).toArray) (fun b' => if b' = b then (rows.length + rows2.length) * size else ok b') := by
    intro b'
    by_cases e1 : b' = b
    · subst e1
      simp only [if_pos]
      refine ⟨by omega, fun o ho => ?_⟩
      rw [hokb] at ho
      rw [cell_at hh, cell_at (setRow_heap w b' arr _ E _ hh)]
      rw [← Array.getElem?_toList, ← Array.getElem?_toList, List.toList_toArray, List.append_assoc, List.getElem?_append_left (by rw [List.length_take, Array.length_toList]; exact Nat.lt_min.2 ⟨ho, Nat.lt_of_lt_of_le ho hA2⟩), List.getElem?_take_of_lt ho]
    · simp only [if_neg e1]
      exact ⟨Nat.le_refl _, fun o ho => cell_of_heap (heap_setRow_ne e1)⟩
  have hh' := setRow_heap w b arr (arr.toList.take (rows.length * size) ++ vs2.flatten ++ arr.toList.drop (rows.length * size + vs2.flatten.length)).toArray E _ hh
  have harr' : (arr.toList.take (rows.length * size) ++ vs2.flatten ++ arr.toList.drop (rows.length * size + vs2.flatten.length)).toArray.size = cap * size := by
    simp only [List.size_toArray, List.length_append, List.length_take, List.length_drop, Array.length_toList]
    rw [← harr, Nat.min_eq_left hA2]
    generalize rows.length * size = q1 at hfit2 hA2 ⊢
    generalize vs2.flatten.length = q2 at hfit2 ⊢
    omega
  obtain ⟨r1, r2⟩ := h.accSet (n' := rows.length + rows2.length) (cap' := cap) (p' := some (pl b 0)) hb (by omega) hx (by simp) ⟨rfl, rfl, rfl⟩ (by
      intro b' hb'
      by_cases e1 : b' = b
      · subst e1
        simpa using h.boxes.blk_lt hblk
      · simp only [if_neg e1] at hb'
        simpa using h.wf b' hb') (by
      intro b' _ hne
      have e1 : b' ≠ b := by
        rintro rfl
        exact hne hblk
      exact ⟨heap_setRow_ne e1, by simp only [if_neg e1]⟩) hfit (.inr ⟨b, _, E, rfl, hh', harr', by simp only [if_pos], .inl hblk⟩)
  refine ⟨r1, hx, r2, ?_⟩
  simp only [RepS]
  refine ⟨?_, ?_⟩
  · simp only [Rep]
    refine ⟨some (pl b 0), cap, by rw [List.length_append], by rw [List.length_append]; exact hfit, (fun hh => by cases hh), .inr ⟨b, 0, rfl, ?_⟩⟩
    have hold : RepRows w ok rows size b 0 := by
      rcases hrows with rfl | ⟨b2, o2, e1, h5⟩
      · simp only [RepRows]
      · cases e1
        exact h5
    have happ : ∀ {rs rs2 : List (List AV)} {o : Nat}, RepRows (w.setRow b (arr.toList.take (rows.length * size) ++ vs2.flatten ++ arr.toList.drop (rows.length * size + vs2.flatten.length)).toArray) (fun b' => if b' = b then (rows.length + rows2.length) * size else ok b') rs size b o →
        RepRows (w.setRow b (arr.toList.take (rows.length * size) ++ vs2.flatten ++ arr.toList.drop (rows.length * size + vs2.flatten.length)).toArray) (fun b' => if b' = b then (rows.length + rows2.length) * size else ok b') rs2 size b (o + rs.length * size) →
        RepRows (w.setRow b (arr.toList.take (rows.length * size) ++ vs2.flatten ++ arr.toList.drop (rows.length * size + vs2.flatten.length)).toArray) (fun b' => if b' = b then (rows.length + rows2.length) * size else ok b') (rs ++ rs2) size b o := by
      intro rs
      induction rs with
      | nil => intro rs2 o _ h2; simpa using h2
      | cons r rs ih =>
        intro rs2 o h1 h2
        simp only [RepRows, List.cons_append] at h1 ⊢
        refine ⟨h1.1, h1.2.1, ih h1.2.2 ?_⟩
        rw [List.length_cons, Nat.succ_mul] at h2
        rw [show o + size + rs.length * size = o + (rs.length * size + size) by omega]
        exact h2
    refine happ (RepRows.ext hx _ _ _ _ hold) ?_
    rw [Nat.zero_add]
    refine RepRows.ofLe (m := (rows.length + rows2.length) * size) hh' (by simp only [if_pos, Nat.le_refl]) (RepL.ext hx hl2) (by rw [Nat.add_mul]; exact Nat.le_refl _) ?_
    intro j u hj
    rw [← Array.getElem?_toList, List.toList_toArray]
    exact splice_get (by rw [Array.length_toList]; exact hA2) hj
  · rw [OwnOk_iff]
    refine .inl ⟨rows.length + rows2.length, by rw [List.getElem?_set_self hlt], by rw [List.length_append]; exact Nat.le_refl _, fun _ => by rw [List.getElem?_set_self hltg]⟩

/-- Rows are laid behind those of a slice, in a new block. -/
theorem appRel_grow (h : RelW G B w ok g bx) {size id M : Nat} {A zs : Array Value} {e : TypeId} {rows rows2 : List (List AV)} {vs vs2 : List (List Value)} (hb : bx[id]? = some (.acc size rows.length))
    (hl1 : RepL w ok size rows vs) (hl2 : RepL w ok size rows2 vs2) (hpos : 0 < rows2.length) (hge : rows.length + rows2.length ≤ M) (hA : (vs.flatten ++ vs2.flatten).toArray ++ zs = A) (hnew : A.size = M * size) :
    ∃ ok' g', RelW G B (w.drew.alloc (.cells A e)) ok' g' (bx.set id (.acc size (rows.length + rows2.length))) ∧ Ext w ok (w.drew.alloc (.cells A e)) ok' ∧ Laters g bx g' (bx.set id (.acc size (rows.length + rows2.length))) ∧
      RepS (w.drew.alloc (.cells A e)) ok' g' (bx.set id (.acc size (rows.length + rows2.length))) (.own id size (rows ++ rows2)) (.slice (some (pl w.heap.size 0)) (rows.length + rows2.length) M) := by
  obtain ⟨hlt, hltg⟩ := h.boxes.lt_of_acc hb
  have hn2 := hl2.flat_length
  have hnl := hl1.flat_length
  have hx : Ext w ok (w.drew.alloc (.cells A e)) (fun b' => if b' = w.heap.size then (rows.length + rows2.length) * size else ok b') :=
    (Ext.drew w ok (w.drawn + 1)).trans (Ext.grow (w := w.drew) h.wf (.cells A e) _)
  have hheap : (w.drew.alloc (.cells A e)).heap[w.heap.size]? = some (.cells A e (0, 0)) := heap_grow_new (w := w.drew)
  have hkeep : ∀ b, b < w.heap.size → (w.drew.alloc (.cells A e)).heap[b]? = w.heap[b]? := fun b hb' => heap_grow (w := w.drew) hb'
  have hsz2 : (w.drew.alloc (.cells A e)).heap.size = w.heap.size + 1 := by simp
  obtain ⟨r1, r2⟩ := h.accSet (n' := rows.length + rows2.length) (cap' := M) (p' := some (pl w.heap.size 0)) hb (by omega) hx (by rw [hsz2]; omega) ⟨rfl, rfl, rfl⟩ (by
      intro b' hb'
      rw [hsz2]
      by_cases e1 : b' = w.heap.size
      · omega
      · simp only [if_neg e1] at hb'
        have := h.wf b' hb'
        omega) (by
      intro b' hb' _
      exact ⟨hkeep b' hb', by simp only [if_neg (Nat.ne_of_lt hb')]⟩) hge (.inr ⟨w.heap.size, A, e, rfl, hheap, hnew, by simp only [if_pos], .inr (Nat.le_refl _)⟩)
  refine ⟨_, _, r1, hx, r2, ?_⟩
  simp only [RepS]
  refine ⟨?_, ?_⟩
  · simp only [Rep]
    refine ⟨some (pl w.heap.size 0), M, by rw [List.length_append], by rw [List.length_append]; exact hge, (fun hh => by cases hh), .inr ⟨w.heap.size, 0, rfl, ?_⟩⟩
    refine RepRows.ofLe (m := (rows.length + rows2.length) * size) hheap (by simp only [if_pos, Nat.le_refl]) (RepL.append (RepL.ext hx hl1) (RepL.ext hx hl2)) (by rw [List.length_append]; omega) ?_
    intro j u hj
    rw [Nat.zero_add, ← hA]
    rw [List.flatten_append] at hj
    have hj2 := (List.getElem?_eq_some_iff.1 hj).1
    rw [Array.getElem?_append_left (by simpa using hj2)]
    simpa using hj
  · rw [OwnOk_iff]
    refine .inl ⟨rows.length + rows2.length, by rw [List.getElem?_set_self hlt], by rw [List.length_append]; exact Nat.le_refl _, fun _ => by rw [List.getElem?_set_self hltg]⟩

theorem alloc_setRow (w : World) (A C : Array Value) (e : TypeId) : (w.alloc (.cells A e)).setRow w.heap.size C = w.alloc (.cells C e) := by
  unfold World.setRow World.alloc
  congr 1
  apply Array.ext
  · simp
  · intro i h1 h2
    simp only [Array.size_modify, Array.size_push] at h1
    rw [Array.getElem_modify, Array.getElem_push, Array.getElem_push]
    by_cases hi : i < w.heap.size
    · rw [dif_pos hi, dif_pos hi, if_neg (by omega)]
    · rw [dif_neg hi, dif_neg hi, if_pos (by omega)]

theorem setRow_comm (w : World) {b c : Nat} (h : b ≠ c) (A C : Array Value) : (w.setRow b A).setRow c C = (w.setRow c C).setRow b A := by
  unfold World.setRow
  congr 1
  apply Array.ext
  · simp
  · intro i h1 h2
    simp only [Array.getElem_modify]
    by_cases h3 : b = i
    · subst h3
      rw [if_neg (fun e => h e.symm), if_pos rfl, if_pos rfl, if_neg (fun e => h e.symm)]
    · by_cases h4 : c = i
      · subst h4
        rw [if_pos rfl, if_neg h3, if_neg h3, if_pos rfl]
      · rw [if_neg h4, if_neg h3, if_neg h3, if_neg h4]

/-- A row laid over another one. -/
theorem splice_splice {l m m' : List Value} {n : Nat} (hn : n + m.length ≤ l.length) (hm : m'.length = m.length) :
    (l.take n ++ m ++ l.drop (n + m.length)).take n ++ m' ++ (l.take n ++ m ++ l.drop (n + m.length)).drop (n + m'.length) = l.take n ++ m' ++ l.drop (n + m'.length) := by
  have e1 : (l.take n).length = n := by rw [List.length_take]; omega
  have e2 : (l.take n ++ m ++ l.drop (n + m.length)).take n = l.take n := by
    rw [List.append_assoc, List.take_append_of_le_length (by omega), List.take_take, Nat.min_self]
  have e3 : (l.take n ++ m ++ l.drop (n + m.length)).drop (n + m'.length) = l.drop (n + m'.length) := by
    rw [List.drop_append_of_le_length (by rw [List.length_append, e1]; omega), List.drop_eq_nil_of_le (by rw [List.length_append, e1]; omega), List.nil_append, hm]
  rw [e2, e3]

end
end Go.Abs

namespace Go.Abs
open Go

section
variable {P : Program} {T : Tab} {G : Glob} {B : Base} {w : World} {ok : Nat → Nat} {g : List Value} {bx : List Box}

theorem behind {l m m' k : List Value} (h : m'.length = m.length) : (l ++ m ++ k).take l.length ++ m' ++ (l ++ m ++ k).drop (l.length + m'.length) = l ++ m' ++ k := by
  have e1 : (l ++ m ++ k).take l.length = l := by
    rw [List.append_assoc, List.take_append_of_le_length (Nat.le_refl _), List.take_length]
  have e2 : (l ++ m ++ k).drop (l.length + m'.length) = k := by
    rw [h, ← List.length_append, List.drop_append_of_le_length (Nat.le_refl _), List.drop_length, List.nil_append]
  rw [e1, e2]

/-- append of a row, in whose place another one is laid then. -/
theorem append_hole (hT : T.Ok P) (h : RelW G B w ok g bx) {t tx e ty : TypeId} {size bytes sz1 bb1 : Nat} {z1 z2 : List AV} {de : TD} (ht : T.ti t = some ⟨.slice e, sz1, bb1, z1⟩) (he : T.ti e = some ⟨de, size, bytes, z2⟩)
    {id : Nat} {rows : List (List AV)} {rz r : List AV} {v y : Value} {sy : SV} {vr : List Value} (hb : bx[id]? = some (.acc size rows.length)) (hg : g[id]? = some v) (hv : Rep w ok (.sl size rows false) v)
    (hs : srcRows (T.ti tx) sy = some (size, [rz])) (h1 : ∀ r ∈ [rz], ∀ x ∈ r, (SV.d x).one = true) (hy : RepS w ok g bx sy y) (hr : RepL w ok size [r] [vr])
    (hlen : rows.length + 1 ≤ 4611686018427387904) (hbytes : (rows.length + 1) * bytes ≤ 140737488355328) :
    ∃ w1 b1 cap' arr E ok' g', (Builtin.append_ #[t, tx] ty #[v, y]).run P w = .ok (.slice (some (pl b1 0)) (rows.length + 1) cap') w1 ∧ w1.heap[b1]? = some (.cells arr E (0, 0)) ∧ rows.length * size + vr.length ≤ arr.size ∧ vr.length = size ∧
      (∀ j b, j ≠ id → blk g bx j = some b → b ≠ b1 ∧ w1.heap[b]? = w.heap[b]?) ∧
      RelW G B (w1.setRow b1 (arr.toList.take (rows.length * size) ++ vr ++ arr.toList.drop (rows.length * size + vr.length)).toArray) ok' g' (bx.set id (.acc size (rows.length + 1))) ∧
      Ext w ok (w1.setRow b1 (arr.toList.take (rows.length * size) ++ vr ++ arr.toList.drop (rows.length * size + vr.length)).toArray) ok' ∧
      Laters g bx g' (bx.set id (.acc size (rows.length + 1))) ∧
      RepS (w1.setRow b1 (arr.toList.take (rows.length * size) ++ vr ++ arr.toList.drop (rows.length * size + vr.length)).toArray) ok' g' (bx.set id (.acc size (rows.length + 1))) (.own id size (rows ++ [r])) (.slice (some (pl b1 0)) (rows.length + 1) cap') := by
  obtain ⟨i, z, hi, hisz, hib, hiz, hizl⟩ := (Tab.ti_ok hT he).info
  simp only at hisz hib hizl
  have hzs : z.cells.size = size := by
    have := (Tab.ti_ok hT he).zlen
    simp only at this
    rw [← Array.length_toList, hizl, List.length_map, this]
  obtain ⟨d, hu, hd⟩ := (Tab.ti_ok hT ht).under
  have hd := td_slice hd
  subst hd
  obtain ⟨vsz, hlz, hsrc⟩ := src_of (P := P) hT hs h1 hy
  have hnz := hlz.flat_length
  have hnr := hr.flat_length
  simp only [List.flatten_cons, List.flatten_nil, List.append_nil, List.length_cons, List.length_nil, Nat.zero_add, Nat.one_mul] at hnr hnz
  obtain ⟨hlt, hltg⟩ := h.boxes.lt_of_acc hb
  obtain ⟨p, cap, hg2, hcap, hroom⟩ := h.boxes.acc id size rows.length hb
  rw [hg] at hg2
  cases hg2
  simp only [Rep] at hv
  obtain ⟨p', cap', hpe, _, _, hrows⟩ := hv
  cases hpe
  by_cases hfit : rows.length + 1 ≤ cap
  · rcases hroom with hroom | ⟨b, arr, E, rfl, hh, harr, hokb⟩
    · omega
    · have hfit2 : rows.length * size + vsz.flatten.length ≤ arr.size := by
        rw [hnz, harr]
        have := Nat.mul_le_mul_right size hfit
        rw [Nat.add_mul, Nat.one_mul] at this
        exact this
      have hst := run_storeCells_at P b (rows.length * size) E vsz.flatten 0 arr w hh (by simpa only [Nat.add_zero] using hfit2) hsrc.one
      simp only [Nat.add_zero] at hst
      have hrun : (Builtin.append_ #[t, tx] ty #[.slice (some (pl b 0)) rows.length cap, y]).run P w = .ok (.slice (some (pl b 0)) (rows.length + 1) cap)
          (w.setRow b (arr.toList.take (rows.length * size) ++ vsz.flatten ++ arr.toList.drop (rows.length * size + vsz.flatten.length)).toArray) := by
        have hc := hsrc.cells
        have hl := hsrc.len
        simp only [List.length_cons, List.length_nil, Nat.zero_add] at hc hl
        rw [← hisz] at hc hst ⊢
        rcases hsrc.kind with ⟨e', hk⟩ | hk <;>
          simp [Builtin.append_, run_underlying hu, run_underlying hk, sizeOf, typeInfo, hi, hl, hfit, hc, Addr.add_lit, hst]
      have hblk : blk g bx id = some b := by
        unfold blk
        rw [hb, hg]
        simp only
        rw [if_neg (by omega)]
      obtain ⟨ok', g', r1, r2, r3, r4⟩ := appRel_room h (rows2 := [r]) (vs2 := [vr]) hb hg hh harr hokb hrows hr (by simp) (by simpa using hfit)
      simp only [List.flatten_cons, List.flatten_nil, List.append_nil, List.length_cons, List.length_nil, Nat.zero_add] at r1 r2 r3 r4
      have hh' := setRow_heap w b arr (arr.toList.take (rows.length * size) ++ vsz.flatten ++ arr.toList.drop (rows.length * size + vsz.flatten.length)).toArray E _ hh
      have hsz : (arr.toList.take (rows.length * size) ++ vsz.flatten ++ arr.toList.drop (rows.length * size + vsz.flatten.length)).toArray.size = arr.size := by
        simp only [List.size_toArray, List.length_append, List.length_take, List.length_drop, Array.length_toList]
        omega
      have hw2 := setRow_setRow w b (arr.toList.take (rows.length * size) ++ vsz.flatten ++ arr.toList.drop (rows.length * size + vsz.flatten.length)).toArray (arr.toList.take (rows.length * size) ++ vr ++ arr.toList.drop (rows.length * size + vr.length)).toArray
      rw [← splice_splice (l := arr.toList) (m := vsz.flatten) (m' := vr) (n := rows.length * size) (by simpa using hfit2) (by omega)] at hw2
      refine ⟨_, b, cap, _, E, ok', g', hrun, hh', by rw [hsz]; omega, hnr, ?_, ?_⟩
      · intro j b' hj hbj
        have hne : b' ≠ b := fun e => hj (h.boxes.apart j id b' hbj (by rw [e]; exact hblk))
        exact ⟨hne, heap_setRow_ne hne⟩
      · rw [List.toList_toArray, hw2, splice_splice (by simpa using hfit2) (by omega)]
        exact ⟨r1, r2, r3, r4⟩
  · obtain ⟨vs, hl1, holds⟩ : ∃ vs, RepL w ok size rows vs ∧ (Builtin.firstCells i.size rows.length (.slice p rows.length cap)).run P w.drew = .ok vs.flatten.toArray w.drew := by
      rcases hrows with hr | ⟨b, o, rfl, h5⟩
      · subst hr
        refine ⟨[], rfl, ?_⟩
        cases p <;> simp [Builtin.firstCells, loadCells, loadCellsFrom]
      · obtain ⟨vs, h6, h7⟩ := RepRows.load h5
        refine ⟨vs, h6, run_firstCells_some w.drew i.size rows.length (pl b o) rows.length cap vs.flatten (by rw [hisz]; exact h6.flat_length) (by simpa using h7)⟩
    have hnl := hl1.flat_length
    rw [← hisz] at hsrc
    have hrun := run_append_grow_src (P := P) w t tx ty e i z hu hi hiz p rows.length cap vs.flatten holds y 1 vsz.flatten hsrc (by omega) (by omega) (growslice_fits (by omega) (by rw [hib]; exact hbytes))
    have hge := grownCap_ge w (rows.length + 1) cap e
    generalize hM : grownCap w (rows.length + 1) cap e = M at hrun hge
    have hsz : ∀ l : List Value, l.length = size → ((vs.flatten ++ l).toArray ++ Builtin.zeroCells z.cells (M - (rows.length + 1))).size = M * size := by
      intro l hl
      rw [Array.size_append, List.size_toArray, List.length_append, size_zeroCells, hzs, hnl, hl, show rows.length * size + size = (rows.length + 1) * size from by rw [Nat.add_mul, Nat.one_mul], ← Nat.add_mul]
      congr 1
      omega
    obtain ⟨ok', g', r1, r2, r3, r4⟩ := appRel_grow h (e := e) (rows2 := [r]) (vs2 := [vr]) (M := M) (zs := Builtin.zeroCells z.cells (M - (rows.length + 1))) hb hl1 hr (by simp) (by simpa using hge) rfl (by simpa using hsz vr hnr)
    simp only [List.flatten_cons, List.flatten_nil, List.append_nil, List.length_cons, List.length_nil, Nat.zero_add] at r1 r2 r3 r4
    have hheap : (w.drew.alloc (.cells ((vs.flatten ++ vsz.flatten).toArray ++ Builtin.zeroCells z.cells (M - (rows.length + 1))) e)).heap[w.heap.size]? = some (.cells ((vs.flatten ++ vsz.flatten).toArray ++ Builtin.zeroCells z.cells (M - (rows.length + 1))) e (0, 0)) := heap_grow_new (w := w.drew)
    have hfit2 : rows.length * size + vr.length ≤ M * size := by
      have := Nat.mul_le_mul_right size hge
      rw [Nat.add_mul, Nat.one_mul] at this
      omega
    have hsp : (((vs.flatten ++ vsz.flatten).toArray ++ Builtin.zeroCells z.cells (M - (rows.length + 1))).toList.take (rows.length * size) ++ vr ++ ((vs.flatten ++ vsz.flatten).toArray ++ Builtin.zeroCells z.cells (M - (rows.length + 1))).toList.drop (rows.length * size + vr.length)).toArray =
        (vs.flatten ++ vr).toArray ++ Builtin.zeroCells z.cells (M - (rows.length + 1)) := by
      apply Array.ext'
      simp only [Array.toList_append]
      rw [← hnl]
      exact behind (by omega)
    refine ⟨_, w.heap.size, M, _, e, ok', g', hrun, hheap, by rw [hsz _ hnz]; exact hfit2, hnr, ?_, ?_⟩
    · intro j b' hj hbj
      have hlt2 := h.boxes.blk_lt hbj
      exact ⟨by omega, heap_grow (w := w.drew) hlt2⟩
    · rw [hsp]
      have hal := alloc_setRow w.drew ((vs.flatten ++ vsz.flatten).toArray ++ Builtin.zeroCells z.cells (M - (rows.length + 1))) ((vs.flatten ++ vr).toArray ++ Builtin.zeroCells z.cells (M - (rows.length + 1))) e
      have hal : (w.drew.alloc (.cells ((vs.flatten ++ vsz.flatten).toArray ++ Builtin.zeroCells z.cells (M - (rows.length + 1))) e)).setRow w.heap.size ((vs.flatten ++ vr).toArray ++ Builtin.zeroCells z.cells (M - (rows.length + 1))) = w.drew.alloc (.cells ((vs.flatten ++ vr).toArray ++ Builtin.zeroCells z.cells (M - (rows.length + 1))) e) := hal
      rw [hal]
      exact ⟨r1, r2, r3, r4⟩

end
end Go.Abs

namespace Go.Abs
open Go

theorem eval_put {a : Act} {N d k : Nat} {v : Value} (hs : a.tmps.size = N) (hd : d < N) : (a.put (some d) v).eval (.tmp k) = if k = d then v else a.eval (.tmp k) := by
  show (a.put (some d) v).tmps.getD k undef = _
  rw [tmps_put hd hs]
  rfl

/-- A store, at a block that is known. -/
theorem store_wp {P : Program} {T : Tab} (hT : T.Ok P) {o : Oper} {t : TypeId} {p x : Operand} {ti : TI} {a : Act} {w : World} {b off : Nat} {arr : Array Value} {E : TypeId} {l : List Value} {K : Act → World → Prop} {Q : Exit → Act → World → Prop}
    (hop : o.op = .store t p x) (hd : o.dst = none) (ht : T.ti t = some ti) (hp : a.eval p = .pointer (some (pl b off))) (hx : (a.eval x).cells.toList = l) (hl : l.length = ti.size) (hone : ∀ v ∈ l, v.oneCell' = true)
    (hh : w.heap[b]? = some (.cells arr E (0, 0))) (hfit : off + l.length ≤ arr.size) (h : K a (w.setRow b (arr.toList.take off ++ l ++ arr.toList.drop (off + l.length)).toArray)) : o.wp P a w K Q := by
  have hst := run_storeCells_at P b off E l 0 arr w hh (by omega) hone
  simp only [Nat.add_zero] at hst
  have hsz : (a.eval x).cells.size = ti.size := by rw [← Array.length_toList, hx, hl]
  have : (execOp a.eval o).run P w = .ok .skip (w.setRow b (arr.toList.take off ++ l ++ arr.toList.drop (off + l.length)).toArray) := by
    unfold execOp
    rw [hop]
    simp [Instr.storeAt, hp, Instr.sureAddr, storeVar, run_size hT ht, hsz, hx, hst]
  unfold Oper.wp
  rw [this, Oper.upon_skip, hd]
  exact h

/-- An address of an element of a slice that is known. -/
theorem index_wp {P : Program} {T : Tab} (hT : T.Ok P) {o : Oper} {t e : TypeId} {y z : Operand} {s1 b1 : Nat} {z1 : List AV} {te : TI} {a : Act} {w : World} {b n c m d : Nat} {k : IntKind} {K : Act → World → Prop} {Q : Exit → Act → World → Prop}
    (hop : o.op = .indexAddr t y z) (hd : o.dst = some d) (ht : T.ti t = some ⟨.slice e, s1, b1, z1⟩) (he : T.ti e = some te) (hy : a.eval y = .slice (some (pl b 0)) n c) (hz : a.eval z = .int k m) (hm : m < n)
    (h : K (a.put (some d) (.pointer (some (pl b (m * te.size))))) w) : o.wp P a w K Q := by
  obtain ⟨du, hu, hd'⟩ := (Tab.ti_ok hT ht).under
  have hd' := td_slice hd'
  subst hd'
  have : (execOp a.eval o).run P w = .ok (.value (.pointer (some (pl b (m * te.size))))) w := by
    unfold execOp
    rw [hop]
    have h0 : (0 : Int) ≤ m := by omega
    have h1 : (m : Int) < n := by omega
    simp [Instr.indexAt, hy, hz, asIntOf, underlying, hu, h0, hm, run_size hT he, add_pl]
  unfold Oper.wp
  rw [this, Oper.upon_value, hd]
  exact h

variable {P : Program} {T : Tab} {G : Glob} {N : Nat} {K : Ex → Fr → List Box → Prop} {fr : Fr}

theorem wpAny_step {ops : List Oper} {Q : Exit → Act → World → Prop} {f i : Nat} {listed : Array Bool} {a : Act} {w : World} {rest : List Nat} (hr : Region.ready .any ops.toArray listed = i :: rest)
    (h : ∀ j ∈ i :: rest, wpOp P ops.toArray Q j (wpAny P .any ops.toArray Q f (listed.setIfInBounds j true)) a w) : wpAny P .any ops.toArray Q (f + 1) listed a w := by
  refine ⟨fun h => ?_, fun j hj => h j (by rw [hr] at hj; exact hj)⟩
  rw [hr] at h
  cases h
theorem wpAny_end {ops : List Oper} {Q : Exit → Act → World → Prop} {f : Nat} {listed : Array Bool} {a : Act} {w : World} (hr : Region.ready .any ops.toArray listed = []) (h : Q .normal a w) : wpAny P .any ops.toArray Q f listed a w := by
  cases f with
  | zero => exact ⟨hr, h⟩
  | succ f => exact ⟨fun _ => h, fun j hj => by rw [hr] at hj; cases hj⟩

theorem wanted_none {o : Oper} {y : Nat → Option Bool} (h : o.guard = none) : Region.wanted o y = true := by
  unfold Region.wanted
  rw [h]

/-- What a region that appends in place has to show of itself. -/
structure InPlaceOk (ops : List Oper) (n : Nat) : Prop where
  r0 : Region.ready .any ops.toArray (Array.replicate n true ++ Array.replicate 4 false) = [n]
  r1 : Region.ready .any ops.toArray ((Array.replicate n true ++ Array.replicate 4 false).setIfInBounds n true) = [n + 1, n + 3]
  r2 : Region.ready .any ops.toArray (((Array.replicate n true ++ Array.replicate 4 false).setIfInBounds n true).setIfInBounds (n + 1) true) = [n + 2, n + 3]
  r3 : Region.ready .any ops.toArray (((Array.replicate n true ++ Array.replicate 4 false).setIfInBounds n true).setIfInBounds (n + 3) true) = [n + 1]
  r4 : Region.ready .any ops.toArray ((((Array.replicate n true ++ Array.replicate 4 false).setIfInBounds n true).setIfInBounds (n + 1) true).setIfInBounds (n + 2) true) = [n + 3]
  r5 : Region.ready .any ops.toArray ((((Array.replicate n true ++ Array.replicate 4 false).setIfInBounds n true).setIfInBounds (n + 1) true).setIfInBounds (n + 3) true) = [n + 2]
  r6 : Region.ready .any ops.toArray ((((Array.replicate n true ++ Array.replicate 4 false).setIfInBounds n true).setIfInBounds (n + 3) true).setIfInBounds (n + 1) true) = [n + 2]
  r7 : Region.ready .any ops.toArray (((((Array.replicate n true ++ Array.replicate 4 false).setIfInBounds n true).setIfInBounds (n + 1) true).setIfInBounds (n + 2) true).setIfInBounds (n + 3) true) = []
  r8 : Region.ready .any ops.toArray (((((Array.replicate n true ++ Array.replicate 4 false).setIfInBounds n true).setIfInBounds (n + 1) true).setIfInBounds (n + 3) true).setIfInBounds (n + 2) true) = []
  r9 : Region.ready .any ops.toArray (((((Array.replicate n true ++ Array.replicate 4 false).setIfInBounds n true).setIfInBounds (n + 3) true).setIfInBounds (n + 1) true).setIfInBounds (n + 2) true) = []

/-- The end of a region that appends a row to a slice in a cell of a box: the row's place is laid, then the row, and the slice is stored: in any order. -/
theorem Tail.append (hT : T.Ok P) {ops : List Oper} {n : Nat} {oA oI oS oP : Oper} {bx bx1 bx2 : List Box} {s y z : Operand} {kx kp dA dI id b j size bytes bytes1 : Nat} {t tx e : TypeId} {z1 z2 : List AV} {de : TD} {rows : List (List AV)} {rz r : List AV} {cs cs' : List SV} {k : IntKind}
    (hn : ops.length = n + 4) (hok : InPlaceOk ops n)
    (hA : ops[n]? = some oA) (hI : ops[n + 1]? = some oI) (hS : ops[n + 2]? = some oS) (hP : ops[n + 3]? = some oP)
    (gA : oA.guard = none) (gI : oI.guard = none) (gS : oS.guard = none) (gP : oP.guard = none)
    (opA : oA.op = .call ⟨.builtin .append, #[s, y], #[t, tx]⟩) (ddA : oA.dst = some dA) (opI : oI.op = .indexAddr t (.tmp dA) z) (ddI : oI.dst = some dI)
    (opS : oS.op = .store e (.tmp dI) (.tmp kx)) (ddS : oS.dst = none) (opP : oP.op = .store t (.tmp kp) (.tmp dA)) (ddP : oP.dst = none)
    (hlA : Nat.blt dA N = true) (hlI : Nat.blt dI N = true) (hAI : dA ≠ dI) (hxA : kx ≠ dA) (hxI : kx ≠ dI) (hpA : kp ≠ dA) (hpI : kp ≠ dI) (hzz : ∀ q, z = .tmp q → q ≠ dA)
    (ht : T.ti t = some ⟨.slice e, 1, bytes1, z1⟩) (he : T.ti e = some ⟨de, size, bytes, z2⟩)
    (hs : ev G fr s = .own id size rows) (hb : bx[id]? = some (.acc size rows.length)) (hy : srcRows (T.ti tx) (ev G fr y) = some (size, [rz])) (h1 : ∀ r ∈ [rz], ∀ x ∈ r, (SV.d x).one = true)
    (hz : ev G fr z = .d (.val (.int k rows.length))) (hx : look fr kx = .d (.agg r)) (hr1 : r.length = size) (hrone : (r.map SV.d).all SV.one = true)
    (hp : look fr kp = .ptr b j) (hc : bx[b]? = some (.cells cs))
    (hcs : spliceK none j [SV.own id size (rows ++ [r])] cs some = some cs') (hm1 : setK none id (Box.acc size (rows.length + 1)) bx some = some bx1) (hm2 : setK none b (Box.cells cs') bx1 some = some bx2)
    (hlen : rows.length + 1 ≤ 4611686018427387904) (hbytes : (rows.length + 1) * bytes ≤ 140737488355328)
    (h : K .normal ((dA, .own id size (rows ++ [r])) :: (dI, .d .junk) :: fr) bx2) : Tail P G N ops n 4 K fr bx := by
  intro B ds w a ok g hr hf f hfuel
  have hidlt : id < bx.length := (List.getElem?_eq_some_iff.1 hb).1
  rw [setK_eq, if_pos hidlt] at hm1
  cases hm1
  have hbid : id ≠ b := fun e => by subst e; rw [hb] at hc; cases hc
  have hblt : b < (bx.set id (Box.acc size (rows.length + 1))).length := by rw [List.length_set]; exact (List.getElem?_eq_some_iff.1 hc).1
  rw [setK_eq, if_pos hblt] at hm2
  cases hm2
  rw [spliceK_eq] at hcs
  split at hcs
  case isFalse => cases hcs
  rename_i hjlt
  cases hcs
  have hNA : dA < N := Nat.le_of_ble_eq_true hlA
  have hNI : dI < N := Nat.le_of_ble_eq_true hlI
  -- what the operands are
  have q1 := hf.ev hr s
  have q2 := hf.ev hr y
  have q3 := hf.ev hr z
  have q4 := hf.tmps kx
  have q5 := hf.tmps kp
  rw [hs] at q1
  rw [hz] at q3
  rw [hx] at q4
  rw [hp] at q5
  simp only [RepS] at q1 q5
  simp only [RepS, Rep] at q3 q4
  obtain ⟨q1, q1o⟩ := q1
  rw [OwnOk_iff] at q1o
  have hg : g[id]? = some (a.eval s) := by
    rcases q1o with ⟨hw, e1, e2, e3⟩ | e1
    · rw [hb] at e1
      cases e1
      exact e3 rfl
    · rw [hb] at e1
      cases e1
  obtain ⟨vr, hxv, hvr⟩ := q4
  have hlr := hvr.length
  obtain ⟨_, bb, hgb, hpv⟩ := q5
  obtain ⟨bb', arrB, EB, f1, f2, f3, f4⟩ := hr.boxes.cells b cs hc
  rw [hgb] at f1
  cases f1
  have hvone : ∀ v ∈ vr, v.oneCell' = true := ones_cells (bx := bx) (g := g) hrone (RepSs.data hvr)
  have hRL : RepL w ok size [r] [vr] := by
    simp only [RepL]
    exact ⟨vr, [], rfl, ⟨hvr, hr1⟩, rfl⟩
  obtain ⟨w1, b1, cap', arr, E, ok', g', hrun, hh1, hfit, hvlen, hap, r1, r2, r3, r4⟩ := append_hole (ty := oA.type) hT hr ht he hb hg q1 hy h1 q2 hRL hlen hbytes
  have hblkb : blk g bx b = some bb := by
    unfold blk
    rw [hc, hgb]
  obtain ⟨hne, hhb⟩ := hap b bb (fun e => hbid e.symm) hblkb
  have hhb1 : w1.heap[bb]? = some (.cells arrB EB (0, 0)) := hhb.trans f2
  have hl3 := f4.length
  have hjb : j + 1 ≤ arrB.size := by
    rw [← Array.length_toList, hl3]
    simpa using hjlt
  -- the end
  have hc' : (bx.set id (Box.acc size (rows.length + 1)))[b]? = some (.cells cs) := by rw [List.getElem?_set_ne hbid]; exact hc
  have hgb' : g'[b]? = some (.pointer (some (pl bb 0))) := by
    have := r3 b
    rw [hc, hc'] at this
    simp only [Later] at this
    rw [this.1]
    exact hgb
  have f4' := RepSs.later r2 r3 _ _ f4
  have hown : RepSs (w1.setRow b1 (arr.toList.take (rows.length * size) ++ vr ++ arr.toList.drop (rows.length * size + vr.length)).toArray) ok' g' (bx.set id (.acc size (rows.length + 1))) [.own id size (rows ++ [r])] [Value.slice (some (pl b1 0)) (rows.length + 1) cap'] := by
    simp only [RepSs]
    exact ⟨_, [], rfl, r4, rfl⟩
  have f5 := f4'.splice j hown hjlt
  obtain ⟨s1, s2, s3⟩ := r1.put hc' hgb' f5
  have fin : ∀ a' w', a' = (a.put (some dA) (.slice (some (pl b1 0)) (rows.length + 1) cap')).put (some dI) (.pointer (some (pl b1 (rows.length * size)))) →
      w' = (w1.setRow b1 (arr.toList.take (rows.length * size) ++ vr ++ arr.toList.drop (rows.length * size + vr.length)).toArray).setRow bb (arrB.toList.take j ++ [Value.slice (some (pl b1 0)) (rows.length + 1) cap'] ++ arrB.toList.drop (j + 1)).toArray → QC G N B ds K .normal a' w' := by
    rintro a' w' rfl rfl
    refine ⟨.normal, _, _, ok', g', rfl, s1, ?_, h⟩
    have g1 := (hf.step (r2.trans s2) (r3.trans s3)).put (d := some dA) (x := .own id size (rows ++ [r])) hlA (RepS.later s2 s3 _ _ r4)
    have g2 := g1.put (d := some dI) (x := .d .junk) (v := .pointer (some (pl b1 (rows.length * size)))) hlI (by simp only [RepS, Rep])
    refine ⟨g2.size, fun u => ?_, g2.defers⟩
    have g3 := g2.tmps u
    simp only [putF] at g3
    rw [look_cons] at g3 ⊢
    rw [look_cons] at g3 ⊢
    split
    · rename_i e
      subst e
      rw [if_neg hAI, if_pos rfl] at g3
      exact g3
    · split
      · rename_i e1 e2
        subst e2
        simp only [RepS, Rep]
      · rename_i e1 e2
        rw [if_neg e2, if_neg e1] at g3
        exact g3
  -- the steps
  have asz : a.tmps.size = N := hf.size
  have stepI : ∀ {a0 w0 K0 Q0}, a0 = a.put (some dA) (.slice (some (pl b1 0)) (rows.length + 1) cap') → K0 (a0.put (some dI) (.pointer (some (pl b1 (rows.length * size))))) w0 → oI.wp P a0 w0 K0 Q0 := by
    rintro a0 w0 K0 Q0 rfl hK
    refine index_wp hT (k := k) (n := rows.length + 1) (c := cap') (m := rows.length) opI ddI ht he ?_ ?_ (by omega) hK
    · rw [eval_put asz hNA, if_pos rfl]
    · rw [← q3]
      cases z with
      | tmp q =>
        rw [eval_put asz hNA, if_neg (hzz q rfl)]
      | _ => rfl
  have stepP : ∀ {a0 w0 K0 Q0}, a0.eval (.tmp dA) = .slice (some (pl b1 0)) (rows.length + 1) cap' → a0.eval (.tmp kp) = a.eval (.tmp kp) → w0.heap[bb]? = some (.cells arrB EB (0, 0)) →
      K0 a0 (w0.setRow bb (arrB.toList.take j ++ [Value.slice (some (pl b1 0)) (rows.length + 1) cap'] ++ arrB.toList.drop (j + 1)).toArray) → oP.wp P a0 w0 K0 Q0 := by
    intro a0 w0 K0 Q0 e1 e2 e3 hK
    refine store_wp hT (l := [Value.slice (some (pl b1 0)) (rows.length + 1) cap']) opP ddP ht (by rw [e2]; exact hpv) (by rw [e1]; rfl) rfl (by intro v hv; simp at hv; subst hv; rfl) e3 hjb hK
  have stepS : ∀ {a0 w0 K0 Q0}, a0.eval (.tmp dI) = .pointer (some (pl b1 (rows.length * size))) → a0.eval (.tmp kx) = a.eval (.tmp kx) → w0.heap[b1]? = some (.cells arr E (0, 0)) →
      K0 a0 (w0.setRow b1 (arr.toList.take (rows.length * size) ++ vr ++ arr.toList.drop (rows.length * size + vr.length)).toArray) → oS.wp P a0 w0 K0 Q0 := by
    intro a0 w0 K0 Q0 e1 e2 e3 hK
    refine store_wp hT (l := vr) opS ddS he e1 ?_ hvlen hvone e3 hfit hK
    rw [e2]
    show (a.tmps.getD kx undef).cells.toList = vr
    rw [hxv]
    rfl
  generalize ha1 : a.put (some dA) (.slice (some (pl b1 0)) (rows.length + 1) cap') = a1 at fin
  generalize ha2 : a1.put (some dI) (.pointer (some (pl b1 (rows.length * size)))) = a2 at fin
  have a1sz : a1.tmps.size = N := by subst ha1; simp [Act.put, asz]
  have ev1 : ∀ q, a1.eval (.tmp q) = if q = dA then .slice (some (pl b1 0)) (rows.length + 1) cap' else a.eval (.tmp q) := fun q => by subst ha1; exact eval_put asz hNA
  have ev2 : ∀ q, a2.eval (.tmp q) = if q = dI then .pointer (some (pl b1 (rows.length * size))) else a1.eval (.tmp q) := fun q => by subst ha2; exact eval_put a1sz hNI
  have hlenf : ops.length - n = 4 := by omega
  rw [hlenf]
  have hset : ∀ X, (w1.setRow bb X).heap[b1]? = some (.cells arr E (0, 0)) := fun X => (heap_setRow_ne (fun e => hne e.symm)).trans hh1
  have hset2 : ∀ X, (w1.setRow b1 X).heap[bb]? = some (.cells arrB EB (0, 0)) := fun X => (heap_setRow_ne hne).trans hhb1
  obtain ⟨f, rfl⟩ : ∃ f', f = f' + 4 := ⟨f - 4, by omega⟩
  refine wpAny_step hok.r0 (fun i hi => ?_)
  simp only [List.mem_singleton] at hi
  subst hi
  refine wpOp_of hA (wanted_none gA) ?_
  have hA' := run_append_op opA a hrun
  unfold Oper.wp
  rw [hA', Oper.upon_value, ddA, ha1]
  refine wpAny_step hok.r1 (fun i hi => ?_)
  simp only [List.mem_cons, List.not_mem_nil, or_false] at hi
  rcases hi with rfl | rfl
  · refine wpOp_of hI (wanted_none gI) (stepI ha1.symm ?_)
    rw [ha2]
    refine wpAny_step hok.r2 (fun i hi => ?_)
    simp only [List.mem_cons, List.not_mem_nil, or_false] at hi
    rcases hi with rfl | rfl
    · refine wpOp_of hS (wanted_none gS) (stepS (by rw [ev2, if_pos rfl]) (by rw [ev2, if_neg hxI, ev1, if_neg hxA]) hh1 ?_)
      refine wpAny_step hok.r4 (fun i hi => ?_)
      simp only [List.mem_singleton] at hi
      subst hi
      refine wpOp_of hP (wanted_none gP) (stepP (by rw [ev2, if_neg hAI, ev1, if_pos rfl]) (by rw [ev2, if_neg hpI, ev1, if_neg hpA]) (hset2 _) ?_)
      exact wpAny_end hok.r7 (fin _ _ rfl rfl)
    · refine wpOp_of hP (wanted_none gP) (stepP (by rw [ev2, if_neg hAI, ev1, if_pos rfl]) (by rw [ev2, if_neg hpI, ev1, if_neg hpA]) hhb1 ?_)
      refine wpAny_step hok.r5 (fun i hi => ?_)
      simp only [List.mem_singleton] at hi
      subst hi
      refine wpOp_of hS (wanted_none gS) (stepS (by rw [ev2, if_pos rfl]) (by rw [ev2, if_neg hxI, ev1, if_neg hxA]) (hset _) ?_)
      exact wpAny_end hok.r8 (fin _ _ rfl (setRow_comm _ hne _ _))
  · refine wpOp_of hP (wanted_none gP) (stepP (by rw [ev1, if_pos rfl]) (by rw [ev1, if_neg hpA]) hhb1 ?_)
    refine wpAny_step hok.r3 (fun i hi => ?_)
    simp only [List.mem_singleton] at hi
    subst hi
    refine wpOp_of hI (wanted_none gI) (stepI ha1.symm ?_)
    rw [ha2]
    refine wpAny_step hok.r6 (fun i hi => ?_)
    simp only [List.mem_singleton] at hi
    subst hi
    refine wpOp_of hS (wanted_none gS) (stepS (by rw [ev2, if_pos rfl]) (by rw [ev2, if_neg hxI, ev1, if_neg hxA]) (hset _) ?_)
    exact wpAny_end hok.r9 (fin _ _ rfl (setRow_comm _ hne _ _))

end Go.Abs

namespace Go.Abs
open Go

variable {P : Program} {T : Tab} {G : Glob} {N : Nat} {fr : Fr} {bx : List Box} {K : Ex → Fr → List Box → Prop}

theorem Reps.vals {w : World} {ok : Nat → Nat} : ∀ l : List Value, Reps w ok (l.map AV.val) l
  | [] => by simp only [List.map_nil, Reps]
  | v :: l => by
    simp only [List.map_cons, Reps, Rep]
    exact ⟨v, l, rfl, rfl, Reps.vals l⟩

/-- A slice of one row that is written out. -/
theorem OpS.buildConst (hT : T.Ok P) {o : Oper} {t : TypeId} {arr : Array Value} {x : SV} {ty : TypeId} {c : Prop} (hop : o.op = .buildSlice t 1 #[(0, .const (.agg arr))])
    (h : evalO G T [] (.buildSlice t 1 #[(0, .tmp 0)]) ty [(0, .d (.agg (arr.toList.map AV.val)))] bx = .ok c x bx) : OpS P G o fr bx x bx := by
  have h1 : OpS P G ⟨o.dst, .buildSlice t 1 #[(0, .tmp 0)], ty, o.pos, o.after, o.guard⟩ [(0, .d (.agg (arr.toList.map AV.val)))] bx x bx := sound_buildSlice hT h
  intro B w a ok g hr ho
  obtain ⟨v, w', ok', g', h2, h3⟩ := h1 B w { tmps := #[.agg arr], defers := [] } ok g hr (fun y hy => by
    simp [Op.operands] at hy
    subst hy
    show RepS w ok g bx (.d (.agg (arr.toList.map AV.val))) (.agg arr)
    simp only [RepS, Rep]
    exact ⟨arr.toList, rfl, Reps.vals _⟩)
  refine ⟨v, w', ok', g', ?_, h3⟩
  have e : (execOp a.eval o).run P w = (execOp (Act.eval { tmps := #[.agg arr], defers := [] }) ⟨o.dst, .buildSlice t 1 #[(0, .tmp 0)], ty, o.pos, o.after, o.guard⟩).run P w := by
    unfold execOp
    rw [hop]
    simp [Act.eval]
  rw [e]
  exact h2

theorem RegD.pureO {ops : List Oper} {es pend ord : List Nat} {i : Nat} {o : Oper} {d : Nat} {x : SV} (ho : ops[i]? = some o) (hes : es.contains i = false) (hd : o.dst = some d) (hN : Nat.blt d N = true)
    (hw : wantedA ops fr o = some true) (he : OpS P G o fr bx x bx) (h : RegD P G N ops es K (i :: pend) ord ((d, x) :: fr) bx) : RegD P G N ops es K pend (i :: ord) fr bx :=
  RegD.pure ho (fun hh => by simp [hh] at hes) hd (Nat.le_of_ble_eq_true hN) (.inl ⟨hw, EffS.ofOp he⟩) h
theorem Reg.opO {ops : Array Oper} {i : Nat} {rest : List Nat} {o : Oper} {d : Nat} {x : SV} {bx' : List Box} (ho : ops[i]? = some o) (hg : o.guard = none) (hd : o.dst = some d) (hN : Nat.blt d N = true)
    (he : OpS P G o fr bx x bx') (h : Reg P G N ops K rest ((d, x) :: fr) bx') : Reg P G N ops K (i :: rest) fr bx := by
  refine Reg.op ho hg (by rw [hd]; exact hN) he ?_
  rw [hd]
  exact h

theorem Stable.consO {ops : List Oper} {j : Nat} {pend : List Nat} {o : Oper} {d : Nat} {x : SV} (ho : ops[j]? = some o) (hd : o.dst = some d) (hx : look fr d = x)
    (hw : wantedA ops fr o = some true) (he : OpS P G o fr bx x bx) (h : Stable P G ops fr pend bx) : Stable P G ops fr (j :: pend) bx := by
  intro k hk o' d' ho' hd'
  rcases List.mem_cons.1 hk with rfl | hk
  · rw [ho] at ho'
    cases ho'
    rw [hd] at hd'
    cases hd'
    rw [hx]
    exact .inl ⟨hw, EffS.ofOp he⟩
  · exact h k hk o' d' ho' hd'

/-- What is owned is given up where a panic leaves. -/
theorem AW.panicLe {c : Code} (h : AW P G N c (fun e fr' bx' => match e with
    | .panic x => ∃ bx2, StLe fr' bx' [] bx2 ∧ bx.length ≤ bx2.length ∧ K (.panic x) [] bx2
    | e => K e fr' bx') fr bx) : AW P G N c K fr bx := by
  intro B ds w a ok g hr hf
  have hn := hr.len_le
  refine wp_mono (h B ds w a ok g hr hf) ?_
  rintro e a' w' ⟨e', fr', bx', ok', g', h3, h4, h5, h6⟩
  cases e' with
  | panic x =>
    obtain ⟨bx2, h7, h8, h9⟩ := h6
    obtain ⟨h10, h11⟩ := h7.rel h7.closed (Nat.le_trans hn h8) h4 h5
    exact ⟨.panic x, [], bx2, ok', _, h3, h10, h11, h9⟩
  | normal => exact ⟨.normal, fr', bx', ok', g', h3, h4, h5, h6⟩
  | exit id => exact ⟨.exit id, fr', bx', ok', g', h3, h4, h5, h6⟩
  | goto l => exact ⟨.goto l, fr', bx', ok', g', h3, h4, h5, h6⟩
  | ret => exact ⟨.ret, fr', bx', ok', g', h3, h4, h5, h6⟩

end Go.Abs

namespace Go.Abs
open Go

section
variable {P : Program} {T : Tab} {G : Glob} {N : Nat} {fr : Fr} {bx : List Box} {K : Ex → Fr → List Box → Prop}

theorem td_iface {d : TypeDesc} (h : td d = .iface) : ∃ ms, d = .interface ms := by
  cases d <;> simp only [td, reduceCtorEq] at h
  exact ⟨_, rfl⟩

/-- An interface against nil. -/
theorem OpS.ifaceNil (hT : T.Ok P) {o : Oper} {t t' : TypeId} {y : Operand} {s b : Nat} {z : List AV} {p : AV} (hop : o.op = .binOp .neq t y (.const .nilIface) t') (ht : T.ti t = some ⟨.iface, s, b, z⟩) {r : Bool}
    (hy : ev G fr y = .d p) (hr : (p = .val .nilIface ∧ r = false) ∨ (∃ u x, p = .ifc u x) ∧ r = true) : OpS P G o fr bx (.d (.val (.bool r))) bx := by
  obtain ⟨d, hu, hd⟩ := (Tab.ti_ok hT ht).under
  obtain ⟨ms, rfl⟩ := td_iface hd
  intro B w a ok g hrel ho
  have h1 := ho y (by rw [hop]; simp [Op.operands])
  rw [hy] at h1
  refine ⟨.bool r, w, ok, g, .inl ?_, hrel, Ext.refl _ _, Laters.refl hrel.boxes.len, by simp only [RepS, Rep]⟩
  unfold execOp
  rw [hop]
  have ec : a.eval (.const .nilIface) = .nilIface := rfl
  have q1 : ∀ d, (Op.equalIn (d + 1) t .nilIface .nilIface).run P w = .ok true w := by
    intro d
    simp [Op.equalIn, underlying, hu]
  have q2 : ∀ d u x, (Op.equalIn (d + 1) t (.iface u x) .nilIface).run P w = .ok false w := by
    intro d u x
    simp [Op.equalIn, underlying, hu]
  rcases hr with ⟨rfl, rfl⟩ | ⟨⟨u, x, rfl⟩, rfl⟩
  · simp only [RepS, Rep] at h1
    have e : (Op.equal t .nilIface .nilIface).run P w = .ok true w := q1 9999
    simp [h1, ec, eqGuard, binOp, e]
  · simp only [RepS, Rep] at h1
    obtain ⟨v, h1, _⟩ := h1
    have e : (Op.equal t (.iface u v) .nilIface).run P w = .ok false w := q2 9999 u v
    simp [h1, ec, eqGuard, binOp, e]

/-- A type that is there. -/
theorem OpS.assertOk (hT : T.Ok P) {o : Oper} {xt t : TypeId} {y : Operand} {ti : TI} {x : AV} (hop : o.op = .typeAssert y xt t true) (ht : T.ti t = some ti) (hti : ti.d ≠ .iface)
    (hy : ev G fr y = .d (.ifc t x)) : OpS P G o fr bx (.tup [.d x, .d (.val (.bool true))]) bx := by
  obtain ⟨d, hu, hd⟩ := (Tab.ti_ok hT ht).under
  intro B w a ok g hrel ho
  have h1 := ho y (by rw [hop]; simp [Op.operands])
  rw [hy] at h1
  simp only [RepS, Rep] at h1
  obtain ⟨v, h1, h2⟩ := h1
  refine ⟨.tuple #[v, .bool true], w, ok, g, .inl ?_, hrel, Ext.refl _ _, Laters.refl hrel.boxes.len, ?_⟩
  · unfold execOp
    rw [hop]
    cases d <;> first | (exact (hti hd.symm).elim) | simp [h1, Instr.typeAssert, underlying, hu]
  · simp only [RepS, RepSs, Rep]
    exact ⟨_, rfl, _, _, rfl, h2, _, _, rfl, rfl, rfl⟩

/-- The relation begins anew. -/
theorem RelW.rebase {B : Base} {w : World} {ok : Nat → Nat} {g : List Value} (h : RelW G B w ok g bx) : RelW G ⟨w, ok, g, bx⟩ w ok g bx where
  size := Nat.le_refl _
  keep := fun _ _ _ => ⟨rfl, rfl⟩
  ext := Ext.refl _ _
  dom := fun i _ hi => .inl ⟨i, hi⟩
  wf := h.wf
  rest := ⟨rfl, rfl, rfl⟩
  glob := h.glob
  ids := fun i (hi : i < bx.length) => Later.same _ _ (fun e => by rw [List.getElem?_eq_none_iff] at e; exact (Nat.not_le.2 hi e).elim)
  boxes := h.boxes
theorem RelW.trans {B : Base} {w w' : World} {ok ok' : Nat → Nat} {g g' : List Value} {bx' : List Box} (h : RelW G B w ok g bx) (h2 : RelW G ⟨w, ok, g, bx⟩ w' ok' g' bx') : RelW G B w' ok' g' bx' :=
  h.step h2.ext (fun i hi => h2.ids i hi) h2.size h2.keep h2.dom h2.wf h2.rest h.len_le h2.boxes
theorem RelW.laters {w w' : World} {ok ok' : Nat → Nat} {g g' : List Value} {bx' : List Box} (hl : g.length = bx.length) (h2 : RelW G ⟨w, ok, g, bx⟩ w' ok' g' bx') : Laters g bx g' bx' := by
  intro i
  rcases Nat.lt_or_ge i bx.length with hi | hi
  · exact h2.ids i hi
  · unfold Later
    rw [List.getElem?_eq_none_iff.2 hi]
    exact List.getElem?_eq_none_iff.2 (by omega)

/-- What a deferred call comes to. pan: what is panicked with, if anything. -/
def ACallsD (P : Program) (G : Glob) (f : FuncId) (args : List SV) (bx : List Box) (pan : Option AV) (R : SV → List Box → Prop) : Prop :=
  ∀ w ok g vs u, RelW G ⟨w, ok, g, bx⟩ w ok g bx → RepSs w ok g bx args vs →
    (match pan with | none => u = .returning | some x => ∃ v, u = .panicking [{ v := v, recovered := false }] ∧ Rep w ok x v) →
    CallsD P f vs.toArray u w fun e u' w' => settle u' = .returning ∧ (∃ v, e = .returned v) ∧ ∃ x ok' g' bx', RelW G ⟨w, ok, g, bx⟩ w' ok' g' bx' ∧ R x bx'

/-- What recover gives. -/
def recV : Option AV → AV
  | none => .val .nilIface
  | some x => x

/-- A deferred function that begins with recover. -/
theorem ACallsD.body (hT : T.Ok P) {f : FuncId} {fn : Func} {id : Nat} {ops : Array Oper} {c : Code} (hfn : P.funcs[f]? = some fn) (hc : fn.body = some ((Code.region id ops false).seq c)) {oR oA : Oper} {dR dA : Nat}
    (hops : ops = #[oR, oA]) (opR : oR.op = .call ⟨.builtin .recover, #[], #[]⟩) (gR : oR.guard = none) (ddR : oR.dst = some dR) (opA : oA.op = .assign (.tmp dR)) (gA : oA.guard = none) (ddA : oA.dst = some dA)
    (hNR : Nat.blt dR fn.ntmps = true) (hNA : Nat.blt dA fn.ntmps = true)
    {args : List SV} {pan : Option AV} {R : SV → List Box → Prop} (hlen : Nat.ble args.length fn.ntmps = true)
    (h : AW P G fn.ntmps c (bodyQ G T fn bx.length (fun o b => ∃ x, o = .ret x ∧ R x b)) ((dA, .d (recV pan)) :: (dR, .d (recV pan)) :: argFr 0 args) bx) : ACallsD P G f args bx pan R := by
  intro w ok g vs u hr hargs hu
  have hl := hargs.length
  have hlen := Nat.le_of_ble_eq_true hlen
  refine callsD_of_wpS hfn hc ?_
  intro c₀ cs hmode
  -- the frame at the start
  have hf0 : RelF G w ok g bx (argFr 0 args) { tmps := vs.toArray ++ Array.replicate (fn.ntmps - vs.toArray.size) undef, defers := [] } fn.ntmps [] := by
    refine ⟨by simp; omega, ?_, rfl⟩
    intro t
    have := argFr_look hargs (fn.ntmps - vs.toArray.size) 0 t (Nat.zero_le _)
    simp only [Nat.sub_zero] at this
    have e : (vs.toArray ++ Array.replicate (fn.ntmps - vs.toArray.size) undef).getD t undef = (vs ++ List.replicate (fn.ntmps - vs.toArray.size) undef).getD t undef := by
      rw [Array.getD_eq_getD_getElem?, List.getD_eq_getElem?_getD, ← Array.getElem?_toList]
      simp
    rw [e]
    exact this
  generalize ({ tmps := vs.toArray ++ Array.replicate (fn.ntmps - vs.toArray.size) undef, defers := [] } : Act) = a at hf0 ⊢
  obtain ⟨v, u', hv, hrec, hset⟩ : ∃ v u', Rep w ok (recV pan) v ∧ (match recoverD (c₀ :: cs) with | some (v', cs') => v = v' ∧ cs' = { c₀ with mode := u' } :: cs | none => v = .nilIface ∧ c₀ :: cs = { c₀ with mode := u' } :: cs) ∧ settle u' = .returning := by
    cases pan with
    | none =>
      subst hu
      refine ⟨.nilIface, .returning, rfl, ?_, rfl⟩
      simp only [recoverD, hmode]
      exact ⟨trivial, by rw [← hmode]⟩
    | some x =>
      obtain ⟨v, rfl, hx⟩ := hu
      refine ⟨v, .panicking [{ v := v, recovered := true }], hx, ?_, rfl⟩
      simp only [recoverD, hmode]
      exact ⟨trivial, trivial⟩
  refine wpS_seq (wpS_region ?_)
  subst hops
  have hrun : (execOp a.eval oR).run P w = .ok .recover w := by
    unfold execOp
    simp [opR, resolve, invoke, builtin]
  have hrun2 : ∀ a : Act, (execOp a.eval oA).run P w = .ok (.value (a.eval (.tmp dR))) w := by
    intro a
    unfold execOp
    rw [opA]
    rfl
  have hsz : a.tmps.size = fn.ntmps := hf0.size
  have hevR : (a.put (some dR) v).eval (.tmp dR) = v := by rw [eval_put hsz (Nat.le_of_ble_eq_true hNR), if_pos rfl]
  have hf1 := (hf0.put (d := some dR) (x := .d (recV pan)) (v := v) hNR (by simp only [RepS]; exact hv)).put (d := some dA) (x := .d (recV pan)) (v := v) hNA (by simp only [RepS]; exact hv)
  have hrange : List.range (#[oR, oA] : Array Oper).size = [0, 1] := rfl
  rw [hrange]
  have key : ∀ cs', cs' = { c₀ with mode := u' } :: cs → wpOpsS P #[oR, oA] (Exit.thenS (c.wpS P (bodyPostS P fn c₀ cs fun e u' w' => settle u' = .returning ∧ (∃ v, e = .returned v) ∧ ∃ x ok' g' bx', RelW G ⟨w, ok, g, bx⟩ w' ok' g' bx' ∧ R x bx')) (bodyPostS P fn c₀ cs fun e u' w' => settle u' = .returning ∧ (∃ v, e = .returned v) ∧ ∃ x ok' g' bx', RelW G ⟨w, ok, g, bx⟩ w' ok' g' bx' ∧ R x bx')) [1] (a.put oR.dst v) cs' w := by
    rintro cs' rfl
    simp only [wpOpsS]
    have e1 : (#[oR, oA] : Array Oper)[1]? = some oA := rfl
    rw [e1]
    simp only [wanted_none gA, if_true, hrun2, Oper.upon_value, ddR, ddA, hevR, Exit.thenS]
    refine wpS_of_wp (wp_mono (h ⟨w, ok, g, bx⟩ [] w _ ok g hr hf1) ?_)
    rintro e a' w' ⟨e', fr', bx', ok', g', h1, h2, h3, h4⟩
    have fin : ∀ {e : Exit}, e = .normal ∨ e = .ret → (∃ x, resK G T fr' bx' fn.results.toList (oneR bx') = .ok True x bx' ∧ x.fits bx.length = true ∧ (bx'.take bx.length).all (Box.fits bx.length) = true ∧ ∃ y, (Out.ret x) = .ret y ∧ R y (bx'.take bx.length)) →
        bodyPostS P fn c₀ cs (fun e u' w' => settle u' = .returning ∧ (∃ v, e = .returned v) ∧ ∃ x ok' g' bx', RelW G ⟨w, ok, g, bx⟩ w' ok' g' bx' ∧ R x bx') e a' ({ c₀ with mode := u' } :: cs) w' := by
      rintro e he ⟨x, h5, h6, h7, y, _, h8⟩
      obtain ⟨v, h9, h10⟩ := run_results hT h2 h3 h5
      have h11 : a'.defers = [] ∧ ∃ u'', ({ c₀ with mode := u' } :: cs) = { c₀ with mode := u'' } :: cs ∧ ∃ v, (results fn a'.tmps).run P w' = .ok v w' ∧ (settle u'' = .returning ∧ (∃ v', Ending.returned v = .returned v') ∧ ∃ x ok' g' bx', RelW G ⟨w, ok, g, bx⟩ w' ok' g' bx' ∧ R x bx') :=
        ⟨h3.defers, u', rfl, v, h9, hset, ⟨v, rfl⟩, y, ok', _, _, h2.trim (Nat.le_refl _) h7, h8⟩
      rcases he with rfl | rfl <;> exact h11
    cases e' with
    | normal =>
      simp only [RelX] at h1
      subst h1
      exact fin (.inl rfl) h4
    | ret =>
      simp only [RelX] at h1
      subst h1
      exact fin (.inr rfl) h4
    | panic x =>
      obtain ⟨_, x, h5, _⟩ := h4
      cases h5
    | exit id => exact h4.elim
    | goto l => exact h4.elim
  have e0 : (#[oR, oA] : Array Oper)[0]? = some oR := rfl
  rw [wpOpsS]
  simp only [e0, wanted_none gR, if_true, hrun]
  cases hrr : recoverD (c₀ :: cs) with
  | none =>
    rw [hrr] at hrec
    obtain ⟨rfl, hcs⟩ := hrec
    exact key _ hcs
  | some p =>
    obtain ⟨v', cs'⟩ := p
    rw [hrr] at hrec
    obtain ⟨rfl, hcs⟩ := hrec
    exact key _ hcs

/-- Code ahead of a defer, in a function that began at a base. -/
def DW (P : Program) (G : Glob) (fn : Func) (n : Nat) (R : Out → List Box → Prop) (c : Code) (fr : Fr) (bx : List Box) : Prop :=
  ∀ B w a ok g, B.bx.length = n → RelW G B w ok g bx → RelF G w ok g bx fr a fn.ntmps [] →
    c.wp P (bodyPostD P fn fun e w' => ∃ out ok' g' bx', RelW G B w' ok' g' bx' ∧ RelOut w' ok' g' bx' out e ∧ R out bx') a w

theorem DW.calls {f : FuncId} {fn : Func} {c : Code} (hfn : P.funcs[f]? = some fn) (hc : fn.body = some c) {args : List SV} {R : Out → List Box → Prop} (hlen : Nat.ble args.length fn.ntmps = true)
    (h : DW P G fn bx.length R c (argFr 0 args) bx) : ACalls P G f args bx R := by
  intro w ok g vs hr hargs
  have hl := hargs.length
  have hlen := Nat.le_of_ble_eq_true hlen
  refine calls_of_wp_defers hfn hc (h ⟨w, ok, g, bx⟩ w _ ok g rfl hr ⟨by simp; omega, ?_, rfl⟩)
  intro t
  have := argFr_look hargs (fn.ntmps - vs.toArray.size) 0 t (Nat.zero_le _)
  simp only [Nat.sub_zero] at this
  have e : (vs.toArray ++ Array.replicate (fn.ntmps - vs.toArray.size) undef).getD t undef = (vs ++ List.replicate (fn.ntmps - vs.toArray.size) undef).getD t undef := by
    rw [Array.getD_eq_getD_getElem?, List.getD_eq_getElem?_getD, ← Array.getElem?_toList]
    simp
  rw [e]
  exact this

/-- What has been left ahead of the defer. -/
theorem DW.left (hT : T.Ok P) {fn : Func} {n : Nat} {R : Out → List Box → Prop} {B : Base} {w : World} {a : Act} {e : Exit} {e' : Ex} {ok : Nat → Nat} {g : List Value} (hB : B.bx.length = n) (h1 : RelX w ok e' e) (h2 : RelW G B w ok g bx)
    (h3 : RelF G w ok g bx fr a fn.ntmps []) (h4 : bodyQ G T fn n R e' fr bx) : bodyPostD P fn (fun e w' => ∃ out ok' g' bx', RelW G B w' ok' g' bx' ∧ RelOut w' ok' g' bx' out e ∧ R out bx') e a w := by
  have hd := h3.defers
  have fin : (∃ x, resK G T fr bx fn.results.toList (oneR bx) = .ok True x bx ∧ x.fits n = true ∧ (bx.take n).all (Box.fits n) = true ∧ R (.ret x) (bx.take n)) →
      Leaves P fn a.tmps (fun e w' => ∃ out ok' g' bx', RelW G B w' ok' g' bx' ∧ RelOut w' ok' g' bx' out e ∧ R out bx') a.defers .returning w := by
    rintro ⟨x, h5, h6, h7, h8⟩
    obtain ⟨v, h9, h10⟩ := run_results hT h2 h3 h5
    rw [hd]
    exact ⟨v, h9, .ret x, ok, _, _, h2.trim (Nat.le_of_eq hB) h7, ⟨v, rfl, RepS.trim x v h6 h10⟩, h8⟩
  cases e' with
  | normal =>
    simp only [RelX] at h1
    subst h1
    exact fin h4
  | ret =>
    simp only [RelX] at h1
    subst h1
    exact fin h4
  | panic x =>
    simp only [RelX] at h1
    obtain ⟨u, rfl, h1⟩ := h1
    obtain ⟨h5, h6⟩ := h4
    simp only [bodyPostD, hd]
    exact ⟨.panic x, ok, _, _, h2.trim (Nat.le_of_eq hB) h5, ⟨u, rfl, h1⟩, h6⟩
  | exit id => exact h4.elim
  | goto l => exact h4.elim

theorem DW.seq (hT : T.Ok P) {fn : Func} {n : Nat} {R : Out → List Box → Prop} {x y : Code} (h : AW P G fn.ntmps x (thenA (DW P G fn n R y) (bodyQ G T fn n R)) fr bx) : DW P G fn n R (.seq x y) fr bx := by
  intro B w a ok g hB hr hf
  refine wp_seq (wp_mono (h B [] w a ok g hr hf) ?_)
  rintro e a w ⟨e', fr', bx', ok', g', h1, h2, h3, h4⟩
  cases e' with
  | normal =>
    simp only [RelX] at h1
    subst h1
    exact h4 B w a ok' g' hB h2 h3
  | exit id => exact h4.elim
  | goto l => exact h4.elim
  | ret =>
    have h5 := DW.left hT hB h1 h2 h3 h4
    simp only [RelX] at h1
    subst h1
    exact h5
  | panic x =>
    have h5 := DW.left hT hB h1 h2 h3 h4
    simp only [RelX] at h1
    obtain ⟨u, rfl, h1⟩ := h1
    exact h5

/-- What stands behind a deferred call, and a function's results. -/
def Behind (P : Program) (G : Glob) (T : Tab) (fn : Func) (n : Nat) (f : FuncId) (cap : List SV) (R : Out → List Box → Prop) (pan : Option AV) (fr : Fr) (bx : List Box) : Prop :=
  ∃ (σ : List Nat) (args0 : List SV) (bx0 : List Box) (R2 : SV → List Box → Prop), ACallsD P G f args0 bx0 pan R2 ∧ σ.Nodup ∧ cap = SV.rens (rn σ bx.length) args0 ∧ Picks σ bx bx0 ∧
    ∀ x bx1, R2 x bx1 → bodyQ G T fn n R .ret fr (mergeAt σ bx (bx1.map (Box.ren (rn σ bx.length))))

/-- A defer of a closure without arguments, and what stands behind it. -/
theorem DW.defer (hT : T.Ok P) {fn : Func} {n : Nat} {R : Out → List Box → Prop} {id f dM : Nat} {ops : Array Oper} {captured : Array Operand} {cap : List SV} {oM oD : Oper} {c : Code}
    (hops : ops = #[oM, oD]) (opM : oM.op = .makeFunc (.func f) #[] captured) (gM : oM.guard = none) (ddM : oM.dst = some dM) (opD : oD.op = .defer ⟨.value (.tmp dM), #[], #[]⟩) (gD : oD.guard = none) (ddD : oD.dst = none)
    (hNM : Nat.blt dM fn.ntmps = true) (hcall : Callable P f) (hcap : captured.toList.map (ev G fr) = cap)
    (h : AW P G fn.ntmps c (fun e fr' bx' => match e with
      | .normal | .ret => Behind P G T fn n f cap R none fr' bx'
      | .panic x => Behind P G T fn n f cap R (some x) fr' bx'
      | _ => False) ((dM, .clo f cap) :: fr) bx) : DW P G fn n R (.seq (.region id ops false) c) fr bx := by
  intro B w a ok g hB hr hf
  subst hops
  have hcs : RepSs w ok g bx cap (captured.toList.map a.eval) := by
    rw [← hcap]
    exact RepSs.ofAll (fun y _ => hf.ev hr y)
  have hrunM : (execOp a.eval oM).run P w = .ok (.value (.func (.func f) #[] (captured.toList.map a.eval).toArray)) w := by
    unfold execOp
    rw [opM]
    have e : (captured.toList.map a.eval).toArray = captured.map a.eval := by rw [← Array.toList_map]
    simp [Instr.makeFunc, e]
  have hsz : a.tmps.size = fn.ntmps := hf.size
  refine wp_seq (wp_region ?_)
  have hrange : List.range (#[oM, oD] : Array Oper).size = [0, 1] := rfl
  rw [hrange, wpOps_cons]
  unfold wpOp
  have e0 : (#[oM, oD] : Array Oper)[0]? = some oM := rfl
  simp only [e0, wanted_none gM, if_true]
  refine .inl ?_
  unfold Oper.wp
  rw [hrunM, Oper.upon_value, ddM, wpOps_cons]
  unfold wpOp
  have e1 : (#[oM, oD] : Array Oper)[1]? = some oD := rfl
  simp only [e1, wanted_none gD, if_true]
  refine .inl ?_
  unfold Oper.wp
  have hrunD : (execOp (a.put (some dM) (.func (.func f) #[] (captured.toList.map a.eval).toArray)).eval oD).run P w = .ok (.defer ⟨.fn (.func f) (captured.toList.map a.eval).toArray, #[]⟩) w := by
    unfold execOp
    simp only [opD, resolve]
    rw [eval_put hsz (Nat.le_of_ble_eq_true hNM), if_pos rfl]
    simp [Deferred.ofValue]
  rw [hrunD, Oper.upon_defer, ddD]
  simp only [wpOps]
  have hf1 := hf.put (d := some dM) (x := .clo f cap) (v := .func (.func f) #[] (captured.toList.map a.eval).toArray) hNM (by simp only [RepS]; exact ⟨_, rfl, hcs⟩)
  generalize hvs : captured.toList.map a.eval = vs at *
  refine wp_mono (h ⟨w, ok, g, bx⟩ [⟨.fn (.func f) vs.toArray, #[]⟩] w _ ok g hr.rebase ⟨hf1.size, hf1.tmps, by rw [show (a.put (some dM) (.func (.func f) #[] vs.toArray)).defers = [] from hf1.defers]; rfl⟩) ?_
  rintro e a' w' ⟨e', fr', bx', ok', g', h1, h2, h3, h4⟩
  have hd := h3.defers
  have hr2 := hr.trans h2
  have hcs2 := RepSs.later h2.ext (h2.laters hr.boxes.len) _ _ hcs
  obtain ⟨ffn, hff, hfname, hfbody⟩ := hcall
  have hinv : (invoke (.fn (.func f) vs.toArray) #[]).run P w' = .ok (.enter f vs.toArray) w' := by
    have hb : ffn.body ≠ none := fun hh => by rw [hh] at hfbody; cases hfbody
    have h2 : ffn.name ≠ "runtime.NumGoroutine" := fun hh => by rw [hh] at hfname; exact absurd hfname (by decide)
    simp [invoke, callFunc, hff, h2, hb]
  have fin : ∀ (pan : Option AV) (u : FrameMode), (match pan with | none => u = .returning | some x => ∃ v, u = .panicking [{ v := v, recovered := false }] ∧ Rep w' ok' x v) → Behind P G T fn n f cap R pan fr' bx' →
      Leaves P fn a'.tmps (fun e w' => ∃ out ok' g' bx', RelW G B w' ok' g' bx' ∧ RelOut w' ok' g' bx' out e ∧ R out bx') a'.defers u w' := by
    rintro pan u hu ⟨σ, args0, bx0, R2, hspec, hn, hca, hb, hk⟩
    obtain ⟨g0, hg0, hbl, hlt, hc, hsub⟩ := hb.sub hn h2
    rw [hca, RepSs.ren hc] at hcs2
    have h5 := hspec w' ok' g0 vs u hsub hcs2 hu
    rw [hd]
    have hne : u ≠ .run := by
      cases pan with
      | none => rw [hu]; exact fun h => by cases h
      | some x => obtain ⟨v, rfl, _⟩ := hu; exact fun h => by cases h
    refine leaves_cons hne hinv (h5.mono ?_)
    rintro e u' w2 ⟨hs, ⟨v, rfl⟩, x, ok2, g2, bx1, h6, h7⟩
    obtain ⟨m1, m2, m3⟩ := hr2.merge hn hlt hg0 hbl hc h6
    have h8 := hk x bx1 h7
    simp only [bodyQ] at h8
    obtain ⟨y, h9, h10, h11, h12⟩ := h8
    have h3' : RelF G w2 ok2 _ _ fr' a' fn.ntmps [_] := h3.step h6.ext m3
    obtain ⟨v2, q1, q2⟩ := run_results hT m1 h3' h9
    simp only [hs]
    exact ⟨v2, q1, .ret y, ok2, _, _, m1.trim (Nat.le_of_eq hB) h11, ⟨v2, rfl, RepS.trim y v2 h10 q2⟩, h12⟩
  cases e' with
  | normal =>
    simp only [RelX] at h1
    subst h1
    exact fin none _ rfl h4
  | ret =>
    simp only [RelX] at h1
    subst h1
    exact fin none _ rfl h4
  | panic x =>
    simp only [RelX] at h1
    obtain ⟨u, rfl, h1⟩ := h1
    exact fin (some x) _ ⟨u, rfl, h1⟩ h4
  | exit id => exact h4.elim
  | goto l => exact h4.elim

end
end Go.Abs

namespace Go.Abs
open Go

section
variable {P : Program} {G : Glob} {T : Tab} {N : Nat} {fr : Fr} {bx : List Box} {w : World} {ok : Nat → Nat} {g : List Value}

/-- The results of a function, with their rights. -/
def resO (G : Glob) (T : Tab) (fr : Fr) (bx : List Box) : List ResultVar → (List SV → Res) → Res
  | [], k => k []
  | .tmp t :: rs, k => match Res.val bx (look fr t) with
    | .ok _ x _ => resO G T fr bx rs (fun l => k (x :: l))
    | .none => .none
  | .cell a t :: rs, k => match evalO G T [] (.load t (.tmp a)) 0 fr bx with
    | .ok _ x _ => resO G T fr bx rs (fun l => k (x :: l))
    | .none => .none

theorem resO_ok (hT : T.Ok P) {a : Act} {B : Base} {ds : List Deferred} (hr : RelW G B w ok g bx) (hf : RelF G w ok g bx fr a N ds) {c : Prop} {x : SV} {bx' : List Box} :
    ∀ {rs : List ResultVar} {k : List SV → Res}, resO G T fr bx rs k = .ok c x bx' → ∃ xs vs, k xs = .ok c x bx' ∧ RepSs w ok g bx xs vs ∧ (rs.mapM (resM a)).run P w = .ok vs w
  | [], _, h => ⟨[], [], h, by simp only [RepSs], rfl⟩
  | .tmp t :: rs, _, h => by
    simp only [resO] at h
    split at h
    · rename_i c' y b' hy
      obtain ⟨hy1, _⟩ := Res.val_ok hy
      subst hy1
      obtain ⟨xs, vs, h1, h2, h4⟩ := resO_ok hT hr hf h
      refine ⟨_, a.tmps.getD t undef :: vs, h1, ⟨_, _, rfl, hf.tmps t, h2⟩, ?_⟩
      rw [List.mapM_cons]
      simp only [Sem.run_bind, resM, Sem.run_pure, Result.andThen_ok, h4]
    · cases h
  | .cell p t :: rs, _, h => by
    simp only [resO] at h
    split at h
    · rename_i c' y b' hy
      obtain ⟨xs, vs, h1, h2, h4⟩ := resO_ok hT hr hf h
      obtain ⟨v, h5, h6⟩ := (load_pure (dst := none) (pos := "") (after := #[]) (guard := none) hT hy).2 B w a ok g hr (hf.tmps p)
      refine ⟨_, v :: vs, h1, ⟨_, _, rfl, h6, h2⟩, ?_⟩
      rw [List.mapM_cons]
      have h7 : (resM a (.cell p t)).run P w = .ok v w := by
        simp only [execOp, Sem.run_bind, Act.eval] at h5
        cases e : (Instr.loadAt t (a.tmps.getD p undef)).run P w with
        | halt hh w' => rw [e] at h5; simp at h5
        | ok u w' =>
          rw [e] at h5
          simp only [Result.andThen_ok, Sem.run_pure, Result.ok.injEq, Next.value.injEq] at h5
          obtain ⟨rfl, rfl⟩ := h5
          unfold Instr.loadAt at e
          simp only [resM, Sem.run_bind] at e ⊢
          cases hp : a.tmps.getD p undef <;> rw [hp] at e <;> try (simp [Instr.sureAddr, stuck] at e; done)
          rename_i ad
          cases ad with
          | none => simp [Instr.sureAddr, stuck] at e
          | some ad => simpa [Instr.sureAddr, asAddr] using e
      simp only [Sem.run_bind, h7, Result.andThen_ok, h4, Sem.run_pure]
    · cases h

theorem run_resultsO (hT : T.Ok P) {a : Act} {B : Base} {ds : List Deferred} (hr : RelW G B w ok g bx) (hf : RelF G w ok g bx fr a N ds) {fn : Func} {x : SV}
    (h : resO G T fr bx fn.results.toList (oneR bx) = .ok True x bx) : ∃ v, (results fn a.tmps).run P w = .ok v w ∧ RepS w ok g bx x v := by
  obtain ⟨xs, vs, h1, h2, h3⟩ := resO_ok hT hr hf h
  have h4 : (results fn a.tmps).run P w = .ok (if h : vs.toArray.size = 1 then vs.toArray[0] else .tuple vs.toArray) w := by
    have e0 : results fn a.tmps = (do let vs ← fn.results.mapM (resM a); pure (if h : vs.size = 1 then vs[0] else .tuple vs)) := by
      unfold results
      congr 1
    have e : fn.results.mapM (resM a) = List.toArray <$> fn.results.toList.mapM (resM a) := by
      obtain ⟨l⟩ := fn.results
      rw [List.mapM_toArray]
    rw [e0, Sem.run_bind, e, Sem.run_map, h3]
    rfl
  rw [h4]
  cases xs with
  | nil =>
    simp only [RepSs] at h2
    subst h2
    simp only [oneR, Res.ok.injEq] at h1
    obtain ⟨_, rfl, _⟩ := h1
    exact ⟨_, rfl, by simp only [RepS]; exact ⟨[], rfl, by simp only [RepSs]⟩⟩
  | cons y ys =>
    cases ys with
    | nil =>
      simp only [RepSs] at h2
      obtain ⟨v, r, rfl, h5, rfl⟩ := h2
      simp only [oneR, Res.ok.injEq] at h1
      obtain ⟨_, rfl, _⟩ := h1
      exact ⟨v, rfl, h5⟩
    | cons z zs =>
      have h5 := h2
      simp only [RepSs] at h2
      obtain ⟨v, r, rfl, _, u, s, rfl, _⟩ := h2
      simp only [oneR, Res.ok.injEq] at h1
      obtain ⟨_, rfl, _⟩ := h1
      refine ⟨_, rfl, ?_⟩
      rw [dif_neg (by simp)]
      simp only [RepS]
      exact ⟨_, rfl, h5⟩

/-- What must hold where a function's body ends, that hands boxes of its own on. -/
def bodyO (G : Glob) (T : Tab) (fn : Func) (R : Out → List Box → Prop) : Ex → Fr → List Box → Prop
  | .normal, fr, bx | .ret, fr, bx => ∃ x m, resO G T fr bx fn.results.toList (oneR bx) = .ok True x bx ∧ x.fits m = true ∧ (bx.take m).all (Box.fits m) = true ∧ R (.ret x) (bx.take m)
  | .panic x, _, bx => ∃ m, (bx.take m).all (Box.fits m) = true ∧ R (.panic x) (bx.take m)
  | _, _, _ => False

/-- A function by its body, that hands boxes of its own on; it has none from its caller. -/
theorem ACalls.bodyO (hT : T.Ok P) {f : FuncId} {fn : Func} {c : Code} (hfn : P.funcs[f]? = some fn) (hc : fn.body = some c) {args : List SV} {R : Out → List Box → Prop} (hlen : Nat.ble args.length fn.ntmps = true)
    (h : AW P G fn.ntmps c (bodyO G T fn R) (argFr 0 args) []) : ACalls P G f args [] R := by
  intro w ok g vs hr hargs
  have hl := hargs.length
  have hlen := Nat.le_of_ble_eq_true hlen
  refine calls_of_wp hfn hc (wp_mono (h ⟨w, ok, g, []⟩ [] w _ ok g hr ⟨by simp; omega, ?_, rfl⟩) ?_)
  · intro t
    have := argFr_look hargs (fn.ntmps - vs.toArray.size) 0 t (Nat.zero_le _)
    simp only [Nat.sub_zero] at this
    have e : (vs.toArray ++ Array.replicate (fn.ntmps - vs.toArray.size) undef).getD t undef = (vs ++ List.replicate (fn.ntmps - vs.toArray.size) undef).getD t undef := by
      rw [Array.getD_eq_getD_getElem?, List.getD_eq_getElem?_getD, ← Array.getElem?_toList]
      simp
    rw [e]
    exact this
  · rintro e a w' ⟨e', fr', bx', ok', g', h1, h2, h3, h4⟩
    have fin : ∀ {e : Exit}, e = .normal ∨ e = .ret → (∃ x m, resO G T fr' bx' fn.results.toList (oneR bx') = .ok True x bx' ∧ x.fits m = true ∧ (bx'.take m).all (Box.fits m) = true ∧ R (.ret x) (bx'.take m)) →
        bodyPost P fn (fun e w' => ∃ out ok' g' bx', RelW G ⟨w, ok, g, []⟩ w' ok' g' bx' ∧ RelOut w' ok' g' bx' out e ∧ R out bx') e a w' := by
      rintro e he ⟨x, m, h5, h6, h7, h8⟩
      obtain ⟨v, h9, h10⟩ := run_resultsO hT h2 h3 h5
      have h11 : a.defers = [] ∧ ∃ v, (results fn a.tmps).run P w' = .ok v w' ∧ ∃ out ok' g' bx', RelW G ⟨w, ok, g, []⟩ w' ok' g' bx' ∧ RelOut w' ok' g' bx' out (.returned v) ∧ R out bx' :=
        ⟨h3.defers, v, h9, .ret x, ok', _, _, h2.trim (Nat.zero_le _) h7, ⟨v, rfl, RepS.trim x v h6 h10⟩, h8⟩
      rcases he with rfl | rfl <;> exact h11
    cases e' with
    | normal =>
      simp only [RelX] at h1
      subst h1
      exact fin (.inl rfl) h4
    | ret =>
      simp only [RelX] at h1
      subst h1
      exact fin (.inr rfl) h4
    | panic x =>
      simp only [RelX] at h1
      obtain ⟨u, rfl, h1⟩ := h1
      obtain ⟨m, h5, h6⟩ := h4
      exact ⟨h3.defers, .panic x, ok', _, _, h2.trim (Nat.zero_le _) h5, ⟨u, rfl, h1⟩, h6⟩
    | exit id => exact h4.elim
    | goto l => exact h4.elim

end
end Go.Abs

namespace Go.Abs
open Go

section
variable {P : Program} {G : Glob} {T : Tab} {N : Nat} {K : Ex → Fr → List Box → Prop} {fr : Fr} {bx bx' : List Box} {ops : Array Oper}

/-- A scope that nothing jumps in. -/
def scopeA (Q : Ex → Fr → List Box → Prop) : Ex → Fr → List Box → Prop
  | .goto _, _, _ => False
  | e, fr, bx => Q e fr bx
theorem AW.scope {c : Code} (h : AW P G N c (scopeA K) fr bx) : AW P G N (.scope c) K fr bx := by
  intro B ds w a ok g hr hf
  refine wp_scope_straight (wp_mono (h B ds w a ok g hr hf) ?_)
  rintro e a w ⟨e', fr', bx', ok', g', h1, h2, h3, h4⟩
  cases e' with
  | normal =>
    simp only [RelX] at h1
    subst h1
    exact ⟨.normal, fr', bx', ok', g', rfl, h2, h3, h4⟩
  | exit id =>
    simp only [RelX] at h1
    subst h1
    exact ⟨.exit id, fr', bx', ok', g', rfl, h2, h3, h4⟩
  | goto l => exact h4.elim
  | ret =>
    simp only [RelX] at h1
    subst h1
    exact ⟨.ret, fr', bx', ok', g', rfl, h2, h3, h4⟩
  | panic x =>
    simp only [RelX] at h1
    obtain ⟨u, rfl, h1⟩ := h1
    exact ⟨.panic x, fr', bx', ok', g', ⟨u, rfl, h1⟩, h2, h3, h4⟩
theorem scopeA_normal (h : K .normal fr bx) : scopeA K .normal fr bx := h
theorem scopeA_ret (h : K .ret fr bx) : scopeA K .ret fr bx := h
theorem scopeA_panic {x : AV} (h : K (.panic x) fr bx) : scopeA K (.panic x) fr bx := h
theorem scopeA_exit {id : Nat} (h : K (.exit id) fr bx) : scopeA K (.exit id) fr bx := h

/-- A guarded operation that is not wanted, perhaps since its guard was not wanted. -/
theorem Reg.skip {i : Nat} {rest : List Nat} {o oj : Oper} {d dj j : Nat} {want : Bool} {v : Value} (ho : ops[i]? = some o) (hg : o.guard = some (j, want)) (hj : ops[j]? = some oj)
    (hdj : oj.dst = some dj) (hb : look fr dj = .d (.val v)) (hbw : (match v with | .bool b => b == want | _ => false) = false) (hd : o.dst = some d) (hN : Nat.blt d N = true)
    (h : Reg P G N ops K rest ((d, .d (.val undef)) :: fr) bx) : Reg P G N ops K (i :: rest) fr bx := by
  intro B ds w a ok g hr hf
  have h1 := hf.tmps dj
  rw [hb] at h1
  simp only [RepS, Rep] at h1
  have hw : Region.wanted o (yielded ops a.tmps) = false := by
    unfold Region.wanted
    simp only [hg]
    unfold yielded
    simp only [hj, Option.bind_some, hdj]
    cases e : a.tmps[dj]? with
    | none => rfl
    | some u =>
      rw [Array.getD_eq_getD_getElem?, e, Option.getD_some] at h1
      subst h1
      cases u <;> first | rfl | (simpa using hbw)
  rw [wpOps_cons]
  unfold wpOp
  simp only [ho, hw]
  refine h B ds w _ ok g hr ?_
  rw [hd]
  exact hf.put (d := some d) (by exact hN) (by simp only [RepS, Rep])

/-- An element of an array that is a value. -/
theorem OpS.indexAgg (hT : T.Ok P) {o : Oper} {t e : TypeId} {y z : Operand} {te : TI} {n s b len : Nat} {zs : List AV} {cs : List AV} {x : AV} (hop : o.op = .index t y z) (ht : T.ti t = some ⟨.array len e, s, b, zs⟩)
    (he : T.ti e = some te) (hsz : te.size = 1) (hag : te.d.isAgg = false) (hy : ev G fr y = .d (.agg cs)) (hz : ev G fr z = .d (.val (.int .i64 n))) (hn : n < len) (hx : cs[n]? = some x) : OpS P G o fr bx (.d x) bx := by
  obtain ⟨d, hu, hd⟩ := (Tab.ti_ok hT ht).under
  have hd2 : d = .array len e := by
    cases d <;> simp only [td, reduceCtorEq, TD.array.injEq] at hd
    obtain ⟨rfl, rfl⟩ := hd
    rfl
  subst hd2
  intro B w a ok g hrel ho
  have h1 := ho y (by rw [hop]; simp [Op.operands])
  have h2 := ho z (by rw [hop]; simp [Op.operands])
  rw [hy] at h1
  rw [hz] at h2
  simp only [RepS, Rep] at h1 h2
  obtain ⟨l, h1, h3⟩ := h1
  have e3 := (h3.takeDrop n).2
  have hxd : cs.drop n = x :: cs.drop (n + 1) := by
    obtain ⟨hlt, hx⟩ := List.getElem?_eq_some_iff.1 hx
    rw [← hx]
    exact List.drop_eq_getElem_cons hlt
  rw [hxd] at e3
  simp only [Reps] at e3
  obtain ⟨v, r, e4, e5, _⟩ := e3
  have e6 : l[n]? = some v := by
    have := List.getElem?_drop (xs := l) (i := n) (j := 0)
    rw [e4] at this
    simpa using this.symm
  have hag2 := run_isAgg hT he w
  rw [hag] at hag2
  have hs1 := run_size hT he w
  rw [hsz] at hs1
  refine ⟨v, w, ok, g, .inl ?_, hrel, Ext.refl _ _, Laters.refl hrel.boxes.len, by simp only [RepS]; exact e5⟩
  have h0 : (0 : Int) ≤ n := by omega
  have h4 : (n : Int) < len := by omega
  unfold execOp
  rw [hop]
  simp [Instr.index, h1, h2, asIntOf, underlying, hu, h0, hn, hs1, part, hag2, e6]

/-- What grows above stays as it was. -/
theorem RelW.below {B : Base} {w w' : World} {ok : Nat → Nat} {g : List Value} (h : RelW G B w ok g bx) (hb : RowKit.Below w.heap.size w w') : RelW G B w' ok g bx ∧ Ext w ok w' ok := by
  have hx : Ext w ok w' ok := fun b => ⟨Nat.le_refl _, fun o ho => cell_of_heap (hb.block b (h.wf b (by omega)))⟩
  refine ⟨h.step hx (fun i hi => Later.same _ _ (fun e => by rw [List.getElem?_eq_none_iff] at e; omega)) hb.size (fun b hlt _ => ⟨hb.block b hlt, rfl⟩) (fun i b hi => .inl ⟨i, hi⟩)
    (fun b hne => Nat.lt_of_lt_of_le (h.wf b hne) hb.size) ⟨hb.tape, hb.os, hb.output⟩ h.len_le ?_, hx⟩
  exact
  { len := h.boxes.len
    cells := fun i cs hi => by
      obtain ⟨b, arr, E, h1, h2, h3, h4⟩ := h.boxes.cells i cs hi
      exact ⟨b, arr, E, h1, (hb.block b (Array.getElem?_eq_some_iff.1 h2).1).trans h2, h3, RepSs.later hx (Laters.refl h.boxes.len) _ _ h4⟩
    acc := fun i size hw hi => by
      obtain ⟨p, cap, h1, h2, h3⟩ := h.boxes.acc i size hw hi
      refine ⟨p, cap, h1, h2, h3.imp id ?_⟩
      rintro ⟨b, arr, E, e1, e2, e3, e4⟩
      exact ⟨b, arr, E, e1, (hb.block b (Array.getElem?_eq_some_iff.1 e2).1).trans e2, e3, e4⟩
    apart := h.boxes.apart }

/-- A contract of the kit's, of plain values. -/
theorem ACalls.ofBelow {f : FuncId} {vs : List Value} {v : Value} {x : AV} (hx : ∀ w ok, Rep w ok x v)
    (h : ∀ w ok, (∀ gl, RepAt w ok (G gl) gl 0) → Calls P f vs.toArray w fun e w' => e = .returned v ∧ RowKit.Below w.heap.size w w') :
    ACalls P G f (vs.map fun v => .d (.val v)) [] fun out b => out = .ret (.d x) ∧ b = [] := by
  intro w ok g us hr hargs
  have hus : us = vs := by
    clear h
    induction vs generalizing us with
    | nil => simpa only [List.map_nil, RepSs] using hargs
    | cons a vs ih =>
      simp only [List.map_cons, RepSs, RepS, Rep] at hargs
      obtain ⟨u, r, rfl, rfl, h2⟩ := hargs
      rw [ih r h2]
  subst hus
  refine (h w ok hr.glob).mono ?_
  rintro e w' ⟨rfl, hb⟩
  exact ⟨.ret (.d x), ok, g, [], (hr.below hb).1, ⟨v, rfl, by simp only [RepS]; exact hx _ _⟩, rfl, rfl⟩
end
end Go.Abs

namespace Go.Abs
open Go

section
variable {P : Program} {T : Tab} {G : Glob} {N : Nat} {fr : Fr} {bx bx' bx2 : List Box} {K : Ex → Fr → List Box → Prop} {ops : Array Oper} {rest : List Nat}

theorem mergeAt_new1 {b : Box} : mergeAt ([] : List Nat) bx [b] = bx ++ [b] := by
  have h := mergeAt_nil (bx := bx)
  unfold mergeAt at h ⊢
  simp only [List.length_nil, List.drop_zero, List.map_nil, List.append_nil] at h ⊢
  congr 1

/-- Behind a call without boxes, that hands on one of its own. -/
theorem afterNew {d : Option Tmp} {t : Nat} {y y' : SV} {b b' : Box} (hd : d = some t) (hy : y.ren (rn [] bx.length) = y') (hb : b.ren (rn [] bx.length) = b') (hm : snocK 0 b' bx (fun _ l => some l) = some bx')
    (h : Reg P G N ops K rest ((t, y') :: fr) bx') : afterCall P G N ops K rest d fr (rn [] bx.length) (mergeAt [] bx ([b].map (Box.ren (rn [] bx.length)))) (.ret y) := by
  subst hd
  rw [snocK_eq] at hm
  cases hm
  simp only [afterCall, putF, hy, List.map_cons, List.map_nil, hb]
  rw [mergeAt_new1]
  exact h

theorem mergeAt_two {k1 k2 : Nat} {b1 b2 : Box} (h1 : k1 < bx.length) (h2 : k2 < bx.length) (hne : k1 ≠ k2) : mergeAt [k1, k2] bx [b1, b2] = (bx.set k1 b1).set k2 b2 := by
  have hn : [k1, k2].Nodup := by simp [hne]
  apply List.ext_getElem?
  intro j
  by_cases hj1 : j = k1
  · subst hj1
    rw [List.getElem?_set_ne (Ne.symm hne), List.getElem?_set_self h1]
    exact mergeAt_at (k := 0) hn (by simp) h1 (by simp)
  · by_cases hj2 : j = k2
    · subst hj2
      rw [List.getElem?_set_self (by simpa using h2)]
      exact mergeAt_at (k := 1) hn (by simp) h2 (by simp)
    · rw [List.getElem?_set_ne (Ne.symm hj2), List.getElem?_set_ne (Ne.symm hj1)]
      rcases Nat.lt_or_ge j bx.length with hlt | hge
      · refine mergeAt_old hlt ?_
        simp [List.idxOf?, List.findIdx?, List.findIdx?.go, Ne.symm hj1, Ne.symm hj2]
      · rw [List.getElem?_eq_none_iff.2 hge, List.getElem?_eq_none_iff]
        rw [mergeAt_length]
        simpa using hge

/-- Behind a call with two boxes. -/
theorem after2n {d : Option Tmp} {k1 k2 : Nat} {y : SV} {b1 b2 : Box} {r : Nat → Nat} (hk1 : Nat.blt k1 bx.length = true) (hk2 : Nat.blt k2 bx.length = true) (hne : Nat.beq k1 k2 = false) {t : Nat} (hd : d = some t) (hy : y.ren r = y) (hb1 : b1.ren (rn [k1, k2] bx.length) = b1) (hb2 : b2.ren (rn [k1, k2] bx.length) = b2)
    (hm : setK none k1 b1 bx some = some bx') (hm2 : setK none k2 b2 bx' some = some bx2) (h : Reg P G N ops K rest ((t, y) :: fr) bx2) :
    afterCall P G N ops K rest d fr r (mergeAt [k1, k2] bx ([b1, b2].map (Box.ren (rn [k1, k2] bx.length)))) (.ret y) := by
  subst hd
  have h1 : k1 < bx.length := Nat.le_of_ble_eq_true hk1
  have h2 : k2 < bx.length := Nat.le_of_ble_eq_true hk2
  have hn : k1 ≠ k2 := fun e => by subst e; rw [Nat.beq_refl] at hne; cases hne
  rw [setK_eq, if_pos h1] at hm
  cases hm
  rw [setK_eq, if_pos (by simpa using h2)] at hm2
  cases hm2
  simp only [afterCall, putF, List.map_cons, List.map_nil, hb1, hb2, hy]
  rw [mergeAt_two h1 h2 hn]
  exact h
theorem after2p {d : Option Tmp} {k1 k2 : Nat} {y : AV} {b1 b2 : Box} {r : Nat → Nat} (hk1 : Nat.blt k1 bx.length = true) (hk2 : Nat.blt k2 bx.length = true) (hne : Nat.beq k1 k2 = false) (hb1 : b1.ren (rn [k1, k2] bx.length) = b1) (hb2 : b2.ren (rn [k1, k2] bx.length) = b2)
    (hm : setK none k1 b1 bx some = some bx') (hm2 : setK none k2 b2 bx' some = some bx2) (h : K (.panic y) fr bx2) :
    afterCall P G N ops K rest d fr r (mergeAt [k1, k2] bx ([b1, b2].map (Box.ren (rn [k1, k2] bx.length)))) (.panic y) := by
  have h1 : k1 < bx.length := Nat.le_of_ble_eq_true hk1
  have h2 : k2 < bx.length := Nat.le_of_ble_eq_true hk2
  have hn : k1 ≠ k2 := fun e => by subst e; rw [Nat.beq_refl] at hne; cases hne
  rw [setK_eq, if_pos h1] at hm
  cases hm
  rw [setK_eq, if_pos (by simpa using h2)] at hm2
  cases hm2
  simp only [List.map_cons, List.map_nil, hb1, hb2]
  rw [mergeAt_two h1 h2 hn]
  exact h

/-- What stands behind a deferred call of two boxes. -/
theorem Behind.two {fn : Func} {n f : Nat} {cap : List SV} {R : Out → List Box → Prop} {pan : Option AV} {k1 k2 : Nat} {args0 : List SV} {x1 x2 : Box} {R2 : SV → List Box → Prop} (hspec : ACallsD P G f args0 [x1, x2] pan R2) (hk1 : Nat.blt k1 bx.length = true) (hk2 : Nat.blt k2 bx.length = true) (hne : Nat.beq k1 k2 = false)
    (hcap : cap = SV.rens (rn [k1, k2] bx.length) args0) (hb : Picks [k1, k2] bx [x1, x2])
    (hk : ∀ x bx1, R2 x bx1 → ∃ b1 b2 bx' bx2, bx1 = [b1, b2] ∧ b1.ren (rn [k1, k2] bx.length) = b1 ∧ b2.ren (rn [k1, k2] bx.length) = b2 ∧ setK none k1 b1 bx some = some bx' ∧ setK none k2 b2 bx' some = some bx2 ∧ bodyQ G T fn n R .ret fr bx2) :
    Behind P G T fn n f cap R pan fr bx := by
  have h1 : k1 < bx.length := Nat.le_of_ble_eq_true hk1
  have h2 : k2 < bx.length := Nat.le_of_ble_eq_true hk2
  have hn : k1 ≠ k2 := fun e => by subst e; rw [Nat.beq_refl] at hne; cases hne
  refine ⟨[k1, k2], args0, [x1, x2], R2, hspec, by simp [hn], hcap, hb, ?_⟩
  intro x bx1 hx
  obtain ⟨b1, b2, bx', bx2, rfl, e1, e2, e3, e4, h5⟩ := hk x bx1 hx
  rw [setK_eq, if_pos h1] at e3
  cases e3
  rw [setK_eq, if_pos (by simpa using h2)] at e4
  cases e4
  simp only [List.map_cons, List.map_nil, e1, e2]
  rw [mergeAt_two h1 h2 hn]
  exact h5
end
end Go.Abs

namespace Go.Abs
open Go

section
variable {P : Program} {T : Tab} {G : Glob} {N : Nat} {fr : Fr} {bx : List Box} {K : Ex → Fr → List Box → Prop}

theorem EffS.mono {o : Oper} {R R' : Out → List Box → Prop} (h : EffS P G o fr bx R) (hr : ∀ out b, R out b → R' out b) : EffS P G o fr bx R' := by
  intro B w a ok g next Q h1 h2 h3 h4
  exact h B w a ok g next Q h1 h2 (fun x b v w' ok' g' hR => h3 x b v w' ok' g' (hr _ _ hR)) (fun x b u w' ok' g' hR => h4 x b u w' ok' g' (hr _ _ hR))

/-- A call that asks no boxes of its caller, and always comes back. -/
theorem EffS.pureCall (hT : T.Ok P) {o : Oper} {args0 : List SV} {x : AV} {fo : Operand} {args : Array Operand} {ts : Array TypeId} {f : FuncId}
    (hspec : ACalls P G f args0 [] fun out b => out = .ret (.d x) ∧ b = []) (hcall : Callable P f) (hop : o.op = .call ⟨.value fo, args, ts⟩) (hf : ev G fr fo = .clo f [])
    (ha : argsV G T fr args.toList ts.toList ++ [] = SV.rens (rn [] bx.length) args0) : EffS P G o fr bx (fun out b => out = .ret (.d x) ∧ b = bx) := by
  refine (EffS.call hT [] hspec hcall hop hf List.nodup_nil ha rfl).mono ?_
  rintro out b ⟨out1, bx1, ⟨rfl, rfl⟩, rfl, rfl⟩
  exact ⟨rfl, mergeAt_nil⟩

theorem RegD.pureCall (hT : T.Ok P) {ops : List Oper} {es pend ord : List Nat} {i d : Nat} {o : Oper} {args0 : List SV} {x : AV} {fo : Operand} {args : Array Operand} {ts : Array TypeId} {f : FuncId}
    (hspec : ACalls P G f args0 [] fun out b => out = .ret (.d x) ∧ b = []) (hcall : Callable P f) (ho : ops[i]? = some o) (hes : es.contains i = false) (hd : o.dst = some d) (hN : Nat.blt d N = true)
    (hw : wantedA ops fr o = some true) (hop : o.op = .call ⟨.value fo, args, ts⟩) (hf : ev G fr fo = .clo f [])
    (ha : argsV G T fr args.toList ts.toList ++ [] = SV.rens (rn [] bx.length) args0) (h : RegD P G N ops es K (i :: pend) ord ((d, .d x) :: fr) bx) : RegD P G N ops es K pend (i :: ord) fr bx :=
  RegD.pure ho (fun hh => by simp [hh] at hes) hd (Nat.le_of_ble_eq_true hN) (.inl ⟨hw, EffS.pureCall hT hspec hcall hop hf ha⟩) h

theorem Stable.call (hT : T.Ok P) {ops : List Oper} {j d : Nat} {pend : List Nat} {o : Oper} {args0 : List SV} {x : AV} {fo : Operand} {args : Array Operand} {ts : Array TypeId} {f : FuncId}
    (hspec : ACalls P G f args0 [] fun out b => out = .ret (.d x) ∧ b = []) (hcall : Callable P f) (ho : ops[j]? = some o) (hd : o.dst = some d) (hx : look fr d = .d x)
    (hw : wantedA ops fr o = some true) (hop : o.op = .call ⟨.value fo, args, ts⟩) (hf : ev G fr fo = .clo f [])
    (ha : argsV G T fr args.toList ts.toList ++ [] = SV.rens (rn [] bx.length) args0) (h : Stable P G ops fr pend bx) : Stable P G ops fr (j :: pend) bx := by
  intro k hk o' d' ho' hd'
  rcases List.mem_cons.1 hk with rfl | hk
  · rw [ho] at ho'
    cases ho'
    rw [hd] at hd'
    cases hd'
    rw [hx]
    exact .inl ⟨hw, EffS.pureCall hT hspec hcall hop hf ha⟩
  · exact h k hk o' d' ho' hd'
end
end Go.Abs

namespace Go.Abs
open Go

section
variable {P : Program} {T : Tab} {G : Glob} {N : Nat} {fr : Fr} {bx : List Box}

theorem RepRows.take {w : World} {ok : Nat → Nat} {size b : Nat} : ∀ {rows : List (List AV)} {o : Nat} (n : Nat), RepRows w ok rows size b o → RepRows w ok (rows.take n) size b o
  | [], o, n, h => by simpa using h
  | r :: rs, o, 0, h => by simp only [List.take_zero, RepRows]
  | r :: rs, o, n + 1, h => by
    simp only [RepRows, List.take_succ_cons] at h ⊢
    exact ⟨h.1, h.2.1, RepRows.take n h.2.2⟩
theorem RepRows.drop {w : World} {ok : Nat → Nat} {size b : Nat} : ∀ {rows : List (List AV)} {o : Nat} (n : Nat), RepRows w ok rows size b o → RepRows w ok (rows.drop n) size b (o + n * size)
  | [], o, n, h => by simp only [List.drop_nil, RepRows]
  | r :: rs, o, 0, h => by simpa using h
  | r :: rs, o, n + 1, h => by
    simp only [RepRows, List.drop_succ_cons] at h ⊢
    have := RepRows.drop n h.2.2
    rw [show o + (n + 1) * size = o + size + n * size from by rw [Nat.add_mul]; omega]
    exact this

/-- A slice as data. -/
def slOf : SV → Option (Nat × List (List AV))
  | .d (.sl s rows _) => some (s, rows)
  | .own _ s rows => some (s, rows)
  | _ => none

theorem slOf_rep {w : World} {ok : Nat → Nat} {g : List Value} {x : SV} {v : Value} {s : Nat} {rows : List (List AV)} (h : slOf x = some (s, rows)) (hr : RepS w ok g bx x v) : Rep w ok (.sl s rows false) v := by
  cases x with
  | d y =>
    cases y <;> simp only [slOf, reduceCtorEq, Option.some.injEq, Prod.mk.injEq] at h
    obtain ⟨rfl, rfl⟩ := h
    exact SLe.rep (g := g) (bx := bx) (.full ..) hr
  | own id s' rows' =>
    simp only [slOf, Option.some.injEq, Prod.mk.injEq] at h
    obtain ⟨rfl, rfl⟩ := h
    exact hr.1
  | _ => cases h

/-- The first so many. -/
theorem OpS.sliceHi (hT : T.Ok P) {o : Oper} {t e : TypeId} {y z : Operand} {s1 b1 size n : Nat} {z1 : List AV} {te : TI} {rows : List (List AV)} {k : IntKind} (hop : o.op = .slice t y none (some z) none) (ht : T.ti t = some ⟨.slice e, s1, b1, z1⟩) (he : T.ti e = some te)
    (_hsz : te.size = size) (hy : slOf (ev G fr y) = some (size, rows)) (hz : ev G fr z = .d (.val (.int k (n : Nat)))) (hn : n ≤ rows.length) : OpS P G o fr bx (.d (.sl size (rows.take n) false)) bx := by
  obtain ⟨d, hu, hd⟩ := (Tab.ti_ok hT ht).under
  have hd := td_slice hd
  subst hd
  intro B w a ok g hrel ho
  have h1 := slOf_rep hy (ho y (by rw [hop]; simp [Op.operands]))
  have h2 := ho z (by rw [hop]; simp [Op.operands])
  rw [hz] at h2
  simp only [RepS, Rep] at h2
  simp only [Rep] at h1
  obtain ⟨p, cap, e1, e2, _, e4⟩ := h1
  refine ⟨.slice p n cap, w, ok, g, .inl ?_, hrel, Ext.refl _ _, Laters.refl hrel.boxes.len, ?_⟩
  · unfold execOp
    rw [hop]
    have hc : (n : Int) ≤ cap := by omega
    have hc0 : (0 : Int) ≤ n := by omega
    simp [Instr.sliceAt, Instr.slice, e1, h2, underlying, hu, Instr.sliceBounds, Instr.sliceBound, asIntOf, hc0, run_size hT he, show n ≤ cap by omega]
    intro _
    cases p with
    | none => rfl
    | some q => simp [Addr.add]
  · simp only [RepS, Rep]
    refine ⟨p, cap, by rw [List.length_take, Nat.min_eq_left hn], by rw [List.length_take]; omega, (fun h => by cases h), ?_⟩
    rcases e4 with e4 | ⟨b, o, e5, e6⟩
    · subst e4
      exact .inl (by simp)
    · exact .inr ⟨b, o, e5, e6.take n⟩

/-- All behind the first so many. -/
theorem OpS.sliceLo (hT : T.Ok P) {o : Oper} {t e : TypeId} {y z : Operand} {s1 b1 size n : Nat} {z1 : List AV} {te : TI} {rows : List (List AV)} {k : IntKind} (hop : o.op = .slice t y (some z) none none) (ht : T.ti t = some ⟨.slice e, s1, b1, z1⟩) (he : T.ti e = some te)
    (hsz : te.size = size) (hy : slOf (ev G fr y) = some (size, rows)) (hz : ev G fr z = .d (.val (.int k (n : Nat)))) (hn : n ≤ rows.length) : OpS P G o fr bx (.d (.sl size (rows.drop n) false)) bx := by
  obtain ⟨d, hu, hd⟩ := (Tab.ti_ok hT ht).under
  have hd := td_slice hd
  subst hd
  intro B w a ok g hrel ho
  have h1 := slOf_rep hy (ho y (by rw [hop]; simp [Op.operands]))
  have h2 := ho z (by rw [hop]; simp [Op.operands])
  rw [hz] at h2
  simp only [RepS, Rep] at h2
  simp only [Rep] at h1
  obtain ⟨p, cap, e1, e2, _, e4⟩ := h1
  refine ⟨.slice (if cap = n then p else p.map (·.add (n * size))) (rows.length - n) (cap - n), w, ok, g, .inl ?_, hrel, Ext.refl _ _, Laters.refl hrel.boxes.len, ?_⟩
  · unfold execOp
    rw [hop]
    have hc0 : (0 : Int) ≤ n := by omega
    have hc : (n : Int) ≤ rows.length := by omega
    simp [Instr.sliceAt, Instr.slice, e1, h2, underlying, hu, Instr.sliceBounds, Instr.sliceBound, asIntOf, hc0, hn, run_size hT he, hsz]
  · simp only [RepS, Rep]
    refine ⟨_, _, by rw [List.length_drop], by rw [List.length_drop]; omega, (fun h => by cases h), ?_⟩
    rcases e4 with e4 | ⟨b, o, rfl, e6⟩
    · subst e4
      exact .inl (by simp)
    · by_cases hcap : cap = n
      · have : rows.length = n := by omega
        exact .inl (by rw [List.drop_eq_nil_of_le (by omega)])
      · rw [if_neg hcap]
        exact .inr ⟨b, o + n * size, by simp only [Option.map_some, add_pl], e6.drop n⟩
end
end Go.Abs
