/-
  A program logic over the model: values, the relation to machine states, the symbolic evaluator and its soundness. No statement of the seat is proved here.
-/
import Derived.Orders
import Derived.Defers
import Derived.Recover
import Derived.KernelRfl
import Derived.Below
import Derived.WalkKit
import Derived.WalkLawsBesides
import Derived.Laws.CopyRow
namespace Go.Abs

/-- What a value is, when memory is let by: whatever lies behind a slice or a pointer to settled memory stands in it. -/
inductive AV where
  | val (v : Value)
  | sl (size : Nat) (rows : List (List AV)) (full : Bool)
  | agg (cs : List AV)
  | tup (cs : List AV)
  | ro (cs : List AV)
  | ifc (t : TypeId) (x : AV)
  | junk

/-- A place in memory: block and offset. -/
abbrev pl (b o : Nat) : Addr := ⟨b, o, none⟩

mutual
def Rep (w : World) (ok : Nat → Nat) : AV → Value → Prop
  | .val u, v => v = u
  | .sl size rows full, v => ∃ p cap, v = .slice p rows.length cap ∧ rows.length ≤ cap ∧ (full = true → cap = rows.length) ∧
      (rows = [] ∨ ∃ b o, p = some (pl b o) ∧ RepRows w ok rows size b o)
  | .agg cs, v => ∃ l : List Value, v = .agg l.toArray ∧ Reps w ok cs l
  | .tup cs, v => ∃ l : List Value, v = .tuple l.toArray ∧ Reps w ok cs l
  | .ro cs, v => ∃ b o, v = .pointer (some (pl b o)) ∧ RepAt w ok cs b o
  | .ifc t x, v => ∃ u, v = .iface t u ∧ Rep w ok x u
  | .junk, _ => True
def Reps (w : World) (ok : Nat → Nat) : List AV → List Value → Prop
  | [], l => l = []
  | x :: xs, l => ∃ v r, l = v :: r ∧ Rep w ok x v ∧ Reps w ok xs r
def RepAt (w : World) (ok : Nat → Nat) : List AV → Nat → Nat → Prop
  | [], _, _ => True
  | x :: xs, b, o => o < ok b ∧ (∃ v, w.cell? (pl b o) = some v ∧ Rep w ok x v) ∧ RepAt w ok xs b (o + 1)
def RepRows (w : World) (ok : Nat → Nat) : List (List AV) → Nat → Nat → Nat → Prop
  | [], _, _, _ => True
  | r :: rs, size, b, o => r.length = size ∧ RepAt w ok r b o ∧ RepRows w ok rs size b (o + size)
end

/-- What is settled stays. -/
def Ext (w : World) (ok : Nat → Nat) (w' : World) (ok' : Nat → Nat) : Prop :=
  ∀ b, ok b ≤ ok' b ∧ ∀ o, o < ok b → w'.cell? (pl b o) = w.cell? (pl b o)

theorem Ext.refl (w : World) (ok : Nat → Nat) : Ext w ok w ok := fun _ => ⟨Nat.le_refl _, fun _ _ => rfl⟩
theorem Ext.trans {w w1 w2 : World} {ok ok1 ok2 : Nat → Nat} (h : Ext w ok w1 ok1) (h' : Ext w1 ok1 w2 ok2) : Ext w ok w2 ok2 :=
  fun b => ⟨Nat.le_trans (h b).1 (h' b).1, fun o ho => by rw [(h' b).2 o (Nat.lt_of_lt_of_le ho (h b).1), (h b).2 o ho]⟩

mutual
theorem Rep.ext {w w' : World} {ok ok' : Nat → Nat} (hx : Ext w ok w' ok') : ∀ (x : AV) (v : Value), Rep w ok x v → Rep w' ok' x v
  | .val _, _ => by simp only [Rep]; exact id
  | .sl size rows full, v => by
    simp only [Rep]
    rintro ⟨p, cap, h1, h2, h3, h4⟩
    refine ⟨p, cap, h1, h2, h3, h4.imp id ?_⟩
    rintro ⟨b, o, h5, h6⟩
    exact ⟨b, o, h5, RepRows.ext hx rows size b o h6⟩
  | .agg cs, v => by
    simp only [Rep]
    rintro ⟨l, h1, h2⟩
    exact ⟨l, h1, Reps.ext hx cs l h2⟩
  | .tup cs, v => by
    simp only [Rep]
    rintro ⟨l, h1, h2⟩
    exact ⟨l, h1, Reps.ext hx cs l h2⟩
  | .ro cs, v => by
    simp only [Rep]
    rintro ⟨b, o, h1, h2⟩
    exact ⟨b, o, h1, RepAt.ext hx cs b o h2⟩
  | .ifc t x, v => by
    simp only [Rep]
    rintro ⟨u, h1, h2⟩
    exact ⟨u, h1, Rep.ext hx x u h2⟩
  | .junk, _ => by simp only [Rep]; exact id
theorem Reps.ext {w w' : World} {ok ok' : Nat → Nat} (hx : Ext w ok w' ok') : ∀ (xs : List AV) (l : List Value), Reps w ok xs l → Reps w' ok' xs l
  | [], l => by simp only [Reps]; exact id
  | x :: xs, l => by
    simp only [Reps]
    rintro ⟨v, r, h1, h2, h3⟩
    exact ⟨v, r, h1, Rep.ext hx x v h2, Reps.ext hx xs r h3⟩
theorem RepAt.ext {w w' : World} {ok ok' : Nat → Nat} (hx : Ext w ok w' ok') : ∀ (xs : List AV) (b o : Nat), RepAt w ok xs b o → RepAt w' ok' xs b o
  | [], _, _ => by simp only [RepAt]; exact id
  | x :: xs, b, o => by
    simp only [RepAt]
    rintro ⟨h0, ⟨v, h1, h2⟩, h3⟩
    exact ⟨Nat.lt_of_lt_of_le h0 (hx b).1, ⟨v, by rw [(hx b).2 o h0]; exact h1, Rep.ext hx x v h2⟩, RepAt.ext hx xs b (o + 1) h3⟩
theorem RepRows.ext {w w' : World} {ok ok' : Nat → Nat} (hx : Ext w ok w' ok') : ∀ (rs : List (List AV)) (size b o : Nat), RepRows w ok rs size b o → RepRows w' ok' rs size b o
  | [], _, _, _ => by simp only [RepRows]; exact id
  | r :: rs, size, b, o => by
    simp only [RepRows]
    rintro ⟨h0, h1, h2⟩
    exact ⟨h0, RepAt.ext hx r b o h1, RepRows.ext hx rs size b (o + size) h2⟩
end

end Go.Abs

namespace Go.Abs

/-- What a temporary or a cell of a box holds: data, a pointer to a box, a slice with the right to append to it, a closure, several of these. -/
inductive SV where
  | d (x : AV)
  | ptr (id off : Nat)
  | own (id size : Nat) (rows : List (List AV))
  | clo (f : FuncId) (cap : List SV)
  | tup (vs : List SV)
  | agg (cs : List SV)

/-- Memory that is written: a box of cells; the room behind a slice. -/
inductive Box where
  | cells (cs : List SV)
  | acc (size hw : Nat)
  | dead

def OwnOk (g : List Value) (bx : List Box) (id size n : Nat) (v : Value) : Prop :=
  match bx[id]? with
  | some (.acc s hw) => s = size ∧ n ≤ hw ∧ (hw = n → g[id]? = some v)
  | some .dead => True
  | _ => False

mutual
def RepS (w : World) (ok : Nat → Nat) (g : List Value) (bx : List Box) : SV → Value → Prop
  | .d x, v => Rep w ok x v
  | .ptr id off, v => (∀ s h, bx[id]? ≠ some (.acc s h)) ∧ ∃ b, g[id]? = some (.pointer (some (pl b 0))) ∧ v = .pointer (some (pl b off))
  | .own id size rows, v => Rep w ok (.sl size rows false) v ∧ OwnOk g bx id size rows.length v
  | .clo f cap, v => ∃ l : List Value, v = .func (.func f) #[] l.toArray ∧ RepSs w ok g bx cap l
  | .tup vs, v => ∃ l : List Value, v = .tuple l.toArray ∧ RepSs w ok g bx vs l
  | .agg cs, v => ∃ l : List Value, v = .agg l.toArray ∧ RepSs w ok g bx cs l
def RepSs (w : World) (ok : Nat → Nat) (g : List Value) (bx : List Box) : List SV → List Value → Prop
  | [], l => l = []
  | x :: xs, l => ∃ v r, l = v :: r ∧ RepS w ok g bx x v ∧ RepSs w ok g bx xs r
end

def Later (b : Option Box) (v : Option Value) (b' : Option Box) (v' : Option Value) : Prop :=
  match b with
  | none => v = none
  | some .dead => b' = some .dead ∧ v' = v
  | some (.cells _) => v' = v ∧ ((∃ cs, b' = some (.cells cs)) ∨ b' = some .dead)
  | some (.acc s hw) => (∃ hw', b' = some (.acc s hw') ∧ hw ≤ hw' ∧ (hw' = hw → v' = v)) ∨ b' = some .dead

def Laters (g : List Value) (bx : List Box) (g' : List Value) (bx' : List Box) : Prop := ∀ i : Nat, Later (bx[i]?) (g[i]?) (bx'[i]?) (g'[i]?)

theorem Laters.refl {g : List Value} {bx : List Box} (h : g.length = bx.length) : Laters g bx g bx := by
  intro i
  unfold Later
  split
  · rename_i hb
    rw [List.getElem?_eq_none_iff] at hb ⊢
    omega
  · rename_i hb
    exact ⟨hb, rfl⟩
  · rename_i cs hb
    exact ⟨rfl, .inl ⟨cs, hb⟩⟩
  · rename_i s hw hb
    exact .inl ⟨hw, hb, Nat.le_refl _, fun _ => rfl⟩

theorem Later.trans {b b1 b2 : Option Box} {v v1 v2 : Option Value} (h : Later b v b1 v1) (h' : Later b1 v1 b2 v2) : Later b v b2 v2 := by
  unfold Later at *
  cases b with
  | none => exact h
  | some b =>
    cases b with
    | dead =>
      obtain ⟨rfl, rfl⟩ := h
      exact h'
    | cells cs =>
      obtain ⟨rfl, h | h⟩ := h
      · obtain ⟨cs', rfl⟩ := h
        exact h'
      · subst h
        exact ⟨h'.2, .inr h'.1⟩
    | acc s hw =>
      rcases h with ⟨hw1, rfl, h1, h2⟩ | rfl
      · rcases h' with ⟨hw2, rfl, h3, h4⟩ | h'
        · exact .inl ⟨hw2, rfl, Nat.le_trans h1 h3, fun e => by rw [h4 (by omega), h2 (by omega)]⟩
        · exact .inr h'
      · exact .inr h'.1

theorem Laters.trans {g g1 g2 : List Value} {bx bx1 bx2 : List Box} (h : Laters g bx g1 bx1) (h' : Laters g1 bx1 g2 bx2) : Laters g bx g2 bx2 :=
  fun i => (h i).trans (h' i)

section
variable {w w' : World} {ok ok' : Nat → Nat} {g g' : List Value} {bx bx' : List Box}

theorem OwnOk.later {id size n : Nat} {v : Value} (hl : Laters g bx g' bx') (h : OwnOk g bx id size n v) : OwnOk g' bx' id size n v := by
  have hi := hl id
  unfold OwnOk at *
  unfold Later at hi
  split at h
  · rename_i s hw hb
    rw [hb] at hi
    obtain ⟨rfl, h1, h2⟩ := h
    rcases hi with ⟨hw', e, h3, h4⟩ | e
    · simp only [e]
      exact ⟨trivial, by omega, fun hh => by rw [h4 (by omega)]; exact h2 (by omega)⟩
    · simp only [e]
  · rename_i hb
    rw [hb] at hi
    simp only [hi.1]
  · exact h.elim

mutual
theorem RepS.later (hx : Ext w ok w' ok') (hl : Laters g bx g' bx') : ∀ (x : SV) (v : Value), RepS w ok g bx x v → RepS w' ok' g' bx' x v
  | .d x, v => by
    simp only [RepS]
    exact Rep.ext hx x v
  | .ptr id off, v => by
    simp only [RepS]
    rintro ⟨h0, b, h1, h2⟩
    have hi := hl id
    unfold Later at hi
    split at hi
    · rw [h1] at hi; cases hi
    · exact ⟨(fun s h e => by rw [hi.1] at e; cases e), b, by rw [hi.2]; exact h1, h2⟩
    · refine ⟨fun s h e => ?_, b, by rw [hi.1]; exact h1, h2⟩
      rcases hi.2 with ⟨cs, e'⟩ | e' <;> rw [e'] at e <;> cases e
    · rename_i s hw hb
      exact (h0 s hw hb).elim
  | .own id size rows, v => by
    simp only [RepS]
    rintro ⟨h0, h1⟩
    exact ⟨Rep.ext hx _ v h0, h1.later hl⟩
  | .clo f cap, v => by
    simp only [RepS]
    rintro ⟨l, h1, h2⟩
    exact ⟨l, h1, RepSs.later hx hl cap l h2⟩
  | .tup cs, v => by
    simp only [RepS]
    rintro ⟨l, h1, h2⟩
    exact ⟨l, h1, RepSs.later hx hl cs l h2⟩
  | .agg cs, v => by
    simp only [RepS]
    rintro ⟨l, h1, h2⟩
    exact ⟨l, h1, RepSs.later hx hl cs l h2⟩
theorem RepSs.later (hx : Ext w ok w' ok') (hl : Laters g bx g' bx') : ∀ (xs : List SV) (l : List Value), RepSs w ok g bx xs l → RepSs w' ok' g' bx' xs l
  | [], l => by simp only [RepSs]; exact id
  | x :: xs, l => by
    simp only [RepSs]
    rintro ⟨v, r, h1, h2, h3⟩
    exact ⟨v, r, h1, RepS.later hx hl x v h2, RepSs.later hx hl xs r h3⟩
end

end

/-- The block that a box has for itself. -/
def blk (g : List Value) (bx : List Box) (i : Nat) : Option Nat :=
  match bx[i]?, g[i]? with
  | some (.cells _), some (.pointer (some a)) => some a.block
  | some (.acc _ _), some (.slice (some a) hw cap) => if cap = hw then none else some a.block
  | _, _ => none

structure RelB (w : World) (ok : Nat → Nat) (g : List Value) (bx : List Box) : Prop where
  len : g.length = bx.length
  cells : ∀ (i : Nat) cs, bx[i]? = some (.cells cs) → ∃ b arr E, g[i]? = some (.pointer (some (pl b 0))) ∧ w.heap[b]? = some (.cells arr E (0, 0)) ∧ ok b = 0 ∧
    RepSs w ok g bx cs arr.toList
  acc : ∀ (i : Nat) size hw, bx[i]? = some (.acc size hw) → ∃ p cap, g[i]? = some (.slice p hw cap) ∧ hw ≤ cap ∧
    (cap = hw ∨ ∃ b arr E, p = some (pl b 0) ∧ w.heap[b]? = some (.cells arr E (0, 0)) ∧ arr.size = cap * size ∧ ok b = hw * size)
  apart : ∀ i j b, blk g bx i = some b → blk g bx j = some b → i = j

/-- Where a call began. -/
structure Base where
  w : World
  ok : Nat → Nat
  g : List Value
  bx : List Box

/-- What the program's tables hold. -/
abbrev Glob := Nat → List AV

structure RelW (G : Glob) (B : Base) (w : World) (ok : Nat → Nat) (g : List Value) (bx : List Box) : Prop where
  size : B.w.heap.size ≤ w.heap.size
  keep : ∀ b, b < B.w.heap.size → (∀ i, blk B.g B.bx i ≠ some b) → w.heap[b]? = B.w.heap[b]? ∧ ok b = B.ok b
  ext : Ext B.w B.ok w ok
  dom : ∀ i b, blk g bx i = some b → (∃ j, blk B.g B.bx j = some b) ∨ B.w.heap.size ≤ b
  wf : ∀ b, ok b ≠ 0 → b < w.heap.size
  rest : w.tape = B.w.tape ∧ w.os = B.w.os ∧ w.output = B.w.output
  glob : ∀ gl, RepAt w ok (G gl) gl 0
  ids : ∀ i < B.bx.length, Later (B.bx[i]?) (B.g[i]?) (bx[i]?) (g[i]?)
  boxes : RelB w ok g bx

end Go.Abs

namespace Go.Abs

theorem RelB.blk_cells {w : World} {ok : Nat → Nat} {g : List Value} {bx : List Box} (h : RelB w ok g bx) {i b : Nat} (hb : blk g bx i = some b) :
    ∃ arr E, w.heap[b]? = some (.cells arr E (0, 0)) := by
  unfold blk at hb
  split at hb
  · rename_i cs a h1 h2
    obtain ⟨b', arr, E, e1, e2, _, _⟩ := h.cells i cs h1
    rw [h2] at e1
    cases e1
    cases hb
    exact ⟨arr, E, e2⟩
  · rename_i s hw a hw' cap h1 h2
    obtain ⟨p, cap', e1, _, e2⟩ := h.acc i s hw h1
    rw [h2] at e1
    cases e1
    split at hb
    · cases hb
    · rename_i hne
      rcases e2 with e2 | ⟨b', arr, E, e2, e3, _, _⟩
      · exact (hne e2).elim
      · cases e2
        cases hb
        exact ⟨arr, E, e3⟩
  · cases hb

theorem RelB.blk_lt {w : World} {ok : Nat → Nat} {g : List Value} {bx : List Box} (h : RelB w ok g bx) {i b : Nat} (hb : blk g bx i = some b) : b < w.heap.size := by
  obtain ⟨arr, E, e⟩ := h.blk_cells hb
  exact (Array.getElem?_eq_some_iff.1 e).1

theorem cell_of_heap {w w' : World} {b o : Nat} (h : w'.heap[b]? = w.heap[b]?) : w'.cell? (pl b o) = w.cell? (pl b o) := by
  unfold World.cell?
  simp only [h]

/-- A step of the world keeps the relation. -/
theorem RelW.step {G : Glob} {B : Base} {w w' : World} {ok ok' : Nat → Nat} {g g' : List Value} {bx bx' : List Box} (h : RelW G B w ok g bx)
    (hx : Ext w ok w' ok') (hl : ∀ i < bx.length, Later (bx[i]?) (g[i]?) (bx'[i]?) (g'[i]?)) (hsize : w.heap.size ≤ w'.heap.size)
    (hkeep : ∀ b, b < w.heap.size → (∀ i, blk g bx i ≠ some b) → w'.heap[b]? = w.heap[b]? ∧ ok' b = ok b)
    (hdom : ∀ i b, blk g' bx' i = some b → (∃ j, blk g bx j = some b) ∨ w.heap.size ≤ b)
    (hwf : ∀ b, ok' b ≠ 0 → b < w'.heap.size)
    (hrest : w'.tape = w.tape ∧ w'.os = w.os ∧ w'.output = w.output)
    (hn : B.bx.length ≤ bx.length) (hb : RelB w' ok' g' bx') : RelW G B w' ok' g' bx' where
  size := Nat.le_trans h.size hsize
  keep := by
    intro b h1 h2
    have h3 := h.keep b h1 h2
    have h4 := hkeep b (Nat.lt_of_lt_of_le h1 h.size) (by
      intro i hi
      rcases h.dom i b hi with ⟨j, hj⟩ | hj
      · exact h2 j hj
      · omega)
    exact ⟨h4.1.trans h3.1, h4.2.trans h3.2⟩
  ext := h.ext.trans hx
  dom := by
    intro i b hi
    rcases hdom i b hi with ⟨j, hj⟩ | hj
    · exact h.dom j b hj
    · exact .inr (Nat.le_trans h.size hj)
  wf := hwf
  rest := ⟨hrest.1.trans h.rest.1, hrest.2.1.trans h.rest.2.1, hrest.2.2.trans h.rest.2.2⟩
  glob := fun gl => RepAt.ext hx _ _ _ (h.glob gl)
  ids := fun i hi => (h.ids i hi).trans (hl i (Nat.lt_of_lt_of_le hi hn))
  boxes := hb

end Go.Abs

namespace Go.Abs

/-- A type, as far as the evaluation asks. -/
inductive TD where
  | int (k : IntKind)
  | bool | str | ptr | iface | func
  | slice (e : TypeId)
  | struct (fs : List (Nat × TypeId))
  | array (n : Nat) (e : TypeId)
  | other

structure TI where
  d : TD
  size : Nat
  bytes : Nat
  zero : List AV

def TD.isAgg : TD → Bool
  | .struct _ | .array _ _ => true
  | _ => false

def td : TypeDesc → TD
  | .int k => .int k
  | .bool => .bool
  | .string => .str
  | .pointer _ => .ptr
  | .interface _ => .iface
  | .func _ _ _ => .func
  | .slice e => .slice e
  | .struct fs => .struct (fs.toList.map fun f => (f.offset, f.type))
  | .array n e => .array n e
  | _ => .other

/-- The value of one cell that an abstract zero stands for. -/
def zval : AV → Value
  | .val v => v
  | _ => .slice none 0 0

def zOk : AV → Bool
  | .val _ => true
  | .sl _ [] _ => true
  | _ => false

/-- A row of a table of types is what the program has. -/
structure TIok (P : Program) (t : TypeId) (ti : TI) : Prop where
  info : ∃ i z, P.info? t = some i ∧ i.size = ti.size ∧ i.bytes = ti.bytes ∧ i.zero = some z ∧ z.cells.toList = ti.zero.map zval
  under : ∃ d, P.underlying t = some d ∧ td d = ti.d
  zero : ti.zero.all zOk = true
  zlen : ti.zero.length = ti.size

abbrev Tab := List (TypeId × TI)

def Tab.ti : Tab → TypeId → Option TI
  | [], _ => none
  | (k, x) :: r, t => bif Nat.beq k t then some x else Tab.ti r t

def Tab.Ok (P : Program) (T : Tab) : Prop := ∀ x ∈ T, TIok P x.1 x.2

theorem Tab.ti_ok {P : Program} {T : Tab} (h : T.Ok P) {t : TypeId} {x : TI} (hx : T.ti t = some x) : TIok P t x := by
  induction T with
  | nil => cases hx
  | cons y T ih =>
    unfold Tab.ti at hx
    cases hk : Nat.beq y.1 t with
    | true =>
      rw [hk] at hx
      cases hx
      rw [← Nat.eq_of_beq_eq_true hk]
      exact h _ (List.mem_cons_self ..)
    | false =>
      rw [hk] at hx
      exact ih (fun z hz => h z (List.mem_cons_of_mem _ hz)) hx

abbrev Fr := List (Nat × SV)

def look : Fr → Nat → SV
  | [], _ => .d .junk
  | (k, x) :: r, t => bif Nat.beq k t then x else look r t

def ev (G : Glob) (fr : Fr) : Operand → SV
  | .tmp t => look fr t
  | .const v => .d (.val v)
  | .global g => .d (.ro (G g))
  | .func f => .clo f []

mutual
/-- What is left of a value when no right and no box is asked of it. -/
def SV.av : SV → AV
  | .d x => x
  | .own _ size rows => .sl size rows false
  | .agg cs => .agg (SV.avs cs)
  | .tup cs => .tup (SV.avs cs)
  | .ptr _ _ => .junk
  | .clo _ _ => .junk
def SV.avs : List SV → List AV
  | [] => []
  | x :: xs => SV.av x :: SV.avs xs
end

section
variable {w : World} {ok : Nat → Nat} {g : List Value} {bx : List Box}
mutual
theorem RepS.av : ∀ (x : SV) (v : Value), RepS w ok g bx x v → Rep w ok x.av v
  | .d x, v => by simp only [RepS, SV.av]; exact id
  | .own id size rows, v => by simp only [RepS, SV.av]; exact fun h => h.1
  | .agg cs, v => by
    simp only [RepS, SV.av, Rep]
    rintro ⟨l, h1, h2⟩
    exact ⟨l, h1, RepSs.av cs l h2⟩
  | .tup cs, v => by
    simp only [RepS, SV.av, Rep]
    rintro ⟨l, h1, h2⟩
    exact ⟨l, h1, RepSs.av cs l h2⟩
  | .ptr _ _, v => by simp only [SV.av, Rep]; exact fun _ => trivial
  | .clo _ _, v => by simp only [SV.av, Rep]; exact fun _ => trivial
theorem RepSs.av : ∀ (xs : List SV) (l : List Value), RepSs w ok g bx xs l → Reps w ok (SV.avs xs) l
  | [], l => by simp only [RepSs, SV.avs, Reps]; exact id
  | x :: xs, l => by
    simp only [RepSs, SV.avs, Reps]
    rintro ⟨v, r, h1, h2, h3⟩
    exact ⟨v, r, h1, RepS.av x v h2, RepSs.av xs r h3⟩
end
end

theorem Rep.zero {w : World} {ok : Nat → Nat} {x : AV} (h : zOk x = true) : Rep w ok x (zval x) := by
  unfold zOk at h
  split at h
  · simp only [zval, Rep]
  · simp only [zval, Rep]
    exact ⟨none, 0, rfl, Nat.le_refl _, fun _ => rfl, .inl trivial⟩
  · cases h

theorem Reps.zero {w : World} {ok : Nat → Nat} : ∀ {xs : List AV}, xs.all zOk = true → Reps w ok xs (xs.map zval)
  | [], _ => by simp only [Reps, List.map_nil]
  | x :: xs, h => by
    simp only [List.all_cons, Bool.and_eq_true] at h
    simp only [Reps, List.map_cons]
    exact ⟨_, _, rfl, Rep.zero h.1, Reps.zero h.2⟩

theorem Reps.length {w : World} {ok : Nat → Nat} : ∀ {xs : List AV} {l : List Value}, Reps w ok xs l → l.length = xs.length
  | [], l, h => by simp only [Reps] at h; rw [h]; rfl
  | x :: xs, l, h => by
    simp only [Reps] at h
    obtain ⟨v, r, rfl, _, h⟩ := h
    simp only [List.length_cons, Reps.length h]

theorem RepSs.length {w : World} {ok : Nat → Nat} {g : List Value} {bx : List Box} : ∀ {xs : List SV} {l : List Value}, RepSs w ok g bx xs l → l.length = xs.length
  | [], l, h => by simp only [RepSs] at h; rw [h]; rfl
  | x :: xs, l, h => by
    simp only [RepSs] at h
    obtain ⟨v, r, rfl, _, h⟩ := h
    simp only [List.length_cons, RepSs.length h]

theorem RepSs.data {w : World} {ok : Nat → Nat} {g : List Value} {bx : List Box} : ∀ {xs : List AV} {l : List Value}, Reps w ok xs l → RepSs w ok g bx (xs.map SV.d) l
  | [], l, h => by simp only [Reps] at h; simp only [List.map_nil, RepSs]; exact h
  | x :: xs, l, h => by
    simp only [Reps] at h
    obtain ⟨v, r, rfl, h1, h⟩ := h
    simp only [List.map_cons, RepSs, RepS]
    exact ⟨v, r, rfl, h1, RepSs.data h⟩

theorem RepSs.get {w : World} {ok : Nat → Nat} {g : List Value} {bx : List Box} : ∀ {xs : List SV} {l : List Value} {i : Nat} {x : SV}, RepSs w ok g bx xs l → xs[i]? = some x →
    ∃ v, l[i]? = some v ∧ RepS w ok g bx x v
  | [], l, i, x, _, hx => by simp at hx
  | y :: ys, l, 0, x, h, hx => by
    simp only [RepSs] at h
    obtain ⟨v, r, rfl, h1, _⟩ := h
    simp only [List.getElem?_cons_zero, Option.some.injEq] at hx
    subst hx
    exact ⟨v, rfl, h1⟩
  | y :: ys, l, i + 1, x, h, hx => by
    simp only [RepSs] at h
    obtain ⟨v, r, rfl, _, h⟩ := h
    simp only [List.getElem?_cons_succ] at hx ⊢
    exact RepSs.get h hx

theorem RepSs.set {w : World} {ok : Nat → Nat} {g : List Value} {bx : List Box} : ∀ {xs : List SV} {l : List Value} (i : Nat) {x : SV} {v : Value}, RepSs w ok g bx xs l → RepS w ok g bx x v →
    RepSs w ok g bx (xs.set i x) (l.set i v)
  | [], l, i, x, v, h, _ => by simp only [RepSs] at h; subst h; simp only [List.set_nil, RepSs]
  | y :: ys, l, 0, x, v, h, hx => by
    simp only [RepSs] at h
    obtain ⟨u, r, rfl, _, h⟩ := h
    simp only [List.set_cons_zero, RepSs]
    exact ⟨_, _, rfl, hx, h⟩
  | y :: ys, l, i + 1, x, v, h, hx => by
    simp only [RepSs] at h
    obtain ⟨u, r, rfl, h1, h⟩ := h
    simp only [List.set_cons_succ, RepSs]
    exact ⟨_, _, rfl, h1, RepSs.set i h hx⟩

end Go.Abs

namespace Go.Abs

abbrev grow (w : World) (o : Obj) : World := { w with heap := w.heap.push o }

theorem heap_grow {w : World} {o : Obj} {b : Nat} (h : b < w.heap.size) : (grow w o).heap[b]? = w.heap[b]? := by
  simp only [Array.getElem?_push]
  rw [if_neg (by omega)]

theorem heap_grow_new {w : World} {o : Obj} : (grow w o).heap[w.heap.size]? = some o := by
  simp only [Array.getElem?_push_size]

theorem RelW.len_le {G : Glob} {B : Base} {w : World} {ok : Nat → Nat} {g : List Value} {bx : List Box} (h : RelW G B w ok g bx) : B.bx.length ≤ bx.length := by
  rcases Nat.lt_or_ge bx.length B.bx.length with hlt | hge
  · exfalso
    have hi := h.ids bx.length hlt
    have hn : bx[bx.length]? = none := List.getElem?_eq_none_iff.2 (Nat.le_refl _)
    rw [hn] at hi
    have hs : ∃ x, B.bx[bx.length]? = some x := ⟨_, List.getElem?_eq_some_iff.2 ⟨hlt, rfl⟩⟩
    obtain ⟨x, hx⟩ := hs
    rw [hx] at hi
    unfold Later at hi
    cases x with
    | dead => cases hi.1
    | cells cs => rcases hi.2 with ⟨cs, e⟩ | e <;> cases e
    | acc s hw => rcases hi with ⟨_, e, _⟩ | e <;> cases e
  · exact hge

theorem Ext.grow {w : World} {ok : Nat → Nat} (hwf : ∀ b, ok b ≠ 0 → b < w.heap.size) (o : Obj) (n : Nat) :
    Ext w ok (grow w o) (fun b => if b = w.heap.size then n else ok b) := by
  intro b
  by_cases hb : b = w.heap.size
  · subst hb
    have h0 : ok w.heap.size = 0 := by
      apply Classical.byContradiction
      intro h
      exact Nat.lt_irrefl _ (hwf _ h)
    refine ⟨by simp only [h0]; exact Nat.zero_le _, fun o ho => by omega⟩
  · simp only [if_neg hb]
    refine ⟨Nat.le_refl _, fun o ho => cell_of_heap (heap_grow (hwf b (by omega)))⟩

theorem Later.same (b : Option Box) (v : Option Value) (h : b = none → v = none) : Later b v b v := by
  unfold Later
  cases b with
  | none => exact h rfl
  | some b =>
    cases b with
    | cells cs => exact ⟨rfl, .inl ⟨cs, rfl⟩⟩
    | acc s hw => exact .inl ⟨hw, rfl, Nat.le_refl _, fun _ => rfl⟩
    | dead => exact ⟨rfl, rfl⟩

theorem Laters.append {g : List Value} {bx : List Box} (h : g.length = bx.length) (g' : List Value) (bx' : List Box) : Laters g bx (g ++ g') (bx ++ bx') := by
  intro i
  rcases Nat.lt_or_ge i bx.length with hi | hi
  · have e1 : (g ++ g')[i]? = g[i]? := List.getElem?_append_left (by omega)
    have e2 : (bx ++ bx')[i]? = bx[i]? := List.getElem?_append_left hi
    rw [e1, e2]
    exact Later.same _ _ (fun e => by rw [List.getElem?_eq_none_iff] at e; omega)
  · rw [List.getElem?_eq_none_iff.2 hi]
    simp only [Later]
    rw [List.getElem?_eq_none_iff]
    omega

theorem blk_append {g : List Value} {bx : List Box} (h : g.length = bx.length) (v : Value) (x : Box) (i : Nat) :
    blk (g ++ [v]) (bx ++ [x]) i = if i < bx.length then blk g bx i else if i = bx.length then blk [v] [x] 0 else none := by
  rcases Nat.lt_trichotomy i bx.length with hi | hi | hi
  · rw [if_pos hi]
    have e1 : (g ++ [v])[i]? = g[i]? := List.getElem?_append_left (by omega)
    have e2 : (bx ++ [x])[i]? = bx[i]? := List.getElem?_append_left hi
    unfold blk
    simp only [e1, e2]
  · subst hi
    rw [if_neg (by omega), if_pos rfl]
    have e1 : (g ++ [v])[bx.length]? = some v := by rw [← h, List.getElem?_append_right (Nat.le_refl _), Nat.sub_self]; rfl
    have e2 : (bx ++ [x])[bx.length]? = some x := by rw [List.getElem?_append_right (Nat.le_refl _), Nat.sub_self]; rfl
    unfold blk
    simp only [e1, e2]
    rfl
  · rw [if_neg (by omega), if_neg (by omega)]
    have e : (bx ++ [x])[i]? = none := by rw [List.getElem?_eq_none_iff]; simp; omega
    unfold blk
    simp only [e]

section
variable {G : Glob} {B : Base} {w : World} {ok : Nat → Nat} {g : List Value} {bx : List Box}

/-- A draw is nothing. -/
theorem Ext.drew (w : World) (ok : Nat → Nat) (n : Nat) : Ext w ok { w with drawn := n } ok := fun _ => ⟨Nat.le_refl _, fun _ _ => rfl⟩
theorem RelW.drew (h : RelW G B w ok g bx) (n : Nat) : RelW G B { w with drawn := n } ok g bx :=
  ⟨h.size, h.keep, h.ext, h.dom, h.wf, h.rest, fun gl => RepAt.ext (Ext.drew w ok n) _ _ _ (h.glob gl), h.ids,
    { len := h.boxes.len
      cells := fun i cs hi => by
        obtain ⟨b, arr, E, h1, h2, h3, h4⟩ := h.boxes.cells i cs hi
        exact ⟨b, arr, E, h1, h2, h3, RepSs.later (Ext.drew w ok n) (Laters.refl h.boxes.len) _ _ h4⟩
      acc := h.boxes.acc
      apart := h.boxes.apart }⟩

/-- A new settled row. -/
theorem RelW.row (h : RelW G B w ok g bx) (arr : Array Value) (E : TypeId) :
    RelW G B (grow w (.cells arr E)) (fun b => if b = w.heap.size then arr.size else ok b) g bx ∧
    Ext w ok (grow w (.cells arr E)) (fun b => if b = w.heap.size then arr.size else ok b) := by
  have hx := Ext.grow h.wf (.cells arr E) arr.size
  refine ⟨h.step hx (fun i hi => Later.same _ _ (fun e => by rw [List.getElem?_eq_none_iff] at e; omega)) (by simp) ?_ ?_ ?_ ⟨rfl, rfl, rfl⟩ h.len_le ?_, hx⟩
  · intro b hb _
    exact ⟨heap_grow hb, by simp only [if_neg (Nat.ne_of_lt hb)]⟩
  · intro i b hi
    exact .inl ⟨i, hi⟩
  · intro b hb
    by_cases e : b = w.heap.size
    · simp [e]
    · simp only [if_neg e] at hb
      have := h.wf b hb
      simp
      omega
  · exact
    { len := h.boxes.len
      cells := fun i cs hi => by
        obtain ⟨b, arr', E', h1, h2, h3, h4⟩ := h.boxes.cells i cs hi
        have hb := (Array.getElem?_eq_some_iff.1 h2).1
        exact ⟨b, arr', E', h1, (heap_grow hb).trans h2, by simp only [if_neg (Nat.ne_of_lt hb)]; exact h3, RepSs.later hx (Laters.refl h.boxes.len) _ _ h4⟩
      acc := fun i size hw hi => by
        obtain ⟨p, cap, h1, h2, h3⟩ := h.boxes.acc i size hw hi
        refine ⟨p, cap, h1, h2, h3.imp id ?_⟩
        rintro ⟨b, arr', E', e1, e2, e3, e4⟩
        have hb := (Array.getElem?_eq_some_iff.1 e2).1
        exact ⟨b, arr', E', e1, (heap_grow hb).trans e2, e3, by simp only [if_neg (Nat.ne_of_lt hb)]; exact e4⟩
      apart := h.boxes.apart }

/-- A new box. -/
theorem RelW.box (h : RelW G B w ok g bx) (l : List Value) (E : TypeId) {cs : List SV} (hc : RepSs w ok g bx cs l) :
    RelW G B (grow w (.cells l.toArray E)) ok (g ++ [.pointer (some (pl w.heap.size 0))]) (bx ++ [.cells cs]) ∧
    Ext w ok (grow w (.cells l.toArray E)) ok ∧ Laters g bx (g ++ [.pointer (some (pl w.heap.size 0))]) (bx ++ [.cells cs]) := by
  have h0 : ok w.heap.size = 0 := by
    apply Classical.byContradiction
    intro hh
    exact Nat.lt_irrefl _ (h.wf _ hh)
  have hx : Ext w ok (grow w (.cells l.toArray E)) ok := fun b => ⟨Nat.le_refl _, fun o ho => cell_of_heap (heap_grow (h.wf b (by omega)))⟩
  have hl := Laters.append h.boxes.len [.pointer (some (pl w.heap.size 0))] [.cells cs]
  have hb : blk [Value.pointer (some (pl w.heap.size 0))] [Box.cells cs] 0 = some w.heap.size := rfl
  refine ⟨h.step hx (fun i _ => hl i) (by simp) ?_ ?_ ?_ ⟨rfl, rfl, rfl⟩ h.len_le ?_, hx, hl⟩
  · intro b hb _
    exact ⟨heap_grow hb, rfl⟩
  · intro i b hi
    rw [blk_append h.boxes.len, hb] at hi
    split at hi
    · exact .inl ⟨i, hi⟩
    · split at hi
      · cases hi
        exact .inr (Nat.le_refl _)
      · cases hi
  · intro b hb
    have := h.wf b hb
    simp
    omega
  · exact
    { len := by simp [h.boxes.len]
      cells := fun i cs' hi => by
        rcases Nat.lt_trichotomy i bx.length with hlt | rfl | hgt
        · rw [List.getElem?_append_left hlt] at hi
          obtain ⟨b, arr', E', h1, h2, h3, h4⟩ := h.boxes.cells i cs' hi
          have hb := (Array.getElem?_eq_some_iff.1 h2).1
          have hlen := h.boxes.len
          exact ⟨b, arr', E', by rw [List.getElem?_append_left (by omega)]; exact h1, (heap_grow hb).trans h2, h3, RepSs.later hx hl _ _ h4⟩
        · rw [List.getElem?_append_right (Nat.le_refl _), Nat.sub_self] at hi
          cases hi
          exact ⟨w.heap.size, l.toArray, E, by rw [← h.boxes.len, List.getElem?_append_right (Nat.le_refl _), Nat.sub_self]; rfl, heap_grow_new, h0, RepSs.later hx hl _ _ hc⟩
        · rw [List.getElem?_eq_none_iff.2 (by simp; omega)] at hi
          cases hi
      acc := fun i size hw hi => by
        rcases Nat.lt_or_ge i bx.length with hlt | hge
        · rw [List.getElem?_append_left hlt] at hi
          obtain ⟨p, cap, h1, h2, h3⟩ := h.boxes.acc i size hw hi
          have hlen := h.boxes.len
          refine ⟨p, cap, by rw [List.getElem?_append_left (by omega)]; exact h1, h2, h3.imp id ?_⟩
          rintro ⟨b, arr', E', e1, e2, e3, e4⟩
          exact ⟨b, arr', E', e1, (heap_grow (Array.getElem?_eq_some_iff.1 e2).1).trans e2, e3, e4⟩
        · rw [List.getElem?_append_right hge] at hi
          cases hj : i - bx.length with
          | zero => rw [hj] at hi; cases hi
          | succ n => rw [hj] at hi; cases hi
      apart := by
        intro i j b hi hj
        rw [blk_append h.boxes.len, hb] at hi hj
        split at hi
        · split at hj
          · exact h.boxes.apart i j b hi hj
          · split at hj
            · cases hj
              exact (Nat.lt_irrefl _ (h.boxes.blk_lt hi)).elim
            · cases hj
        · split at hi
          · cases hi
            split at hj
            · exact (Nat.lt_irrefl _ (h.boxes.blk_lt hj)).elim
            · split at hj
              · omega
              · cases hj
          · cases hi }

end
end Go.Abs

namespace Go.Abs

theorem heap_setRow_ne {w : World} {g b : Nat} {cs : Array Value} (h : b ≠ g) : (w.setRow g cs).heap[b]? = w.heap[b]? := by
  unfold World.setRow
  simp only [Array.getElem?_modify]
  rw [if_neg (fun e => h e.symm)]

theorem RepSs.splice {w : World} {ok : Nat → Nat} {g : List Value} {bx : List Box} : ∀ {xs ys : List SV} {l m : List Value} (o : Nat), RepSs w ok g bx xs l → RepSs w ok g bx ys m → o + ys.length ≤ xs.length →
    RepSs w ok g bx (xs.take o ++ ys ++ xs.drop (o + ys.length)) (l.take o ++ m ++ l.drop (o + m.length)) := by
  have app : ∀ {xs ys : List SV} {l m : List Value}, RepSs w ok g bx xs l → RepSs w ok g bx ys m → RepSs w ok g bx (xs ++ ys) (l ++ m) := by
    intro xs
    induction xs with
    | nil => intro ys l m h1 h2; simp only [RepSs] at h1; subst h1; exact h2
    | cons x xs ih =>
      intro ys l m h1 h2
      simp only [RepSs] at h1
      obtain ⟨v, r, rfl, h3, h4⟩ := h1
      simp only [List.cons_append, RepSs]
      exact ⟨v, _, rfl, h3, ih h4 h2⟩
  have tk : ∀ {xs : List SV} {l : List Value} (n : Nat), RepSs w ok g bx xs l → RepSs w ok g bx (xs.take n) (l.take n) ∧ RepSs w ok g bx (xs.drop n) (l.drop n) := by
    intro xs
    induction xs with
    | nil => intro l n h; simp only [RepSs] at h; subst h; simp only [List.take_nil, List.drop_nil, RepSs, and_self]
    | cons x xs ih =>
      intro l n h
      simp only [RepSs] at h
      obtain ⟨v, r, rfl, h3, h4⟩ := h
      cases n with
      | zero => simp only [List.take_zero, List.drop_zero, RepSs]; exact ⟨trivial, v, r, rfl, h3, h4⟩
      | succ n =>
        obtain ⟨h5, h6⟩ := ih n h4
        simp only [List.take_succ_cons, List.drop_succ_cons, RepSs]
        exact ⟨⟨v, _, rfl, h3, h5⟩, h6⟩
  intro xs ys l m o h1 h2 _
  rw [← RepSs.length h2]
  exact app (app (tk o h1).1 h2) (tk _ h1).2

theorem RepSs.takeDrop {w : World} {ok : Nat → Nat} {g : List Value} {bx : List Box} : ∀ {xs : List SV} {l : List Value} (n : Nat), RepSs w ok g bx xs l → RepSs w ok g bx (xs.take n) (l.take n) ∧ RepSs w ok g bx (xs.drop n) (l.drop n)
  | [], l, n, h => by simp only [RepSs] at h; subst h; simp only [List.take_nil, List.drop_nil, RepSs, and_self]
  | x :: xs, l, 0, h => by
    simp only [RepSs] at h
    obtain ⟨v, r, rfl, h3, h4⟩ := h
    simp only [List.take_zero, List.drop_zero, RepSs]
    exact ⟨trivial, v, r, rfl, h3, h4⟩
  | x :: xs, l, n + 1, h => by
    simp only [RepSs] at h
    obtain ⟨v, r, rfl, h3, h4⟩ := h
    obtain ⟨h5, h6⟩ := RepSs.takeDrop n h4
    simp only [List.take_succ_cons, List.drop_succ_cons, RepSs]
    exact ⟨⟨v, _, rfl, h3, h5⟩, h6⟩

section
variable {G : Glob} {B : Base} {w : World} {ok : Nat → Nat} {g : List Value} {bx : List Box}

/-- A box is written. -/
theorem RelW.put (h : RelW G B w ok g bx) {i b : Nat} {cs : List SV} (hi : bx[i]? = some (.cells cs)) (hg : g[i]? = some (.pointer (some (pl b 0)))) {cs' : List SV} {l : List Value}
    (hc : RepSs w ok g bx cs' l) :
    RelW G B (w.setRow b l.toArray) ok g (bx.set i (.cells cs')) ∧ Ext w ok (w.setRow b l.toArray) ok ∧ Laters g bx g (bx.set i (.cells cs')) := by
  obtain ⟨b', arr, E, h1, h2, h3, h4⟩ := h.boxes.cells i cs hi
  rw [hg] at h1
  cases h1
  have hlt : i < bx.length := (List.getElem?_eq_some_iff.1 hi).1
  have hne : ∀ b2, b2 ≠ b → (w.setRow b l.toArray).heap[b2]? = w.heap[b2]? := fun b2 hb => heap_setRow_ne hb
  have hx : Ext w ok (w.setRow b l.toArray) ok := by
    intro b2
    refine ⟨Nat.le_refl _, fun o ho => cell_of_heap (hne b2 ?_)⟩
    rintro rfl
    omega
  have hblk : ∀ j, blk g (bx.set i (.cells cs')) j = blk g bx j := by
    intro j
    unfold blk
    by_cases hj : i = j
    · subst hj
      rw [List.getElem?_set_self hlt, hi, hg]
    · rw [List.getElem?_set_ne hj]
  have hl : Laters g bx g (bx.set i (.cells cs')) := by
    intro j
    by_cases hj : i = j
    · subst hj
      rw [List.getElem?_set_self hlt, hi]
      exact ⟨rfl, .inl ⟨_, rfl⟩⟩
    · rw [List.getElem?_set_ne hj]
      exact Laters.refl h.boxes.len j
  have hbi : blk g bx i = some b := by unfold blk; rw [hi, hg]
  refine ⟨h.step hx (fun i _ => hl i) (by simp) ?_ ?_ (fun b hb => by simpa using h.wf b hb) ⟨rfl, rfl, rfl⟩ h.len_le ?_, hx, hl⟩
  · intro b2 _ hb
    exact ⟨hne b2 (fun e => hb i (by rw [e]; exact hbi)), rfl⟩
  · intro j b2 hj
    rw [hblk] at hj
    exact .inl ⟨j, hj⟩
  · exact
    { len := by rw [List.length_set]; exact h.boxes.len
      cells := fun j cs2 hj => by
        by_cases e : i = j
        · subst e
          rw [List.getElem?_set_self hlt] at hj
          cases hj
          exact ⟨b, l.toArray, E, hg, setRow_heap w b arr l.toArray E _ h2, h3, RepSs.later hx hl _ _ hc⟩
        · rw [List.getElem?_set_ne e] at hj
          obtain ⟨b2, arr2, E2, e1, e2, e3, e4⟩ := h.boxes.cells j cs2 hj
          have hb2 : b2 ≠ b := by
            rintro rfl
            exact e (h.boxes.apart i j b2 hbi (by unfold blk; rw [hj, e1]))
          exact ⟨b2, arr2, E2, e1, (hne b2 hb2).trans e2, e3, RepSs.later hx hl _ _ e4⟩
      acc := fun j size hw hj => by
        by_cases e : i = j
        · subst e
          rw [List.getElem?_set_self hlt] at hj
          cases hj
        · rw [List.getElem?_set_ne e] at hj
          obtain ⟨p, cap, e1, e2, e3⟩ := h.boxes.acc j size hw hj
          refine ⟨p, cap, e1, e2, ?_⟩
          by_cases hc : cap = hw
          · exact .inl hc
          · refine .inr ?_
            rcases e3 with e3 | ⟨b2, arr2, E2, f1, f2, f3, f4⟩
            · exact (hc e3).elim
            · have hb2 : b2 ≠ b := by
                rintro rfl
                exact e (h.boxes.apart i j b2 hbi (by unfold blk; rw [hj, e1, f1]; simp only [if_neg hc]))
              exact ⟨b2, arr2, E2, f1, (hne b2 hb2).trans f2, f3, f4⟩
      apart := fun j k b2 hj hk => by
        rw [hblk] at hj hk
        exact h.boxes.apart j k b2 hj hk }

end
end Go.Abs

namespace Go.Abs

/-! Lists, reckoned to their ends before they are handed on. -/
section
variable {α R : Type}
def takeK (d : R) : Nat → List α → (List α → R) → R
  | 0, _, k => k []
  | _ + 1, [], _ => d
  | n + 1, x :: xs, k => takeK d n xs (fun l => k (x :: l))
def dropK (d : R) : Nat → List α → (List α → R) → R
  | 0, xs, k => k xs
  | _ + 1, [], _ => d
  | n + 1, _ :: xs, k => dropK d n xs k
def getK (d : R) : Nat → List α → (α → R) → R
  | _, [], _ => d
  | 0, x :: _, k => k x
  | n + 1, _ :: xs, k => getK d n xs k
def spliceK (d : R) : Nat → List α → List α → (List α → R) → R
  | 0, [], xs, k => k xs
  | 0, _ :: _, [], _ => d
  | 0, y :: ys, _ :: xs, k => spliceK d 0 ys xs (fun l => k (y :: l))
  | _ + 1, _, [], _ => d
  | n + 1, ys, x :: xs, k => spliceK d n ys xs (fun l => k (x :: l))
def setK (d : R) : Nat → α → List α → (List α → R) → R
  | _, _, [], _ => d
  | 0, y, _ :: xs, k => k (y :: xs)
  | n + 1, y, x :: xs, k => setK d n y xs (fun l => k (x :: l))
def snocK (n : Nat) (y : α) : List α → (Nat → List α → R) → R
  | [], k => k n [y]
  | x :: xs, k => snocK (n + 1) y xs (fun m l => k m (x :: l))
def mapK {β : Type} (f : α → β) : List α → (List β → R) → R
  | [], k => k []
  | x :: xs, k => mapK f xs (fun l => k (f x :: l))

theorem takeK_eq (d : R) : ∀ (n : Nat) (xs : List α) (k : List α → R), takeK d n xs k = if n ≤ xs.length then k (xs.take n) else d
  | 0, xs, k => by simp [takeK]
  | n + 1, [], k => by simp [takeK]
  | n + 1, x :: xs, k => by rw [takeK, takeK_eq d n xs]; simp
theorem dropK_eq (d : R) : ∀ (n : Nat) (xs : List α) (k : List α → R), dropK d n xs k = if n ≤ xs.length then k (xs.drop n) else d
  | 0, xs, k => by simp [dropK]
  | n + 1, [], k => by simp [dropK]
  | n + 1, x :: xs, k => by rw [dropK, dropK_eq d n xs]; simp
theorem getK_eq (d : R) : ∀ (n : Nat) (xs : List α) (k : α → R), getK d n xs k = match xs[n]? with | some x => k x | none => d
  | 0, [], k => rfl
  | n + 1, [], k => rfl
  | 0, x :: xs, k => rfl
  | n + 1, x :: xs, k => by rw [getK, getK_eq d n xs]; simp
theorem spliceK_eq (d : R) : ∀ (n : Nat) (ys xs : List α) (k : List α → R), spliceK d n ys xs k = if n + ys.length ≤ xs.length then k (xs.take n ++ ys ++ xs.drop (n + ys.length)) else d
  | 0, [], xs, k => by simp [spliceK]
  | 0, y :: ys, [], k => by simp [spliceK]
  | 0, y :: ys, x :: xs, k => by rw [spliceK, spliceK_eq d 0 ys xs]; simp
  | n + 1, ys, [], k => by
    rw [spliceK, if_neg (by simp <;> omega)]
  | n + 1, ys, x :: xs, k => by
    rw [spliceK, spliceK_eq d n ys xs]
    have e : n + 1 + ys.length = (n + ys.length) + 1 := by omega
    simp [e]
theorem setK_eq (d : R) : ∀ (n : Nat) (y : α) (xs : List α) (k : List α → R), setK d n y xs k = if n < xs.length then k (xs.set n y) else d
  | 0, y, [], k => by simp [setK]
  | n + 1, y, [], k => by simp [setK]
  | 0, y, x :: xs, k => by simp [setK]
  | n + 1, y, x :: xs, k => by rw [setK, setK_eq d n y xs]; simp
theorem snocK_eq (y : α) : ∀ (xs : List α) (n : Nat) (k : Nat → List α → R), snocK n y xs k = k (n + xs.length) (xs ++ [y])
  | [], n, k => rfl
  | x :: xs, n, k => by
    rw [snocK, snocK_eq y xs (n + 1)]
    have e : n + 1 + xs.length = n + (xs.length + 1) := by omega
    simp [e]
theorem mapK_eq {β : Type} (f : α → β) : ∀ (xs : List α) (k : List β → R), mapK f xs k = k (xs.map f)
  | [], k => rfl
  | x :: xs, k => by rw [mapK, mapK_eq f xs]; rfl
end

inductive Res where
  | ok (c : Prop) (x : SV) (bx : List Box)
  | none

/-- A value, reckoned. -/
def Res.val (bx : List Box) : SV → Res
  | .d x => .ok True (.d x) bx
  | .ptr i o => .ok True (.ptr i o) bx
  | .own i s r => .ok True (.own i s r) bx
  | .clo f cap => .ok True (.clo f cap) bx
  | .tup vs => .ok True (.tup vs) bx
  | .agg cs => .ok True (.agg cs) bx

theorem Res.val_ok {bx bx' : List Box} {x y : SV} {c : Prop} (h : Res.val bx x = .ok c y bx') : y = x ∧ bx' = bx := by
  cases x <;> (simp only [Res.val, Res.ok.injEq] at h; exact ⟨h.2.1.symm, h.2.2.symm⟩)

/-- Cells as data, if they all are. -/
def avsK {R : Type} (d : R) : List SV → (List AV → R) → R
  | [], k => k []
  | .d x :: xs, k => avsK d xs (fun l => k (x :: l))
  | .own _ s r :: xs, k => avsK d xs (fun l => k (.sl s r false :: l))
  | _ :: _, _ => d

theorem avsK_eq {R : Type} (d : R) : ∀ (xs : List SV) (k : List AV → R), avsK d xs k = d ∨ avsK d xs k = k (SV.avs xs)
  | [], k => .inr rfl
  | .d x :: xs, k => by
    rw [avsK]
    exact avsK_eq d xs _
  | .own _ s r :: xs, k => by
    rw [avsK]
    exact avsK_eq d xs _
  | .ptr _ _ :: _, k => .inl rfl
  | .clo _ _ :: _, k => .inl rfl
  | .tup _ :: _, k => .inl rfl
  | .agg _ :: _, k => .inl rfl

/-- Cells as one value. -/
def aggR (bx : List Box) (l : List SV) : Res := avsK (.ok True (.agg l) bx) l (fun as => .ok True (.d (.agg as)) bx)

/-- The cells of a value. -/
def cellsK (d : Res) : SV → (List SV → Res) → Res
  | .d (.agg cs), k => mapK SV.d cs k
  | .d (.val v), k => bif v.oneCell' then k [.d (.val v)] else d
  | .d (.sl s r f), k => k [.d (.sl s r f)]
  | .d (.ro cs), k => k [.d (.ro cs)]
  | .d (.ifc t x), k => k [.d (.ifc t x)]
  | .d (.tup _), _ => d
  | .d .junk, _ => d
  | .ptr i o, k => k [.ptr i o]
  | .own i s r, k => k [.own i s r]
  | .clo f c, k => k [.clo f c]
  | .tup _, _ => d
  | .agg cs, k => k cs

/-- One cell alone. -/
def SV.one : SV → Bool
  | .d (.val v) => v.oneCell'
  | .d (.sl ..) | .d (.ro _) | .d (.ifc ..) => true
  | .ptr .. | .own .. | .clo .. => true
  | _ => false

/-- A byte of a string. -/
def bt (s : ByteArray) (i : Int) : Int := ((s.data.toList.getD i.toNat 0).toNat : Int)

end Go.Abs

namespace Go.Abs

def bitsV (op : BinOp) (k : IntKind) (x y : Int) : Int :=
  let a := BitVec.ofInt k.bits x
  let b := BitVec.ofInt k.bits y
  match op with
  | .and => k.wrap (a &&& b).toNat
  | .or => k.wrap (a ||| b).toNat
  | .xor => k.wrap (a ^^^ b).toNat
  | _ => k.wrap (a &&& ~~~b).toNat

/-- Two integers of a kind. -/
def intR (bx : List Box) (op : BinOp) (k : IntKind) (a b : Int) : Res :=
  match op with
  | .add => .ok True (.d (.val (.int k (k.wrap (a + b))))) bx
  | .sub => .ok True (.d (.val (.int k (k.wrap (a - b))))) bx
  | .mul => .ok True (.d (.val (.int k (k.wrap (a * b))))) bx
  | .and => .ok True (.d (.val (.int k (bitsV .and k a b)))) bx
  | .or => .ok True (.d (.val (.int k (bitsV .or k a b)))) bx
  | .xor => .ok True (.d (.val (.int k (bitsV .xor k a b)))) bx
  | .andNot => .ok True (.d (.val (.int k (bitsV .andNot k a b)))) bx
  | .eql => .ok True (.d (.val (.bool (a == b)))) bx
  | .neq => .ok True (.d (.val (.bool (a != b)))) bx
  | .lss => .ok True (.d (.val (.bool (decide (a < b))))) bx
  | .leq => .ok True (.d (.val (.bool (decide (a ≤ b))))) bx
  | .gtr => .ok True (.d (.val (.bool (decide (a > b))))) bx
  | .geq => .ok True (.d (.val (.bool (decide (a ≥ b))))) bx
  | _ => .none

def strR (bx : List Box) (op : BinOp) (a b : ByteArray) : Res :=
  match op with
  | .add => .ok (((a.size + b.size : Nat) : Int) ≤ IntKind.i64.max) (.d (.val (.string (a ++ b)))) bx
  | .eql => .ok True (.d (.val (.bool (a.toList == b.toList)))) bx
  | .neq => .ok True (.d (.val (.bool (!(a.toList == b.toList))))) bx
  | _ => .none

/-- The parts of a struct. -/
def fillK (d : Res) (fs : List (Nat × TypeId)) (T : Tab) (G : Glob) (fr : Fr) : List (Nat × Operand) → List SV → (List SV → Res) → Res
  | [], cs, k => k cs
  | (i, x) :: ps, cs, k => getK d i fs fun f => match f with
    | (off, ft) => match T.ti ft with
      | none => d
      | some te => cellsK d (ev G fr x) fun ys => bif Nat.beq ys.length te.size then spliceK d off ys cs fun cs' => fillK d fs T G fr ps cs' k else d

/-- The rows of a slice that is written out. -/
def rowsK (d : Res) (G : Glob) (fr : Fr) (size : Nat) : Nat → List (Nat × Operand) → (List (List AV) → Res) → Res
  | _, [], k => k []
  | n, (i, x) :: ps, k => bif Nat.beq i n then cellsK d (ev G fr x) fun ys => bif Nat.beq ys.length size then avsK d ys fun as => rowsK d G fr size (n + 1) ps fun rs => k (as :: rs) else d else d

/-- A nil slice, by its type. -/
def nilS (T : Tab) (d : TD) (x : SV) : SV :=
  match d with
  | .slice e => match x with
    | .d (.val (.slice none 0 0)) => (match T.ti e with | some ⟨_, size, _, _⟩ => .d (.sl size [] true) | none => x)
    | x => x
  | _ => x

/-- An operation that is no call: what must hold, what it gives, the boxes behind it. hint: the row that an index finds. -/
def evalO (G : Glob) (T : Tab) (hint : List AV) (op : Op) (ty : TypeId) (fr : Fr) (bx : List Box) : Res :=
  match op with
  | .move x | .assign x => match T.ti ty with
    | some ⟨d, _, _, _⟩ => Res.val bx (nilS T d (ev G fr x))
    | none => Res.val bx (ev G fr x)
  | .pick c a b => match ev G fr c with
    | .d (.val (.bool true)) => Res.val bx (ev G fr a)
    | .d (.val (.bool false)) => Res.val bx (ev G fr b)
    | _ => .none
  | .load t a => match T.ti t with
    | some ⟨d, size, _, _⟩ => (match ev G fr a with
      | .d (.ro cs) => bif d.isAgg then takeK .none size cs (fun l => .ok True (.d (.agg l)) bx) else (match cs with | x :: _ => .ok True (.d x) bx | [] => .none)
      | .ptr id off => getK .none id bx fun b => match b with
        | .cells cs => dropK .none off cs fun cs => bif d.isAgg then takeK .none size cs (fun l => aggR bx l) else (match cs with | x :: _ => Res.val bx x | [] => .none)
        | _ => .none
      | _ => .none)
    | none => .none
  | .nilCheck x => match ev G fr x with
    | .ptr id off => .ok True (.ptr id off) bx
    | .d (.ro cs) => .ok True (.d (.ro cs)) bx
    | .clo f cap => .ok True (.clo f cap) bx
    | _ => .none
  | .fieldAddr s x f => match T.ti s with
    | some ⟨.struct fs, _, _, _⟩ => getK .none f fs fun p => match p with
      | (off, ft) => (match T.ti ft with
        | some ⟨_, _ + 1, _, _⟩ => (match ev G fr x with
          | .ptr id o => .ok True (.ptr id (o + off)) bx
          | .d (.ro cs) => dropK .none off cs fun l => .ok True (.d (.ro l)) bx
          | _ => .none)
        | _ => .none)
    | _ => .none
  | .field s x f => match T.ti s with
    | some ⟨.struct fs, _, _, _⟩ => getK .none f fs fun p => match p with
      | (off, ft) => (match T.ti ft with
        | some ⟨d, size, _, _⟩ => (match ev G fr x with
          | .d (.agg cs) => dropK .none off cs fun cs => bif d.isAgg then takeK .none size cs (fun l => .ok True (.d (.agg l)) bx) else (match cs with | y :: _ => .ok True (.d y) bx | [] => .none)
          | _ => .none)
        | none => .none)
    | _ => .none
  | .index t x i => match T.ti t with
    | some ⟨.str, _, _, _⟩ => (match ev G fr x, ev G fr i with
      | .d (.val (.string s)), .d (.val (.int _ n)) => .ok (0 ≤ n ∧ n < s.size) (.d (.val (.int .u8 (bt s n)))) bx
      | _, _ => .none)
    | _ => .none
  | .indexAddr t x i => match T.ti t with
    | some ⟨.slice e, _, _, _⟩ => (match T.ti e with
      | some ⟨_, size, _, _⟩ => (match ev G fr x, ev G fr i with
        | .d (.sl s rows _), .d (.val (.int _ n)) => .ok (s = size ∧ 0 ≤ n ∧ rows[n.toNat]? = some hint) (.d (.ro hint)) bx
        | .own _ s rows, .d (.val (.int _ n)) => .ok (s = size ∧ 0 ≤ n ∧ rows[n.toNat]? = some hint) (.d (.ro hint)) bx
        | _, _ => .none)
      | none => .none)
    | _ => .none
  | .binOp o _ x y _ => match ev G fr x, ev G fr y with
    | .d (.val (.int k a)), .d (.val (.int k' b)) => bif decide (k = k') then intR bx o k a b else .none
    | .d (.val (.string a)), .d (.val (.string b)) => strR bx o a b
    | _, _ => .none
  | .unOp .not _ x => match ev G fr x with
    | .d (.val (.bool b)) => .ok True (.d (.val (.bool (!b)))) bx
    | _ => .none
  | .convert s t x => match T.ti s, T.ti t with
    | some ⟨.int _, _, _, _⟩, some ⟨.int k, _, _, _⟩ => (match ev G fr x with
      | .d (.val (.int _ n)) => .ok True (.d (.val (.int k (k.wrap n)))) bx
      | _ => .none)
    | _, _ => .none
  | .makeInterface t x => match T.ti t with
    | some ⟨.iface, _, _, _⟩ => .none
    | some _ => (match ev G fr x with
      | .d y => .ok True (.d (.ifc t y)) bx
      | _ => .none)
    | none => .none
  | .makeFunc (.func f) first captured => match first.toList with
    | [] => mapK (ev G fr) captured.toList fun l => .ok True (.clo f l) bx
    | _ => .none
  | .build t parts => match T.ti t with
    | some ⟨.struct fs, _, _, zero⟩ => bif fs.all (fun p => (T.ti p.2).isSome) then mapK SV.d zero fun cs => fillK .none fs T G fr parts.toList cs fun l => aggR bx l else .none
    | _ => .none
  | .buildSlice t len parts => match T.ti t with
    | some ⟨.slice e, _, _, _⟩ => (match T.ti e with
      | some ⟨_, size, _, _⟩ => bif Nat.beq parts.toList.length len && Nat.ble (len * size) (2 ^ 24) then rowsK .none G fr size 0 parts.toList fun rs => .ok True (.d (.sl size rs true)) bx else .none
      | none => .none)
    | _ => .none
  | .slice t x lo hi none => match T.ti t with
    | some ⟨.str, _, _, _⟩ => (match ev G fr x with
      | .d (.val (.string s)) => (match lo, hi with
        | none, none => .ok True (.d (.val (.string (s.extract 0 s.size)))) bx
        | some l, none => (match ev G fr l with
          | .d (.val (.int _ l)) => .ok (0 ≤ l ∧ l ≤ s.size) (.d (.val (.string (s.extract l.toNat s.size)))) bx
          | _ => .none)
        | none, some h => (match ev G fr h with
          | .d (.val (.int _ h)) => .ok (0 ≤ h ∧ h ≤ s.size) (.d (.val (.string (s.extract 0 h.toNat)))) bx
          | _ => .none)
        | some l, some h => (match ev G fr l, ev G fr h with
          | .d (.val (.int _ l)), .d (.val (.int _ h)) => .ok (0 ≤ l ∧ l ≤ h ∧ h ≤ s.size) (.d (.val (.string (s.extract l.toNat h.toNat)))) bx
          | _, _ => .none))
      | _ => .none)
    | _ => .none
  | .extract x i => match ev G fr x with
    | .tup vs => getK .none i vs fun y => Res.val bx y
    | .d (.tup vs) => getK .none i vs fun y => .ok True (.d y) bx
    | _ => .none
  | .call ⟨.builtin .len, args, ts⟩ => match args.toList, ts.toList with
    | [x], [t] => (match T.ti t with
      | some ⟨.str, _, _, _⟩ => (match ev G fr x with
        | .d (.val (.string s)) => .ok True (.d (.val (.int .i64 s.size))) bx
        | _ => .none)
      | some ⟨.slice _, _, _, _⟩ => (match ev G fr x with
        | .d (.sl _ rows _) => .ok True (.d (.val (.int .i64 rows.length))) bx
        | .own _ _ rows => .ok True (.d (.val (.int .i64 rows.length))) bx
        | _ => .none)
      | _ => .none)
    | _, _ => .none
  | .alloc t => match T.ti t with
    | some ⟨_, _, _, zero⟩ => mapK SV.d zero fun cs => snocK 0 (.cells cs) bx fun n bx' => .ok True (.ptr n 0) bx'
    | none => .none
  | .box _ x => cellsK .none (ev G fr x) fun cs => snocK 0 (.cells cs) bx fun n bx' => .ok True (.ptr n 0) bx'
  | .store t a x => match T.ti t with
    | some ⟨d, size, _, _⟩ => (match ev G fr a with
      | .ptr id off => getK .none id bx fun b => match b with
        | .cells cs => cellsK .none (nilS T d (ev G fr x)) fun ys => bif Nat.beq ys.length size && ys.all SV.one then spliceK .none off ys cs fun cs' => setK .none id (.cells cs') bx fun bx' => .ok True (.d .junk) bx' else .none
        | _ => .none
      | _ => .none)
    | none => .none
  | _ => .none

end Go.Abs

namespace Go.Abs
open Go

section
variable {P : Program} {T : Tab} (hT : T.Ok P)
 include hT
theorem run_size {t : TypeId} {ti : TI} (h : T.ti t = some ti) (w : World) : (sizeOf t).run P w = .ok ti.size w := by
  obtain ⟨i, z, h1, h2, _⟩ := (Tab.ti_ok hT h).info
  simp [sizeOf, typeInfo, h1, h2]
theorem run_bytes {t : TypeId} {ti : TI} (h : T.ti t = some ti) (w : World) : ∃ i, (typeInfo t).run P w = .ok i w ∧ i.bytes = ti.bytes := by
  obtain ⟨i, z, h1, h2, h3, _⟩ := (Tab.ti_ok hT h).info
  exact ⟨i, by simp [typeInfo, h1], h3⟩
theorem run_zero {t : TypeId} {ti : TI} (h : T.ti t = some ti) (w : World) : ∃ z, (zeroValue t).run P w = .ok z w ∧ z.cells.toList = ti.zero.map zval := by
  obtain ⟨i, z, h1, _, _, h2, h3⟩ := (Tab.ti_ok hT h).info
  exact ⟨z, by simp [zeroValue, typeInfo, h1, h2], h3⟩
theorem run_under {t : TypeId} {ti : TI} (h : T.ti t = some ti) (w : World) : ∃ d, (underlying t).run P w = .ok d w ∧ td d = ti.d := by
  obtain ⟨d, h1, h2⟩ := (Tab.ti_ok hT h).under
  exact ⟨d, by simp [underlying, h1], h2⟩
theorem run_isAgg {t : TypeId} {ti : TI} (h : T.ti t = some ti) (w : World) : (isAgg t).run P w = .ok ti.d.isAgg w := by
  obtain ⟨d, h1, h2⟩ := run_under hT h w
  unfold isAgg
  simp only [Sem.run_bind, h1, Result.andThen_ok]
  rw [← h2]
  cases d <;> rfl
end

theorem td_slice {d : TypeDesc} {e : TypeId} (h : td d = .slice e) : d = .slice e := by
  cases d <;> simp only [td, TD.slice.injEq, reduceCtorEq] at h
  rw [h]
theorem td_str {d : TypeDesc} (h : td d = .str) : d = .string := by
  cases d <;> simp only [td, reduceCtorEq] at h
  rfl
theorem td_int {d : TypeDesc} {k : IntKind} (h : td d = .int k) : d = .int k := by
  cases d <;> simp only [td, TD.int.injEq, reduceCtorEq] at h
  rw [h]
theorem td_struct {d : TypeDesc} {fs : List (Nat × TypeId)} (h : td d = .struct fs) : ∃ f, d = .struct f ∧ fs = f.toList.map fun x => (x.offset, x.type) := by
  cases d <;> simp only [td, TD.struct.injEq, reduceCtorEq] at h
  exact ⟨_, rfl, h.symm⟩

/-- What an operation that is no call does. -/
def Runs (r : Result Next) (v : Value) (w : World) : Prop := r = .ok (.value v) w ∨ r = .ok .skip w ∧ v = undef

def OpS (P : Program) (G : Glob) (o : Oper) (fr : Fr) (bx : List Box) (x : SV) (bx' : List Box) : Prop :=
  ∀ B w a ok g, RelW G B w ok g bx → (∀ y ∈ o.op.operands, RepS w ok g bx (ev G fr y) (Act.eval a y)) →
    ∃ v w' ok' g', Runs ((execOp a.eval o).run P w) v w' ∧ RelW G B w' ok' g' bx' ∧ Ext w ok w' ok' ∧ Laters g bx g' bx' ∧ RepS w' ok' g' bx' x v

/-- An operation that leaves the world alone. -/
theorem OpS.pure {P : Program} {G : Glob} {o : Oper} {fr : Fr} {bx : List Box} {x : SV}
    (h : ∀ B w a ok g, RelW G B w ok g bx → (∀ y ∈ o.op.operands, RepS w ok g bx (ev G fr y) (Act.eval a y)) → ∃ v, (execOp a.eval o).run P w = .ok (.value v) w ∧ RepS w ok g bx x v) :
    OpS P G o fr bx x bx := by
  intro B w a ok g hr ho
  obtain ⟨v, h1, h2⟩ := h B w a ok g hr ho
  exact ⟨v, w, ok, g, .inl h1, hr, Ext.refl _ _, Laters.refl hr.boxes.len, h2⟩

theorem nilS_rep {P : Program} {T : Tab} {w : World} {ok : Nat → Nat} {g : List Value} {bx : List Box} {d : TD} {x : SV} {v : Value} (_ : T.Ok P) (h : RepS w ok g bx x v) :
    RepS w ok g bx (nilS T d x) v := by
  unfold nilS
  split
  · split
    · split
      · simp only [RepS, Rep] at h ⊢
        exact ⟨none, 0, h, Nat.le_refl _, fun _ => rfl, .inl trivial⟩
      · exact h
    · exact h
  · exact h

section
variable {P : Program} {T : Tab} {G : Glob} {dst : Option Tmp} {ty : TypeId} {pos : String} {after : Array Edge} {guard : Option (Nat × Bool)} {fr : Fr} {bx bx' : List Box} {x : SV} {hint : List AV} {c : Prop}

theorem sound_move (hT : T.Ok P) {y : Operand} (h : evalO G T hint (.move y) ty fr bx = .ok c x bx') : OpS P G ⟨dst, .move y, ty, pos, after, guard⟩ fr bx x bx' := by
  simp only [evalO] at h
  split at h <;> obtain ⟨rfl, rfl⟩ := Res.val_ok h
  · exact OpS.pure fun B w a ok g hr ho => ⟨a.eval y, rfl, nilS_rep hT (ho y (by simp [Op.operands]))⟩
  · exact OpS.pure fun B w a ok g hr ho => ⟨a.eval y, rfl, ho y (by simp [Op.operands])⟩

theorem sound_assign (hT : T.Ok P) {y : Operand} (h : evalO G T hint (.assign y) ty fr bx = .ok c x bx') : OpS P G ⟨dst, .assign y, ty, pos, after, guard⟩ fr bx x bx' := by
  simp only [evalO] at h
  split at h <;> obtain ⟨rfl, rfl⟩ := Res.val_ok h
  · exact OpS.pure fun B w a ok g hr ho => ⟨a.eval y, rfl, nilS_rep hT (ho y (by simp [Op.operands]))⟩
  · exact OpS.pure fun B w a ok g hr ho => ⟨a.eval y, rfl, ho y (by simp [Op.operands])⟩

theorem sound_pick {y p q : Operand} (h : evalO G T hint (.pick y p q) ty fr bx = .ok c x bx') : OpS P G ⟨dst, .pick y p q, ty, pos, after, guard⟩ fr bx x bx' := by
  simp only [evalO] at h
  split at h
  · rename_i hb
    obtain ⟨rfl, rfl⟩ := Res.val_ok h
    refine OpS.pure fun B w a ok g hr ho => ?_
    have h1 := ho y (by simp [Op.operands])
    rw [hb] at h1
    simp only [RepS, Rep] at h1
    exact ⟨a.eval p, by simp [execOp, h1, asBool], ho p (by simp [Op.operands])⟩
  · rename_i hb
    obtain ⟨rfl, rfl⟩ := Res.val_ok h
    refine OpS.pure fun B w a ok g hr ho => ?_
    have h1 := ho y (by simp [Op.operands])
    rw [hb] at h1
    simp only [RepS, Rep] at h1
    exact ⟨a.eval q, by simp [execOp, h1, asBool], ho q (by simp [Op.operands])⟩
  · cases h

theorem sound_nilCheck {y : Operand} (h : evalO G T hint (.nilCheck y) ty fr bx = .ok c x bx') : OpS P G ⟨dst, .nilCheck y, ty, pos, after, guard⟩ fr bx x bx' := by
  simp only [evalO] at h
  split at h
  · rename_i id off hb
    cases h
    refine OpS.pure fun B w a ok g hr ho => ?_
    have h1 := ho y (by simp [Op.operands])
    rw [hb] at h1
    refine ⟨a.eval y, ?_, h1⟩
    simp only [RepS] at h1
    obtain ⟨_, b, _, h2⟩ := h1
    simp [execOp, h2]
  · rename_i cs hb
    cases h
    refine OpS.pure fun B w a ok g hr ho => ?_
    have h1 := ho y (by simp [Op.operands])
    rw [hb] at h1
    refine ⟨a.eval y, ?_, h1⟩
    simp only [RepS, Rep] at h1
    obtain ⟨b, o, h2, _⟩ := h1
    simp [execOp, h2]
  · rename_i f cap hb
    cases h
    refine OpS.pure fun B w a ok g hr ho => ?_
    have h1 := ho y (by simp [Op.operands])
    rw [hb] at h1
    refine ⟨a.eval y, ?_, h1⟩
    simp only [RepS] at h1
    obtain ⟨l, h2, _⟩ := h1
    simp [execOp, h2]
  · cases h

theorem add_pl (b o n : Nat) : (pl b o).add n = pl b (o + n) := by
  unfold Addr.add
  split
  · rename_i h
    rw [h]
    rfl
  · rfl

theorem RepAt.drop {w : World} {ok : Nat → Nat} : ∀ {cs : List AV} {b o : Nat} (n : Nat), RepAt w ok cs b o → RepAt w ok (cs.drop n) b (o + n)
  | _, _, _, 0, h => h
  | [], _, _, n + 1, _ => by simp only [List.drop_nil, RepAt]
  | x :: cs, b, o, n + 1, h => by
    simp only [RepAt] at h
    have := RepAt.drop n h.2.2
    simp only [List.drop_succ_cons]
    rw [show o + (n + 1) = o + 1 + n by omega]
    exact this

theorem RepAt.load {w : World} {ok : Nat → Nat} : ∀ {cs : List AV} {b o : Nat} (n : Nat), RepAt w ok cs b o → n ≤ cs.length →
    ∃ l : List Value, l.length = n ∧ (∀ j v, l[j]? = some v → w.cell? ((pl b o).add j) = some v) ∧ Reps w ok (cs.take n) l
  | _, _, _, 0, _, _ => ⟨[], rfl, by simp, by simp only [List.take_zero, Reps]⟩
  | [], _, _, n + 1, _, hn => by simp at hn
  | x :: cs, b, o, n + 1, h, hn => by
    simp only [RepAt] at h
    obtain ⟨_, ⟨v, h1, h2⟩, h3⟩ := h
    obtain ⟨l, h4, h5, h6⟩ := RepAt.load n h3 (by simp at hn; exact hn)
    refine ⟨v :: l, by simp [h4], ?_, ?_⟩
    · intro j u hu
      cases j with
      | zero =>
        simp only [List.getElem?_cons_zero, Option.some.injEq] at hu
        subst hu
        rw [add_pl]
        exact h1
      | succ j =>
        simp only [List.getElem?_cons_succ] at hu
        have := h5 j u hu
        rw [add_pl] at this ⊢
        rw [show o + (j + 1) = o + 1 + j by omega]
        exact this
    · simp only [List.take_succ_cons, Reps]
      exact ⟨v, l, rfl, h2, h6⟩

theorem cell_at {w : World} {b o : Nat} {arr : Array Value} {E : TypeId} {fz : Nat × Nat} (h : w.heap[b]? = some (.cells arr E fz)) : w.cell? (pl b o) = arr[o]? := by
  simp [World.cell?, h]

theorem aggR_ok {w : World} {ok : Nat → Nat} {g : List Value} {l : List SV} {vs : List Value} (h : aggR bx l = .ok c x bx') (hr : RepSs w ok g bx l vs) :
    bx' = bx ∧ RepS w ok g bx x (.agg vs.toArray) := by
  unfold aggR at h
  rcases avsK_eq (Res.ok True (.agg l) bx) l (fun as => .ok True (.d (.agg as)) bx) with e | e <;> rw [e] at h <;> cases h
  · exact ⟨rfl, by simp only [RepS]; exact ⟨vs, rfl, hr⟩⟩
  · exact ⟨rfl, by simp only [RepS, Rep]; exact ⟨vs, rfl, RepSs.av l vs hr⟩⟩

theorem load_pure (hT : T.Ok P) {t : TypeId} {y : Operand} (h : evalO G T hint (.load t y) ty fr bx = .ok c x bx') : bx' = bx ∧ ∀ (B : Base) w a ok g, RelW G B w ok g bx → RepS w ok g bx (ev G fr y) (Act.eval a y) →
    ∃ v, (execOp a.eval ⟨dst, .load t y, ty, pos, after, guard⟩).run P w = .ok (.value v) w ∧ RepS w ok g bx x v := by
  simp only [evalO] at h
  split at h
  · rename_i d size bytes zero ht
    split at h
    · rename_i cs hy
      cases hd : d.isAgg with
      | true =>
        rw [hd, cond_true, takeK_eq] at h
        split at h
        · rename_i hn
          cases h
          refine ⟨rfl, fun B w a ok g hr ho => ?_⟩
          have h1 := ho
          rw [hy] at h1
          simp only [RepS, Rep] at h1
          obtain ⟨b, o, e1, e2⟩ := h1
          obtain ⟨l, e3, e4, e5⟩ := e2.load size hn
          refine ⟨.agg l.toArray, ?_, by simp only [RepS, Rep]; exact ⟨l, rfl, e5⟩⟩
          have e6 := run_loadCells_list (P := P) w (pl b o) l e4
          rw [e3] at e6
          simp [execOp, Instr.loadAt, e1, Instr.sureAddr, loadVar, run_isAgg hT ht, run_size hT ht, hd, e6]
        · cases h
      | false =>
        rw [hd, cond_false] at h
        split at h
        · rename_i z cs
          cases h
          refine ⟨rfl, fun B w a ok g hr ho => ?_⟩
          have h1 := ho
          rw [hy] at h1
          simp only [RepS, Rep, RepAt] at h1
          obtain ⟨b, o, e1, _, ⟨v, e2, e3⟩, _⟩ := h1
          exact ⟨v, by simp [execOp, Instr.loadAt, e1, Instr.sureAddr, loadVar, run_isAgg hT ht, hd, e2], by simp only [RepS]; exact e3⟩
        · cases h
    · rename_i id off hy
      rw [getK_eq] at h
      split at h
      · rename_i bxi hb
        split at h
        · rename_i cs
          rw [dropK_eq] at h
          split at h
          · rename_i hoff
            cases hd : d.isAgg with
            | true =>
              rw [hd, cond_true, takeK_eq] at h
              split at h
              · rename_i hn
                have hbx : bx' = bx := by
                  unfold aggR at h
                  rcases avsK_eq (Res.ok True (.agg ((cs.drop off).take size)) bx) ((cs.drop off).take size) (fun as => .ok True (.d (.agg as)) bx) with e | e <;> rw [e] at h <;> cases h <;> rfl
                subst hbx
                refine ⟨rfl, fun B w a ok g hr ho => ?_⟩
                have h1 := ho
                rw [hy] at h1
                simp only [RepS] at h1
                obtain ⟨_, b, e1, e2⟩ := h1
                obtain ⟨b', arr, E, f1, f2, f3, f4⟩ := hr.boxes.cells id cs hb
                rw [e1] at f1
                cases f1
                have f5 := ((f4.takeDrop off).2.takeDrop size).1
                have f6 := (aggR_ok h f5).2
                refine ⟨_, ?_, f6⟩
                have f7 := f4.length
                have e6 := run_loadCells_list (P := P) w (pl b off) ((arr.toList.drop off).take size) (by
                  intro j v hv
                  rw [add_pl, cell_at f2]
                  rw [List.getElem?_take] at hv
                  split at hv
                  · rw [List.getElem?_drop] at hv
                    simpa using hv
                  · cases hv)
                have e7 : ((arr.toList.drop off).take size).length = size := by
                  rw [List.length_drop] at hn
                  rw [List.length_take, List.length_drop]
                  omega
                rw [e7] at e6
                simp [execOp, Instr.loadAt, e2, Instr.sureAddr, loadVar, run_isAgg hT ht, run_size hT ht, hd, e6]
              · cases h
            | false =>
              rw [hd, cond_false] at h
              split at h
              · rename_i z zs hz
                obtain ⟨rfl, rfl⟩ := Res.val_ok h
                refine ⟨rfl, fun B w a ok g hr ho => ?_⟩
                have h1 := ho
                rw [hy] at h1
                simp only [RepS] at h1
                obtain ⟨_, b, e1, e2⟩ := h1
                obtain ⟨b', arr, E, f1, f2, f3, f4⟩ := hr.boxes.cells id cs hb
                rw [e1] at f1
                cases f1
                have f5 : cs[off]? = some x := by
                  have := List.getElem?_drop (xs := cs) (i := off) (j := 0)
                  rw [hz] at this
                  simpa using this.symm
                obtain ⟨v, f6, f7⟩ := f4.get f5
                refine ⟨v, ?_, f7⟩
                have e3 : w.cell? (pl b off) = some v := by rw [cell_at f2]; simpa using f6
                simp [execOp, Instr.loadAt, e2, Instr.sureAddr, loadVar, run_isAgg hT ht, hd, e3]
              · cases h
          · cases h
        · cases h
      · cases h
    · cases h
  · cases h

theorem sound_load (hT : T.Ok P) {t : TypeId} {y : Operand} (h : evalO G T hint (.load t y) ty fr bx = .ok c x bx') : OpS P G ⟨dst, .load t y, ty, pos, after, guard⟩ fr bx x bx' := by
  obtain ⟨rfl, h2⟩ := load_pure (dst := dst) (pos := pos) (after := after) (guard := guard) hT h
  exact OpS.pure fun B w a ok g hr ho => h2 B w a ok g hr (ho y (by simp [Op.operands]))

theorem struct_field (hT : T.Ok P) {s : TypeId} {fs : List (Nat × TypeId)} {size bytes : Nat} {zero : List AV} (hs : T.ti s = some ⟨.struct fs, size, bytes, zero⟩) {i : Nat} {off : Nat} {ft : TypeId} (hf : fs[i]? = some (off, ft)) :
    ∃ (f : Array Field) (x : Field), (∀ w, (underlying s).run P w = .ok (.struct f) w) ∧ f[i]? = some x ∧ x.offset = off ∧ x.type = ft := by
  obtain ⟨d, h1, h2⟩ := (Tab.ti_ok hT hs).under
  obtain ⟨f, rfl, h3⟩ := td_struct h2
  rw [h3, List.getElem?_map] at hf
  cases hx : f.toList[i]? with
  | none => rw [hx] at hf; cases hf
  | some x =>
    rw [hx] at hf
    simp only [Option.map_some, Option.some.injEq, Prod.mk.injEq] at hf
    exact ⟨f, x, fun w => by simp [underlying, h1], by simpa using hx, hf.1, hf.2⟩

theorem sound_fieldAddr (hT : T.Ok P) {s : TypeId} {y : Operand} {i : Nat} (h : evalO G T hint (.fieldAddr s y i) ty fr bx = .ok c x bx') : OpS P G ⟨dst, .fieldAddr s y i, ty, pos, after, guard⟩ fr bx x bx' := by
  simp only [evalO] at h
  split at h
  · rename_i fs size bytes zero hs
    rw [getK_eq] at h
    split at h
    · rename_i p hp
      obtain ⟨off, ft⟩ := p
      obtain ⟨f, q, q1, q2, q3, q4⟩ := struct_field hT hs hp
      simp only at h
      split at h
      · rename_i d' n b' z' hft
        have hsz : ∀ w, (sizeOf q.type).run P w = .ok (n + 1) w := fun w => by rw [q4]; exact run_size hT hft w
        split at h
        · rename_i id o hy
          cases h
          refine OpS.pure fun B w a ok g hr ho => ?_
          have h1 := ho y (by simp [Op.operands])
          rw [hy] at h1
          simp only [RepS] at h1
          obtain ⟨h0, b, e1, e2⟩ := h1
          refine ⟨.pointer (some (pl b (o + off))), ?_, by simp only [RepS]; exact ⟨h0, b, e1, rfl⟩⟩
          simp [execOp, Instr.fieldAt, q1, q2, e2, Instr.sureAddr, fieldPlace, q3, hsz, add_pl]
        · rename_i cs hy
          rw [dropK_eq] at h
          split at h
          · cases h
            refine OpS.pure fun B w a ok g hr ho => ?_
            have h1 := ho y (by simp [Op.operands])
            rw [hy] at h1
            simp only [RepS, Rep] at h1
            obtain ⟨b, o, e1, e2⟩ := h1
            refine ⟨.pointer (some (pl b (o + off))), ?_, by simp only [RepS, Rep]; exact ⟨b, _, rfl, e2.drop off⟩⟩
            simp [execOp, Instr.fieldAt, q1, q2, e1, Instr.sureAddr, fieldPlace, q3, hsz, add_pl]
          · cases h
        · cases h
      · cases h
    · cases h
  · cases h

theorem Reps.takeDrop {w : World} {ok : Nat → Nat} : ∀ {xs : List AV} {l : List Value} (n : Nat), Reps w ok xs l → Reps w ok (xs.take n) (l.take n) ∧ Reps w ok (xs.drop n) (l.drop n)
  | [], l, n, h => by simp only [Reps] at h; subst h; simp only [List.take_nil, List.drop_nil, Reps, and_self]
  | x :: xs, l, 0, h => by
    simp only [Reps] at h
    obtain ⟨v, r, rfl, h3, h4⟩ := h
    simp only [List.take_zero, List.drop_zero, Reps]
    exact ⟨trivial, v, r, rfl, h3, h4⟩
  | x :: xs, l, n + 1, h => by
    simp only [Reps] at h
    obtain ⟨v, r, rfl, h3, h4⟩ := h
    obtain ⟨h5, h6⟩ := Reps.takeDrop n h4
    simp only [List.take_succ_cons, List.drop_succ_cons, Reps]
    exact ⟨⟨v, _, rfl, h3, h5⟩, h6⟩

theorem sound_field (hT : T.Ok P) {s : TypeId} {y : Operand} {i : Nat} (h : evalO G T hint (.field s y i) ty fr bx = .ok c x bx') : OpS P G ⟨dst, .field s y i, ty, pos, after, guard⟩ fr bx x bx' := by
  simp only [evalO] at h
  split at h
  · rename_i fs size bytes zero hs
    rw [getK_eq] at h
    split at h
    · rename_i p hp
      obtain ⟨off, ft⟩ := p
      obtain ⟨f, q, q1, q2, q3, q4⟩ := struct_field hT hs hp
      simp only at h
      split at h
      · rename_i d' n b' z' hft
        have hsz : ∀ w, (sizeOf q.type).run P w = .ok n w := fun w => by rw [q4]; exact run_size hT hft w
        have hag : ∀ w, (isAgg q.type).run P w = .ok d'.isAgg w := fun w => by rw [q4]; exact run_isAgg hT hft w
        split at h
        · rename_i cs hy
          rw [dropK_eq] at h
          split at h
          · rename_i hoff
            cases hd : d'.isAgg with
            | true =>
              rw [hd, cond_true, takeK_eq] at h
              split at h
              · cases h
                refine OpS.pure fun B w a ok g hr ho => ?_
                have h1 := ho y (by simp [Op.operands])
                rw [hy] at h1
                simp only [RepS, Rep] at h1
                obtain ⟨l, e1, e2⟩ := h1
                refine ⟨.agg ((l.drop off).take n).toArray, ?_, by simp only [RepS, Rep]; exact ⟨_, rfl, ((e2.takeDrop off).2.takeDrop n).1⟩⟩
                simp [execOp, Instr.field, q1, q2, e1, asAgg, part, hag, hsz, hd, q3]
              · cases h
            | false =>
              rw [hd, cond_false] at h
              split at h
              · rename_i z zs hz
                cases h
                refine OpS.pure fun B w a ok g hr ho => ?_
                have h1 := ho y (by simp [Op.operands])
                rw [hy] at h1
                simp only [RepS, Rep] at h1
                obtain ⟨l, e1, e2⟩ := h1
                have e3 := (e2.takeDrop off).2
                rw [hz] at e3
                simp only [Reps] at e3
                obtain ⟨v, r, e4, e5, _⟩ := e3
                have e6 : l[off]? = some v := by
                  have := List.getElem?_drop (xs := l) (i := off) (j := 0)
                  rw [e4] at this
                  simpa using this.symm
                refine ⟨v, ?_, by simp only [RepS]; exact e5⟩
                simp [execOp, Instr.field, q1, q2, e1, asAgg, part, hag, hd, q3, e6]
              · cases h
          · cases h
        · cases h
      · cases h
    · cases h
  · cases h

end
end Go.Abs

namespace Go.Abs
open Go

theorem eqGuard_val {op : BinOp} {t : TypeId} {x y : Operand} {a b : Value} (ha : a.oneCell' = true) (hb : a ≠ .nilIface) : eqGuard op t x y a b = pure () := by
  unfold eqGuard
  cases op <;> first | rfl | (cases a <;> first | rfl | (simp [Value.oneCell'] at ha; done) | exact (hb rfl).elim)

section
variable {P : Program} {T : Tab} {G : Glob} {dst : Option Tmp} {ty : TypeId} {pos : String} {after : Array Edge} {guard : Option (Nat × Bool)} {fr : Fr} {bx bx' : List Box} {x : SV} {hint : List AV} {c : Prop}

theorem sound_index (hT : T.Ok P) {t : TypeId} {y z : Operand} (h : evalO G T hint (.index t y z) ty fr bx = .ok c x bx') (hc : c) : OpS P G ⟨dst, .index t y z, ty, pos, after, guard⟩ fr bx x bx' := by
  simp only [evalO] at h
  split at h
  · rename_i size bytes zero ht
    split at h
    · rename_i s k n hy hz
      cases h
      obtain ⟨d, hu, hd⟩ := (Tab.ti_ok hT ht).under
      have hd := td_str hd
      subst hd
      refine OpS.pure fun B w a ok g hr ho => ?_
      have h1 := ho y (by simp [Op.operands])
      have h2 := ho z (by simp [Op.operands])
      rw [hy] at h1
      rw [hz] at h2
      simp only [RepS, Rep] at h1 h2
      refine ⟨.int .u8 (bt s n), ?_, by simp only [RepS, Rep]⟩
      have hlt : n.toNat < s.size := by omega
      have e2 : bt s n = (s[n.toNat].toNat : Int) := by
        unfold bt
        have : s.data.toList.getD n.toNat 0 = s[n.toNat] := by
          rw [List.getD_eq_getElem?_getD, List.getElem?_eq_getElem (by simpa using hlt)]
          rfl
        rw [this]
      simp [execOp, Instr.index, h1, h2, asIntOf, underlying, hu, hc.1, e2, hlt]
    · cases h
  · cases h

theorem RepRows.get {w : World} {ok : Nat → Nat} : ∀ {rows : List (List AV)} {size b o : Nat} {n : Nat} {r : List AV}, RepRows w ok rows size b o → rows[n]? = some r → RepAt w ok r b (o + n * size) ∧ r.length = size
  | [], _, _, _, n, _, _, hr => by simp at hr
  | r :: rows, size, b, o, 0, r', h, hr => by
    simp only [RepRows] at h
    simp only [List.getElem?_cons_zero, Option.some.injEq] at hr
    subst hr
    simp only [Nat.zero_mul, Nat.add_zero]
    exact ⟨h.2.1, h.1⟩
  | r :: rows, size, b, o, n + 1, r', h, hr => by
    simp only [RepRows] at h
    simp only [List.getElem?_cons_succ] at hr
    have := RepRows.get h.2.2 hr
    rw [show o + (n + 1) * size = o + size + n * size by rw [Nat.add_mul]; omega]
    exact this

theorem index_sl {P : Program} {w : World} {ok : Nat → Nat} {t e : TypeId} {size : Nat} {rows : List (List AV)} {full : Bool} {v : Value} {k : IntKind} {n : Int} {r : List AV}
    (hu : P.underlying t = some (.slice e)) (hs : ∀ w, (sizeOf e).run P w = .ok size w) (h : Rep w ok (.sl size rows full) v) (h0 : 0 ≤ n) (hr : rows[n.toNat]? = some r) :
    ∃ b o, (Instr.indexAt t v (.int k n)).run P w = .ok (.pointer (some (pl b o))) w ∧ RepAt w ok r b o := by
  simp only [Rep] at h
  obtain ⟨p, cap, rfl, _, _, h4⟩ := h
  have hlt : n.toNat < rows.length := (List.getElem?_eq_some_iff.1 hr).1
  rcases h4 with h4 | ⟨b, o, rfl, h4⟩
  · subst h4
    simp at hlt
  · refine ⟨b, o + n.toNat * size, ?_, (h4.get hr).1⟩
    have hn : n < (rows.length : Int) := by omega
    simp [Instr.indexAt, asIntOf, underlying, hu, h0, hn, hs, add_pl]

theorem sound_indexAddr (hT : T.Ok P) {t : TypeId} {y z : Operand} (h : evalO G T hint (.indexAddr t y z) ty fr bx = .ok c x bx') (hc : c) : OpS P G ⟨dst, .indexAddr t y z, ty, pos, after, guard⟩ fr bx x bx' := by
  simp only [evalO] at h
  split at h
  · rename_i e sz bytes zero ht
    obtain ⟨d, hu, hd⟩ := (Tab.ti_ok hT ht).under
    have hd := td_slice hd
    subst hd
    split at h
    · rename_i d' size bytes' zero' he
      split at h
      · rename_i s rows full k n hy hz
        cases h
        obtain ⟨rfl, h0, hr'⟩ := hc
        refine OpS.pure fun B w a ok g hr ho => ?_
        have h1 := ho y (by simp [Op.operands])
        have h2 := ho z (by simp [Op.operands])
        rw [hy] at h1
        rw [hz] at h2
        simp only [RepS] at h1
        simp only [RepS, Rep] at h2
        obtain ⟨b, o, e1, e2⟩ := index_sl (k := k) hu (fun w => run_size hT he w) h1 h0 hr'
        exact ⟨.pointer (some (pl b o)), by simp [execOp, h2, e1], by simp only [RepS, Rep]; exact ⟨b, o, rfl, e2⟩⟩
      · rename_i id s rows k n hy hz
        cases h
        obtain ⟨rfl, h0, hr'⟩ := hc
        refine OpS.pure fun B w a ok g hr ho => ?_
        have h1 := ho y (by simp [Op.operands])
        have h2 := ho z (by simp [Op.operands])
        rw [hy] at h1
        rw [hz] at h2
        simp only [RepS] at h1
        simp only [RepS, Rep] at h2
        obtain ⟨b, o, e1, e2⟩ := index_sl (k := k) hu (fun w => run_size hT he w) h1.1 h0 hr'
        exact ⟨.pointer (some (pl b o)), by simp [execOp, h2, e1], by simp only [RepS, Rep]; exact ⟨b, o, rfl, e2⟩⟩
      · cases h
    · cases h
  · cases h

theorem intR_bx {op : BinOp} {k : IntKind} {a b : Int} (h : intR bx op k a b = .ok c x bx') : bx' = bx := by
  cases op <;> simp only [intR, Res.ok.injEq, reduceCtorEq] at h <;> exact h.2.2.symm
theorem strR_bx {op : BinOp} {a b : ByteArray} (h : strR bx op a b = .ok c x bx') : bx' = bx := by
  cases op <;> simp only [strR, Res.ok.injEq, reduceCtorEq] at h <;> exact h.2.2.symm

theorem run_intR {op : BinOp} {k : IntKind} {a b : Int} {t : TypeId} {w : World} {ok : Nat → Nat} {g : List Value} (h : intR bx op k a b = .ok c x bx') :
    ∃ v, (binOp op t (.int k a) (.int k b)).run P w = .ok v w ∧ RepS w ok g bx x v := by
  cases op <;> simp only [intR, Res.ok.injEq, reduceCtorEq] at h <;> obtain ⟨_, rfl, _⟩ := h <;>
    simp only [RepS, Rep, exists_eq_right] <;> simp [binOp, Op.intArith, Op.intCmp, Op.intBits, bitsV]

theorem run_strR {op : BinOp} {a b : ByteArray} {t : TypeId} {w : World} {ok : Nat → Nat} {g : List Value} (h : strR bx op a b = .ok c x bx') (hc : c) :
    ∃ v, (binOp op t (.string a) (.string b)).run P w = .ok v w ∧ RepS w ok g bx x v := by
  cases op <;> simp only [strR, Res.ok.injEq, reduceCtorEq] at h <;> obtain ⟨rfl, rfl, _⟩ := h
  · refine ⟨.string (a ++ b), ?_, by simp only [RepS, Rep]⟩
    have : ¬ (((a.size + b.size : Nat) : Int) > IntKind.i64.max) := by omega
    simp only [binOp, Op.stringOp]
    rw [if_neg this]
    rfl
  · simp only [RepS, Rep, exists_eq_right]
    rfl
  · simp only [RepS, Rep, exists_eq_right]
    rfl

theorem sound_binOp {op : BinOp} {t t' : TypeId} {y z : Operand} (h : evalO G T hint (.binOp op t y z t') ty fr bx = .ok c x bx') (hc : c) : OpS P G ⟨dst, .binOp op t y z t', ty, pos, after, guard⟩ fr bx x bx' := by
  simp only [evalO] at h
  split at h
  · rename_i k a1 k' b1 hy hz
    cases hk : decide (k = k') with
    | false => rw [hk] at h; cases h
    | true =>
      rw [hk, cond_true] at h
      have hk := of_decide_eq_true hk
      subst hk
      have hb := intR_bx h
      subst hb
      refine OpS.pure fun B w a ok g hr ho => ?_
      have h1 := ho y (by simp [Op.operands])
      have h2 := ho z (by simp [Op.operands])
      rw [hy] at h1
      rw [hz] at h2
      simp only [RepS, Rep] at h1 h2
      obtain ⟨v, e1, e2⟩ := run_intR (P := P) (t := t) (w := w) (ok := ok) (g := g) h
      exact ⟨v, by simp only [execOp, h1, h2]; rw [eqGuard_val rfl (by simp)]; simp [e1], e2⟩
  · rename_i a1 b1 hy hz
    have hb := strR_bx h
    subst hb
    refine OpS.pure fun B w a ok g hr ho => ?_
    have h1 := ho y (by simp [Op.operands])
    have h2 := ho z (by simp [Op.operands])
    rw [hy] at h1
    rw [hz] at h2
    simp only [RepS, Rep] at h1 h2
    obtain ⟨v, e1, e2⟩ := run_strR (P := P) (t := t) (w := w) (ok := ok) (g := g) h hc
    exact ⟨v, by simp only [execOp, h1, h2]; rw [eqGuard_val rfl (by simp)]; simp [e1], e2⟩
  · cases h

theorem sound_not {t : TypeId} {y : Operand} {op : UnOp} (h : evalO G T hint (.unOp op t y) ty fr bx = .ok c x bx') : OpS P G ⟨dst, .unOp op t y, ty, pos, after, guard⟩ fr bx x bx' := by
  cases op <;> simp only [evalO, reduceCtorEq] at h
  split at h
  · rename_i b hy
    cases h
    refine OpS.pure fun B w a ok g hr ho => ?_
    have h1 := ho y (by simp [Op.operands])
    rw [hy] at h1
    simp only [RepS, Rep] at h1
    exact ⟨.bool (!b), by simp [execOp, h1, Op.unary], by simp only [RepS, Rep]⟩
  · cases h

theorem sound_convert (hT : T.Ok P) {s t : TypeId} {y : Operand} (h : evalO G T hint (.convert s t y) ty fr bx = .ok c x bx') : OpS P G ⟨dst, .convert s t y, ty, pos, after, guard⟩ fr bx x bx' := by
  simp only [evalO] at h
  split at h
  · rename_i k1 s1 b1 z1 k s2 b2 z2 hs ht
    obtain ⟨d1, hu1, hd1⟩ := (Tab.ti_ok hT hs).under
    obtain ⟨d2, hu2, hd2⟩ := (Tab.ti_ok hT ht).under
    have hd1 := td_int hd1
    have hd2 := td_int hd2
    subst hd1 hd2
    split at h
    · rename_i k3 n hy
      cases h
      refine OpS.pure fun B w a ok g hr ho => ?_
      have h1 := ho y (by simp [Op.operands])
      rw [hy] at h1
      simp only [RepS, Rep] at h1
      exact ⟨.int k (k.wrap n), by simp [execOp, h1, convert, underlying, hu1, hu2, Conv.intToInt], by simp only [RepS, Rep]⟩
    · cases h
  · cases h

theorem sound_makeInterface (hT : T.Ok P) {t : TypeId} {y : Operand} (h : evalO G T hint (.makeInterface t y) ty fr bx = .ok c x bx') : OpS P G ⟨dst, .makeInterface t y, ty, pos, after, guard⟩ fr bx x bx' := by
  simp only [evalO] at h
  split at h
  · cases h
  · rename_i ti hne ht
    obtain ⟨d, hu, hd⟩ := (Tab.ti_ok hT ht).under
    split at h
    · rename_i z hy
      cases h
      refine OpS.pure fun B w a ok g hr ho => ?_
      have h1 := ho y (by simp [Op.operands])
      rw [hy] at h1
      simp only [RepS] at h1
      refine ⟨.iface t (a.eval y), ?_, by simp only [RepS, Rep]; exact ⟨_, rfl, h1⟩⟩
      have hni : ∀ ms, d ≠ .interface ms := by
        rintro ms rfl
        obtain ⟨d', s', b', z'⟩ := ti
        simp only [td] at hd
        subst hd
        exact hne _ _ _ rfl
      have hr : (underlying t).run P w = .ok d w := by simp [underlying, hu]
      have e : (Instr.makeInterface t (a.eval y)).run P w = .ok (.iface t (a.eval y)) w := by
        unfold Instr.makeInterface
        rw [Sem.run_bind, hr]
        cases d <;> first | exact (hni _ rfl).elim | rfl
      simp [execOp, e]
    · cases h
  · cases h

end
end Go.Abs

namespace Go.Abs
open Go

section
variable {P : Program} {T : Tab} {G : Glob} {dst : Option Tmp} {ty : TypeId} {pos : String} {after : Array Edge} {guard : Option (Nat × Bool)} {fr : Fr} {bx bx' : List Box} {x : SV} {hint : List AV} {c : Prop}

theorem RepSs.ofAll {w : World} {ok : Nat → Nat} {g : List Value} {a : Act} : ∀ {xs : List Operand}, (∀ y ∈ xs, RepS w ok g bx (ev G fr y) (a.eval y)) → RepSs w ok g bx (xs.map (ev G fr)) (xs.map a.eval)
  | [], _ => by simp only [List.map_nil, RepSs]
  | y :: ys, h => by
    simp only [List.map_cons, RepSs]
    exact ⟨_, _, rfl, h y (List.mem_cons_self ..), RepSs.ofAll (fun z hz => h z (List.mem_cons_of_mem _ hz))⟩

theorem sound_makeFunc {fn : Fn} {first captured : Array Operand} (h : evalO G T hint (.makeFunc fn first captured) ty fr bx = .ok c x bx') : OpS P G ⟨dst, .makeFunc fn first captured, ty, pos, after, guard⟩ fr bx x bx' := by
  cases fn <;> simp only [evalO, reduceCtorEq] at h
  rename_i f
  split at h
  · rename_i hf
    rw [mapK_eq] at h
    cases h
    have hf' : first = #[] := by
      cases first
      simp at hf
      rw [hf]
    subst hf'
    refine OpS.pure fun B w a ok g hr ho => ?_
    refine ⟨.func (.func f) #[] (captured.toList.map a.eval).toArray, ?_, ?_⟩
    · have e : (captured.toList.map a.eval).toArray = captured.map a.eval := by rw [← Array.toList_map]
      simp [execOp, Instr.makeFunc, e]
    · simp only [RepS]
      exact ⟨_, rfl, RepSs.ofAll (fun y hy => ho y (by simpa [Op.operands] using hy))⟩
  · cases h

/-- Cells of a value. -/
theorem cellsK_ok {w : World} {ok : Nat → Nat} {g : List Value} {z : SV} {v : Value} {k : List SV → Res} (h : cellsK .none z k = .ok c x bx') (hr : RepS w ok g bx z v) :
    ∃ ys, k ys = .ok c x bx' ∧ RepSs w ok g bx ys v.cells.toList := by
  have one : ∀ {y : SV} {u : Value}, u.cells = #[u] → RepS w ok g bx y u → RepSs w ok g bx [y] u.cells.toList := by
    intro y u hu hy
    rw [hu]
    simp only [RepSs]
    exact ⟨u, [], rfl, hy, rfl⟩
  unfold cellsK at h
  split at h
  · rename_i cs
    rw [mapK_eq] at h
    refine ⟨_, h, ?_⟩
    simp only [RepS, Rep] at hr
    obtain ⟨l, rfl, hl⟩ := hr
    exact RepSs.data hl
  · rename_i u
    cases ho : u.oneCell' with
    | false => rw [ho] at h; cases h
    | true =>
      rw [ho, cond_true] at h
      refine ⟨_, h, ?_⟩
      have e : v = u := by simpa only [RepS, Rep] using hr
      subst e
      refine one ?_ hr
      cases v <;> first | rfl | (simp [Value.oneCell'] at ho)
  · rename_i s r f
    refine ⟨_, h, one ?_ hr⟩
    simp only [RepS, Rep] at hr
    obtain ⟨p, cap, rfl, _⟩ := hr
    rfl
  · refine ⟨_, h, one ?_ hr⟩
    simp only [RepS, Rep] at hr
    obtain ⟨b, o, rfl, _⟩ := hr
    rfl
  · refine ⟨_, h, one ?_ hr⟩
    simp only [RepS, Rep] at hr
    obtain ⟨u, rfl, _⟩ := hr
    rfl
  · cases h
  · cases h
  · refine ⟨_, h, one ?_ hr⟩
    simp only [RepS] at hr
    obtain ⟨_, b, _, rfl⟩ := hr
    rfl
  · refine ⟨_, h, one ?_ hr⟩
    simp only [RepS, Rep] at hr
    obtain ⟨⟨p, cap, rfl, _⟩, _⟩ := hr
    rfl
  · refine ⟨_, h, one ?_ hr⟩
    simp only [RepS] at hr
    obtain ⟨l, rfl, _⟩ := hr
    rfl
  · cases h
  · refine ⟨_, h, ?_⟩
    simp only [RepS] at hr
    obtain ⟨l, rfl, hl⟩ := hr
    exact hl

theorem one_cell {w : World} {ok : Nat → Nat} {g : List Value} {y : SV} {v : Value} (h : y.one = true) (hr : RepS w ok g bx y v) : v.oneCell' = true := by
  unfold SV.one at h
  split at h
  · rename_i u
    have e : v = u := by simpa only [RepS, Rep] using hr
    rw [e]
    exact h
  · simp only [RepS, Rep] at hr
    obtain ⟨p, cap, rfl, _⟩ := hr
    rfl
  · simp only [RepS, Rep] at hr
    obtain ⟨b, o, rfl, _⟩ := hr
    rfl
  · simp only [RepS, Rep] at hr
    obtain ⟨u, rfl, _⟩ := hr
    rfl
  · simp only [RepS] at hr
    obtain ⟨_, b, _, rfl⟩ := hr
    rfl
  · simp only [RepS, Rep] at hr
    obtain ⟨⟨p, cap, rfl, _⟩, _⟩ := hr
    rfl
  · simp only [RepS] at hr
    obtain ⟨l, rfl, _⟩ := hr
    rfl
  · cases h

theorem ones_cells {w : World} {ok : Nat → Nat} {g : List Value} : ∀ {ys : List SV} {l : List Value}, ys.all SV.one = true → RepSs w ok g bx ys l → ∀ v ∈ l, v.oneCell' = true
  | [], l, _, h, v, hv => by simp only [RepSs] at h; subst h; cases hv
  | y :: ys, l, hy, h, v, hv => by
    simp only [RepSs] at h
    obtain ⟨u, r, rfl, h1, h2⟩ := h
    simp only [List.all_cons, Bool.and_eq_true] at hy
    rcases List.mem_cons.1 hv with rfl | hv
    · exact one_cell hy.1 h1
    · exact ones_cells hy.2 h2 v hv

theorem sound_alloc (hT : T.Ok P) {t : TypeId} (h : evalO G T hint (.alloc t) ty fr bx = .ok c x bx') : OpS P G ⟨dst, .alloc t, ty, pos, after, guard⟩ fr bx x bx' := by
  simp only [evalO] at h
  split at h
  · rename_i d size bytes zero ht
    rw [mapK_eq, snocK_eq] at h
    cases h
    intro B w a ok g hr ho
    obtain ⟨z, h1, h2⟩ := run_zero hT ht w
    have hz : RepSs w ok g bx (zero.map SV.d) (zero.map zval) := RepSs.data (Reps.zero (Tab.ti_ok hT ht).zero)
    obtain ⟨h3, h4, h5⟩ := hr.box (zero.map zval) t hz
    refine ⟨.pointer (some (pl w.heap.size 0)), _, ok, _, .inl ?_, h3, h4, h5, ?_⟩
    · simp [execOp, Instr.alloc, h1, newVar, newRow, newObj, Sem.run, ← h2]
    · simp only [RepS, Nat.zero_add]
      refine ⟨fun s hh e => ?_, w.heap.size, ?_, rfl⟩
      · rw [List.getElem?_append_right (Nat.le_refl _), Nat.sub_self] at e
        cases e
      · rw [← hr.boxes.len, List.getElem?_append_right (Nat.le_refl _), Nat.sub_self]
        rfl
  · cases h

theorem sound_box {t : TypeId} {y : Operand} (h : evalO G T hint (.box t y) ty fr bx = .ok c x bx') : OpS P G ⟨dst, .box t y, ty, pos, after, guard⟩ fr bx x bx' := by
  simp only [evalO] at h
  intro B w a ok g hr ho
  have h1 := ho y (by simp [Op.operands])
  obtain ⟨ys, h2, h3⟩ := cellsK_ok h h1
  rw [snocK_eq] at h2
  cases h2
  obtain ⟨h4, h5, h6⟩ := hr.box _ t h3
  refine ⟨.pointer (some (pl w.heap.size 0)), _, ok, _, .inl ?_, h4, h5, h6, ?_⟩
  · simp [execOp, Instr.box, newVar, newRow, newObj, Sem.run]
  · simp only [RepS, Nat.zero_add]
    refine ⟨fun s hh e => ?_, w.heap.size, ?_, rfl⟩
    · rw [List.getElem?_append_right (Nat.le_refl _), Nat.sub_self] at e
      cases e
    · rw [← hr.boxes.len, List.getElem?_append_right (Nat.le_refl _), Nat.sub_self]
      rfl

theorem sound_store (hT : T.Ok P) {t : TypeId} {p y : Operand} (h : evalO G T hint (.store t p y) ty fr bx = .ok c x bx') : OpS P G ⟨dst, .store t p y, ty, pos, after, guard⟩ fr bx x bx' := by
  simp only [evalO] at h
  split at h
  · rename_i d size bytes zero ht
    split at h
    · rename_i id off hp
      rw [getK_eq] at h
      split at h
      · rename_i bxi hb
        split at h
        · rename_i cs
          intro B w a ok g hr ho
          have h1 := ho y (by simp [Op.operands])
          obtain ⟨ys, h2, h3⟩ := cellsK_ok h (nilS_rep hT (d := d) h1)
          cases hs : Nat.beq ys.length size && ys.all SV.one with
          | false => rw [hs] at h2; cases h2
          | true =>
            rw [hs, cond_true, spliceK_eq] at h2
            split at h2
            · rename_i hle
              rw [setK_eq] at h2
              split at h2
              · cases h2
                simp only [Bool.and_eq_true] at hs
                have hsz := Nat.eq_of_beq_eq_true hs.1
                have h4 := ho p (by simp [Op.operands])
                rw [hp] at h4
                simp only [RepS] at h4
                obtain ⟨_, b, e1, e2⟩ := h4
                obtain ⟨b', arr, E, f1, f2, f3, f4⟩ := hr.boxes.cells id cs hb
                rw [e1] at f1
                cases f1
                have f5 := f4.splice off h3 hle
                obtain ⟨g1, g2, g3⟩ := hr.put hb e1 f5
                refine ⟨undef, _, ok, g, .inr ⟨?_, rfl⟩, g1, g2, g3, by simp only [RepS, Rep]⟩
                have hl1 := f4.length
                have hl2 := h3.length
                have hl3 : arr.toList.length = arr.size := Array.length_toList
                have hl4 : (a.eval y).cells.size = size := by rw [← Array.length_toList]; omega
                have hst := run_storeCells_at P b off E (a.eval y).cells.toList 0 arr w f2 (by omega) (ones_cells hs.2 h3)
                simp only [Nat.add_zero] at hst
                simp [execOp, Instr.storeAt, e2, Instr.sureAddr, storeVar, run_size hT ht, hl4, hst]
              · cases h2
            · cases h2
        · cases h
      · cases h
    · cases h
  · cases h

end
end Go.Abs

namespace Go.Abs
open Go

section
variable {P : Program} {T : Tab} {G : Glob} {dst : Option Tmp} {ty : TypeId} {pos : String} {after : Array Edge} {guard : Option (Nat × Bool)} {fr : Fr} {bx bx' : List Box} {x : SV} {hint : List AV} {c : Prop}

theorem foldl_splice : ∀ (l : List Value) (j off : Nat) (cs : Array Value), off + j + l.length ≤ cs.size →
    (l.zipIdx j).foldl (fun cs (x : Value × Nat) => cs.setIfInBounds (off + x.2) x.1) cs = (cs.toList.take (off + j) ++ l ++ cs.toList.drop (off + j + l.length)).toArray
  | [], j, off, cs, _ => by simp
  | v :: l, j, off, cs, h => by
    simp only [List.zipIdx_cons, List.foldl_cons]
    simp only [List.length_cons] at h
    rw [foldl_splice l (j + 1) off _ (by simp; omega)]
    congr 1
    have hlt : off + j < cs.toList.length := by simp; omega
    simp only [Array.toList_setIfInBounds, List.length_cons]
    rw [show off + (j + 1) = off + j + 1 by omega, show off + j + (l.length + 1) = off + j + 1 + l.length by omega]
    rw [List.take_succ_eq_append_getElem (by simpa using hlt)]
    rw [List.drop_set_of_lt (by omega), List.take_set_of_le (Nat.le_refl _)]
    simp

theorem zipIdx_fold (v : Value) (off : Nat) (cs : Array Value) (h : off + v.cells.size ≤ cs.size) :
    (v.cells.zipIdx.foldl (fun cs (x : Value × Nat) => cs.setIfInBounds (off + x.2) x.1) cs).toList = cs.toList.take off ++ v.cells.toList ++ cs.toList.drop (off + v.cells.toList.length) := by
  have := foldl_splice v.cells.toList 0 off cs (by simpa using h)
  simp only [Nat.add_zero] at this
  rw [← Array.foldl_toList, Array.toList_zipIdx, this]

theorem sound_extract {y : Operand} {i : Nat} (h : evalO G T hint (.extract y i) ty fr bx = .ok c x bx') : OpS P G ⟨dst, .extract y i, ty, pos, after, guard⟩ fr bx x bx' := by
  simp only [evalO] at h
  split at h
  · rename_i vs hy
    rw [getK_eq] at h
    split at h
    · rename_i z hz
      obtain ⟨rfl, rfl⟩ := Res.val_ok h
      refine OpS.pure fun B w a ok g hr ho => ?_
      have h1 := ho y (by simp [Op.operands])
      rw [hy] at h1
      simp only [RepS] at h1
      obtain ⟨l, e1, e2⟩ := h1
      obtain ⟨v, e3, e4⟩ := e2.get hz
      exact ⟨v, by simp [execOp, Instr.extract, e1, e3], e4⟩
    · cases h
  · rename_i vs hy
    rw [getK_eq] at h
    split at h
    · rename_i z hz
      cases h
      refine OpS.pure fun B w a ok g hr ho => ?_
      have h1 := ho y (by simp [Op.operands])
      rw [hy] at h1
      simp only [RepS, Rep] at h1
      obtain ⟨l, e1, e2⟩ := h1
      have e5 : RepSs w ok g bx (vs.map SV.d) l := RepSs.data e2
      obtain ⟨v, e3, e4⟩ := e5.get (i := i) (x := .d z) (by rw [List.getElem?_map, hz]; rfl)
      exact ⟨v, by simp [execOp, Instr.extract, e1, e3], e4⟩
    · cases h
  · cases h

theorem sound_len (hT : T.Ok P) {args : Array Operand} {ts : Array TypeId} (h : evalO G T hint (.call ⟨.builtin .len, args, ts⟩) ty fr bx = .ok c x bx') : OpS P G ⟨dst, .call ⟨.builtin .len, args, ts⟩, ty, pos, after, guard⟩ fr bx x bx' := by
  simp only [evalO] at h
  split at h
  · rename_i y t hy ht'
    have ea : args = #[y] := by cases args; simp at hy; rw [hy]
    have et : ts = #[t] := by cases ts; simp at ht'; rw [ht']
    subst ea et
    split at h
    · rename_i s b z ht
      obtain ⟨d, hu, hd⟩ := (Tab.ti_ok hT ht).under
      have hd := td_str hd
      subst hd
      split at h
      · rename_i s hy
        cases h
        refine OpS.pure fun B w a ok g hr ho => ?_
        have h1 := ho y (by simp [Op.operands, Call.operands])
        rw [hy] at h1
        simp only [RepS, Rep] at h1
        exact ⟨.int .i64 s.size, by simp [execOp, resolve, invoke, builtin, Builtin.len_, h1, underlying, hu, goInt], by simp only [RepS, Rep]⟩
      · cases h
    · rename_i e s b z ht
      obtain ⟨d, hu, hd⟩ := (Tab.ti_ok hT ht).under
      have hd := td_slice hd
      subst hd
      split at h
      · rename_i sz rows full hy
        cases h
        refine OpS.pure fun B w a ok g hr ho => ?_
        have h1 := ho y (by simp [Op.operands, Call.operands])
        rw [hy] at h1
        simp only [RepS, Rep] at h1
        obtain ⟨p, cap, h1, _⟩ := h1
        exact ⟨.int .i64 rows.length, by simp [execOp, resolve, invoke, builtin, Builtin.len_, h1, underlying, hu, goInt], by simp only [RepS, Rep]⟩
      · rename_i id sz rows hy
        cases h
        refine OpS.pure fun B w a ok g hr ho => ?_
        have h1 := ho y (by simp [Op.operands, Call.operands])
        rw [hy] at h1
        simp only [RepS, Rep] at h1
        obtain ⟨⟨p, cap, h1, _⟩, _⟩ := h1
        exact ⟨.int .i64 rows.length, by simp [execOp, resolve, invoke, builtin, Builtin.len_, h1, underlying, hu, goInt], by simp only [RepS, Rep]⟩
      · cases h
    · cases h
  · cases h

theorem sound_slice (hT : T.Ok P) {t : TypeId} {y : Operand} {lo hi mx : Option Operand} (h : evalO G T hint (.slice t y lo hi mx) ty fr bx = .ok c x bx') (hc : c) : OpS P G ⟨dst, .slice t y lo hi mx, ty, pos, after, guard⟩ fr bx x bx' := by
  cases mx with
  | some m => simp only [evalO, reduceCtorEq] at h
  | none =>
    simp only [evalO] at h
    split at h
    · rename_i sz b z ht
      obtain ⟨d, hu, hd⟩ := (Tab.ti_ok hT ht).under
      have hd := td_str hd
      subst hd
      split at h
      · rename_i s hy
        cases lo with
        | none =>
          cases hi with
          | none =>
            cases h
            refine OpS.pure fun B w a ok g hr ho => ?_
            have h1 := ho y (by simp [Op.operands])
            rw [hy] at h1
            simp only [RepS, Rep] at h1
            exact ⟨.string (s.extract 0 s.size), by simp [execOp, h1, Instr.sliceAt, Instr.slice, underlying, hu, Instr.sliceBounds], by simp only [RepS, Rep]⟩
          | some hi =>
            simp only at h
            split at h
            · rename_i k n hh
              cases h
              refine OpS.pure fun B w a ok g hr ho => ?_
              have h1 := ho y (by simp [Op.operands])
              have h2 := ho hi (by simp [Op.operands])
              rw [hy] at h1
              rw [hh] at h2
              simp only [RepS, Rep] at h1 h2
              exact ⟨.string (s.extract 0 n.toNat), by simp [execOp, h1, h2, Instr.sliceAt, Instr.slice, underlying, hu, Instr.sliceBounds, Instr.sliceBound, asIntOf, hc.1, hc.2], by simp only [RepS, Rep]⟩
            · cases h
        | some lo =>
          cases hi with
          | none =>
            simp only at h
            split at h
            · rename_i k n hh
              cases h
              refine OpS.pure fun B w a ok g hr ho => ?_
              have h1 := ho y (by simp [Op.operands])
              have h2 := ho lo (by simp [Op.operands])
              rw [hy] at h1
              rw [hh] at h2
              simp only [RepS, Rep] at h1 h2
              exact ⟨.string (s.extract n.toNat s.size), by simp [execOp, h1, h2, Instr.sliceAt, Instr.slice, underlying, hu, Instr.sliceBounds, Instr.sliceBound, asIntOf, hc.1, hc.2], by simp only [RepS, Rep]⟩
            · cases h
          | some hi =>
            simp only at h
            split at h
            · rename_i k n k' m hl hh
              cases h
              obtain ⟨c1, c2, c3⟩ := hc
              refine OpS.pure fun B w a ok g hr ho => ?_
              have h1 := ho y (by simp [Op.operands])
              have h2 := ho lo (by simp [Op.operands])
              have h3 := ho hi (by simp [Op.operands])
              rw [hy] at h1
              rw [hl] at h2
              rw [hh] at h3
              simp only [RepS, Rep] at h1 h2 h3
              obtain ⟨m, rfl⟩ := Int.eq_ofNat_of_zero_le (show 0 ≤ m by omega)
              obtain ⟨n, rfl⟩ := Int.eq_ofNat_of_zero_le c1
              have c4 : n ≤ m := by omega
              have c5 : m ≤ s.size := by omega
              refine ⟨.string (s.extract n m), ?_, by simp only [RepS, Rep, Int.toNat_natCast]⟩
              simp [execOp, h1, h2, h3, Instr.sliceAt, Instr.slice, underlying, hu, Instr.sliceBounds, Instr.sliceBound, asIntOf, c4, c5]
            · cases h
      · cases h
    · cases h

theorem mapM_run {α β : Type} (f : α → Sem β) (r : α → β) (w : World) : ∀ (l : List α), (∀ x ∈ l, (f x).run P w = .ok (r x) w) → (l.mapM f).run P w = .ok (l.map r) w
  | [], _ => rfl
  | x :: l, h => by
    rw [List.mapM_cons]
    have h1 := h x (List.mem_cons_self ..)
    have h2 := mapM_run f r w l (fun y hy => h y (List.mem_cons_of_mem _ hy))
    simp [h1, h2]

theorem fill_ok (hT : T.Ok P) {w : World} {ok : Nat → Nat} {g : List Value} {a : Act} {fs : List (Nat × TypeId)} {place : Nat → Option (Nat × Nat)}
    (hp : ∀ i off ft ti, fs[i]? = some (off, ft) → T.ti ft = some ti → place i = some (off, ti.size)) {k : List SV → Res} :
    ∀ {ps : List (Nat × Operand)} {cs : List SV} {arr : Array Value}, fillK .none fs T G fr ps cs k = .ok c x bx' → (∀ p ∈ ps, RepS w ok g bx (ev G fr p.2) (a.eval p.2)) → RepSs w ok g bx cs arr.toList →
    ∃ cs' arr', k cs' = .ok c x bx' ∧ Instr.fill place arr (ps.map fun p => (p.1, a.eval p.2)) = some arr' ∧ RepSs w ok g bx cs' arr'.toList
  | [], cs, arr, h, _, hr => ⟨cs, arr, h, rfl, hr⟩
  | (i, y) :: ps, cs, arr, h, ho, hr => by
    simp only [fillK] at h
    rw [getK_eq] at h
    split at h
    · rename_i f hf
      obtain ⟨off, ft⟩ := f
      simp only at h
      split at h
      · cases h
      · rename_i ti hti
        have ho0 : RepS w ok g bx (ev G fr y) (a.eval y) := ho (i, y) (List.mem_cons_self ..)
        obtain ⟨ys, h2, h3⟩ := cellsK_ok h ho0
        cases hs : Nat.beq ys.length ti.size with
        | false => rw [hs] at h2; cases h2
        | true =>
          rw [hs, cond_true, spliceK_eq] at h2
          split at h2
          · rename_i hle
            have hsz := Nat.eq_of_beq_eq_true hs
            have hl1 := hr.length
            have hl2 := h3.length
            rw [Array.length_toList] at hl1 hl2
            have h4 := hr.splice off h3 hle
            rw [← zipIdx_fold (a.eval y) off arr (by omega)] at h4
            obtain ⟨cs', arr', e1, e2, e3⟩ := fill_ok hT hp h2 (fun p hp => ho p (List.mem_cons_of_mem _ hp)) h4
            refine ⟨cs', arr', e1, ?_, e3⟩
            simp only [List.map_cons, Instr.fill, hp i off ft ti hf hti]
            rw [if_neg (by simp; omega)]
            exact e2
          · cases h2
    · cases h

theorem sound_build (hT : T.Ok P) {t : TypeId} {parts : Array (Nat × Operand)} (h : evalO G T hint (.build t parts) ty fr bx = .ok c x bx') : OpS P G ⟨dst, .build t parts, ty, pos, after, guard⟩ fr bx x bx' := by
  simp only [evalO] at h
  split at h
  · rename_i fs sz b zero ht
    cases hall : fs.all (fun p => (T.ti p.2).isSome) with
    | false => rw [hall] at h; cases h
    | true =>
      rw [hall, cond_true, mapK_eq] at h
      obtain ⟨d, hu, hd⟩ := (Tab.ti_ok hT ht).under
      obtain ⟨f, rfl, rfl⟩ := td_struct hd
      have hbx : ∀ w ok g (a : Act), (∀ p ∈ parts.toList, RepS w ok g bx (ev G fr p.2) (a.eval p.2)) → ∃ v, (execOp a.eval ⟨dst, .build t parts, ty, pos, after, guard⟩).run P w = .ok (.value v) w ∧ bx' = bx ∧ RepS w ok g bx x v := by
        intro w ok g a ho
        obtain ⟨z, hz1, hz2⟩ := run_zero hT ht w
        have hz : RepSs w ok g bx (zero.map SV.d) z.cells.toList := by rw [hz2]; exact RepSs.data (Reps.zero (Tab.ti_ok hT ht).zero)
        let size (q : Field) : Nat := match T.ti q.type with | some ti => ti.size | none => 0
        have hm : (f.mapM (fun q : Field => do pure (q.offset, ← sizeOf q.type))).run P w = .ok (f.map fun q : Field => (q.offset, size q)) w := by
          have e := mapM_run (P := P) (fun q : Field => do pure (q.offset, ← sizeOf q.type)) (fun q : Field => (q.offset, size q)) w f.toList (by
            intro q hq
            rw [List.all_map] at hall
            have h1 := List.all_eq_true.1 hall q hq
            simp only [Function.comp, Option.isSome_iff_exists] at h1
            obtain ⟨ti, h1⟩ := h1
            have h2 := run_size hT h1 w
            simp [h2, size, h1])
          have e2 : f.mapM (fun q : Field => do pure (q.offset, ← sizeOf q.type)) = List.toArray <$> f.toList.mapM (fun q : Field => do pure (q.offset, ← sizeOf q.type)) := by
            obtain ⟨l⟩ := f
            simp
          rw [e2, Sem.run_map, e]
          have e3 : (f.toList.map fun q : Field => (q.offset, size q)).toArray = f.map fun q : Field => (q.offset, size q) := by rw [← Array.toList_map]
          simp only [Result.andThen_ok, e3]
        obtain ⟨cs', arr', e1, e2, e3⟩ := fill_ok hT (place := fun i => (f.map fun q : Field => (q.offset, size q))[i]?) (by
          intro i off ft ti h1 h2
          rw [List.getElem?_map] at h1
          rw [Array.getElem?_map]
          cases hq : f.toList[i]? with
          | none => rw [hq] at h1; cases h1
          | some q =>
            rw [hq] at h1
            simp only [Option.map_some, Option.some.injEq, Prod.mk.injEq] at h1
            have hq' : f[i]? = some q := by simpa using hq
            rw [hq']
            simp [size, h1.1, h1.2, h2]) h ho hz
        obtain ⟨rfl, h5⟩ := aggR_ok e1 e3
        refine ⟨.agg arr', ?_, rfl, by simpa using h5⟩
        have e4 : (parts.map fun p => (p.1, a.eval p.2)).toList = parts.toList.map fun p => (p.1, a.eval p.2) := by simp
        simp only [execOp, Instr.build, Sem.run_bind, hz1, underlying, program, Sem.run, hu, Result.andThen_ok, Sem.run_pure, hm, e4, e2]
      have hpart : ∀ w ok g (a : Act), (∀ y ∈ (Oper.mk dst (.build t parts) ty pos after guard).op.operands, RepS w ok g bx (ev G fr y) (a.eval y)) → ∀ p ∈ parts.toList, RepS w ok g bx (ev G fr p.2) (a.eval p.2) := by
        intro w ok g a ho p hp
        refine ho _ ?_
        simp only [Op.operands, List.mem_toArray, List.mem_map]
        exact ⟨p, hp, rfl⟩
      intro B w a ok g hr ho
      obtain ⟨v, h1, h2, h3⟩ := hbx w ok g a (hpart w ok g a ho)
      subst h2
      exact ⟨v, w, ok, g, .inl h1, hr, Ext.refl _ _, Laters.refl hr.boxes.len, h3⟩
  · cases h

end
end Go.Abs

namespace Go.Abs
open Go

section
variable {P : Program} {T : Tab} {G : Glob} {dst : Option Tmp} {ty : TypeId} {pos : String} {after : Array Edge} {guard : Option (Nat × Bool)} {fr : Fr} {bx bx' : List Box} {x : SV} {hint : List AV} {c : Prop}

/-- Cells that lie one behind the other. -/
theorem RepAt.of {w : World} {ok : Nat → Nat} {b : Nat} {arr : Array Value} {E : TypeId} {fz : Nat × Nat} (hh : w.heap[b]? = some (.cells arr E fz)) (hok : ok b = arr.size) :
    ∀ {as : List AV} {l : List Value} {o : Nat}, Reps w ok as l → (∀ j v, l[j]? = some v → arr[o + j]? = some v) → RepAt w ok as b o
  | [], _, _, _, _ => by simp only [RepAt]
  | x :: as, l, o, h, hl => by
    simp only [Reps] at h
    obtain ⟨v, r, rfl, h1, h2⟩ := h
    have h3 := hl 0 v rfl
    simp only [Nat.add_zero] at h3
    simp only [RepAt]
    refine ⟨by rw [hok]; exact (Array.getElem?_eq_some_iff.1 h3).1, ⟨v, by rw [cell_at hh]; exact h3, h1⟩, RepAt.of hh hok h2 ?_⟩
    intro j u hj
    have := hl (j + 1) u (by simpa using hj)
    rw [show o + 1 + j = o + (j + 1) by omega]
    exact this

def RepL (w : World) (ok : Nat → Nat) (size : Nat) : List (List AV) → List (List Value) → Prop
  | [], vs => vs = []
  | r :: rows, vs => ∃ l rest, vs = l :: rest ∧ (Reps w ok r l ∧ r.length = size) ∧ RepL w ok size rows rest

theorem RepL.ext {w w' : World} {ok ok' : Nat → Nat} (hx : Ext w ok w' ok') {size : Nat} : ∀ {rows : List (List AV)} {vs : List (List Value)}, RepL w ok size rows vs → RepL w' ok' size rows vs
  | [], _, h => h
  | _ :: _, _, h => by
    simp only [RepL] at h ⊢
    obtain ⟨l, rest, h1, h2, h3⟩ := h
    exact ⟨l, rest, h1, ⟨Reps.ext hx _ _ h2.1, h2.2⟩, RepL.ext hx h3⟩

theorem RepL.length {w : World} {ok : Nat → Nat} {size : Nat} : ∀ {rows : List (List AV)} {vs : List (List Value)}, RepL w ok size rows vs → rows.length = vs.length ∧ ∀ l ∈ vs, l.length = size
  | [], _, h => by
    simp only [RepL] at h
    subst h
    exact ⟨rfl, fun l hl => by cases hl⟩
  | r :: rows, _, h => by
    simp only [RepL] at h
    obtain ⟨l, rest, rfl, h2, h3⟩ := h
    have h4 := RepL.length h3
    refine ⟨by simp only [List.length_cons, h4.1], fun m hm => ?_⟩
    rcases List.mem_cons.1 hm with rfl | hm
    · rw [h2.1.length, h2.2]
    · exact h4.2 m hm

theorem RepRows.of {w : World} {ok : Nat → Nat} {b : Nat} {arr : Array Value} {E : TypeId} {fz : Nat × Nat} (hh : w.heap[b]? = some (.cells arr E fz)) (hok : ok b = arr.size) {size : Nat} :
    ∀ {rows : List (List AV)} {vs : List (List Value)} {o : Nat}, RepL w ok size rows vs → (∀ j v, vs.flatten[j]? = some v → arr[o + j]? = some v) → RepRows w ok rows size b o
  | [], _, _, _, _ => by simp only [RepRows]
  | r :: rows, _, o, h, hl => by
    simp only [RepL] at h
    obtain ⟨l, vs, rfl, h1, h2⟩ := h
    have hlen := h1.1.length
    simp only [RepRows]
    refine ⟨h1.2, RepAt.of hh hok h1.1 ?_, RepRows.of hh hok h2 ?_⟩
    · intro j v hj
      refine hl j v ?_
      simp only [List.flatten_cons]
      rw [List.getElem?_append_left (List.getElem?_eq_some_iff.1 hj).1]
      exact hj
    · intro j v hj
      have := hl (size + j) v (by
        simp only [List.flatten_cons]
        rw [List.getElem?_append_right (by omega)]
        rw [show size + j - l.length = j by omega]
        exact hj)
      rw [Nat.add_assoc]
      exact this

theorem rowsK_ok {w : World} {ok : Nat → Nat} {g : List Value} {a : Act} {size : Nat} {k : List (List AV) → Res} :
    ∀ {ps : List (Nat × Operand)} {n : Nat}, rowsK .none G fr size n ps k = .ok c x bx' → (∀ p ∈ ps, RepS w ok g bx (ev G fr p.2) (a.eval p.2)) →
    ∃ rows, k rows = .ok c x bx' ∧ RepL w ok size rows (ps.map fun p => (a.eval p.2).cells.toList) ∧ ps.map (·.1) = List.range' n ps.length
  | [], n, h, _ => ⟨[], h, rfl, rfl⟩
  | (i, y) :: ps, n, h, ho => by
    simp only [rowsK] at h
    cases hi : Nat.beq i n with
    | false => rw [hi] at h; cases h
    | true =>
      rw [hi, cond_true] at h
      have hi := Nat.eq_of_beq_eq_true hi
      have ho0 : RepS w ok g bx (ev G fr y) (a.eval y) := ho (i, y) (List.mem_cons_self ..)
      obtain ⟨ys, h2, h3⟩ := cellsK_ok h ho0
      cases hs : Nat.beq ys.length size with
      | false => rw [hs] at h2; cases h2
      | true =>
        rw [hs, cond_true] at h2
        have hs := Nat.eq_of_beq_eq_true hs
        rcases avsK_eq Res.none ys (fun as => rowsK .none G fr size (n + 1) ps fun rs => k (as :: rs)) with e | e <;> rw [e] at h2
        · cases h2
        · obtain ⟨rows, e1, e2, e3⟩ := rowsK_ok h2 (fun p hp => ho p (List.mem_cons_of_mem _ hp))
          have h4 := RepSs.av ys _ h3
          refine ⟨SV.avs ys :: rows, e1, ⟨_, _, rfl, ⟨h4, ?_⟩, e2⟩, ?_⟩
          · rw [← h4.length, h3.length, hs]
          · simp only [List.map_cons, List.length_cons, List.range'_succ, e3, hi]

theorem fill_rows {size : Nat} : ∀ (ps : List (Nat × Value)) (n : Nat) (done : List Value) (arr : Array Value), ps.map (·.1) = List.range' n ps.length → (∀ p ∈ ps, p.2.cells.size = size) →
    done.length = n * size → arr.size = (n + ps.length) * size → arr.toList.take (n * size) = done →
    Instr.fill (fun i => some (i * size, size)) arr ps = some (done ++ (ps.map fun p => p.2.cells.toList).flatten).toArray
  | [], n, done, arr, _, _, hd, ha, ht => by
    simp only [Instr.fill, List.map_nil, List.flatten_nil, List.append_nil]
    rw [List.take_of_length_le (by simp [ha])] at ht
    rw [← ht]
  | (i, v) :: ps, n, done, arr, hi, hs, hd, ha, ht => by
    simp only [List.map_cons, List.length_cons, List.range'_succ, List.cons.injEq] at hi
    obtain ⟨rfl, hi⟩ := hi
    have hv : v.cells.size = size := hs (i, v) (List.mem_cons_self ..)
    simp only [List.length_cons] at ha
    have hle : i * size + v.cells.size ≤ arr.size := by
      rw [ha, hv]
      have : (i + (ps.length + 1)) * size = i * size + size + ps.length * size := by rw [Nat.add_mul, Nat.add_mul]; omega
      omega
    have hz := zipIdx_fold v (i * size) arr hle
    simp only [Instr.fill]
    rw [if_neg (by simp; omega)]
    have hsz : (v.cells.zipIdx.foldl (fun cs (x : Value × Nat) => cs.setIfInBounds (i * size + x.2) x.1) arr).size = arr.size := by
      rw [← Array.length_toList, hz]
      simp
      omega
    have := fill_rows ps (i + 1) (done ++ v.cells.toList) (v.cells.zipIdx.foldl (fun cs (x : Value × Nat) => cs.setIfInBounds (i * size + x.2) x.1) arr) hi
      (fun p hp => hs p (List.mem_cons_of_mem _ hp)) (by simp [hd, hv, Nat.add_mul]) (by rw [hsz, ha]; congr 1; omega) (by
        rw [hz, ht, ← hd]
        have e : (i + 1) * size = (done ++ v.cells.toList).length := by simp [hd, hv, Nat.add_mul]
        rw [e, List.append_assoc, ← List.append_assoc, List.take_left])
    rw [this]
    simp

theorem sound_buildSlice (hT : T.Ok P) {t : TypeId} {len : Nat} {parts : Array (Nat × Operand)} (h : evalO G T hint (.buildSlice t len parts) ty fr bx = .ok c x bx') : OpS P G ⟨dst, .buildSlice t len parts, ty, pos, after, guard⟩ fr bx x bx' := by
  simp only [evalO] at h
  split at h
  · rename_i e sz b zero ht
    obtain ⟨d, hu, hd⟩ := (Tab.ti_ok hT ht).under
    have hd := td_slice hd
    subst hd
    split at h
    · rename_i d' size b' zero' he
      cases hc : Nat.beq parts.toList.length len && Nat.ble (len * size) (2 ^ 24) with
      | false => rw [hc] at h; cases h
      | true =>
        rw [hc, cond_true] at h
        simp only [Bool.and_eq_true] at hc
        have hlen := Nat.eq_of_beq_eq_true hc.1
        have hle := Nat.le_of_ble_eq_true hc.2
        intro B w a ok g hr ho
        have hp : ∀ p ∈ parts.toList, RepS w ok g bx (ev G fr p.2) (a.eval p.2) := by
          intro p hp
          refine ho _ ?_
          simp only [Op.operands, List.mem_toArray, List.mem_map]
          exact ⟨p, hp, rfl⟩
        obtain ⟨rows, h1, h2, h3⟩ := rowsK_ok h hp
        cases h1
        obtain ⟨z, hz1, hz2⟩ := run_zero hT he w
        have hzl : z.cells.size = size := by
          rw [← Array.length_toList, hz2, List.length_map]
          exact (Tab.ti_ok hT he).zlen
        let ps := parts.toList.map fun p => (p.1, a.eval p.2)
        have hps : ∀ p ∈ ps, p.2.cells.size = size := by
          intro p hp
          simp only [ps, List.mem_map] at hp
          obtain ⟨q, hq, rfl⟩ := hp
          have h7 := h2.length.2 (a.eval q.2).cells.toList (List.mem_map.2 ⟨q, hq, rfl⟩)
          rw [Array.length_toList] at h7
          exact h7
        let zs : Array Value := (Array.range (len * size)).map (fun i => (if len * size = 0 then #[] else z.cells)[i % (if len * size = 0 then (#[] : Array Value) else z.cells).size]!)
        have hf := fill_rows (size := size) ps 0 [] zs (by
            simp only [ps, List.map_map, List.length_map]
            exact h3) hps (by simp) (by simp [zs, ps, hlen]) (by simp)
        simp only [List.nil_append] at hf
        let l := (ps.map fun p => p.2.cells.toList).flatten
        have hll : l.length = len * size := by
          have : ∀ (qs : List (Nat × Value)), (∀ p ∈ qs, p.2.cells.size = size) → (qs.map fun p => p.2.cells.toList).flatten.length = qs.length * size := by
            intro qs
            induction qs with
            | nil => intro _; simp
            | cons q qs ih =>
              intro hq
              simp only [List.map_cons, List.flatten_cons, List.length_append, Array.length_toList, List.length_cons, Nat.add_mul, Nat.one_mul]
              rw [ih (fun p hp => hq p (List.mem_cons_of_mem _ hp)), hq q (List.mem_cons_self ..)]
              omega
          rw [this ps hps]
          simp only [ps, List.length_map]
          rw [hlen]
        obtain ⟨g1, g2⟩ := hr.row l.toArray e
        refine ⟨.slice (some (pl w.heap.size 0)) len len, _, _, g, .inl ?_, g1, g2, Laters.refl hr.boxes.len, ?_⟩
        · have e4 : (parts.map fun p => (p.1, a.eval p.2)).toList = ps := by simp [ps]
          have hnot : ¬ len * size > 2 ^ 24 := by omega
          simp only [execOp, Instr.buildSlice, Sem.run_bind, underlying, program, Sem.run, hu, Result.andThen_ok, Sem.run_pure, run_size hT he, if_neg hnot, e4]
          by_cases h0 : len * size = 0
          · simp only [zs, if_pos h0] at hf
            simp only [if_pos h0, Sem.run_bind, Sem.run_pure, Result.andThen_ok, hf]
            rfl
          · simp only [zs, if_neg h0] at hf
            simp only [if_neg h0, Sem.run_bind, Sem.run_pure, Result.andThen_ok, hz1, hf]
            rfl
        · simp only [RepS, Rep]
          have hrl : rows.length = len := by
            rw [h2.length.1]
            simpa using hlen
          refine ⟨some (pl w.heap.size 0), len, by rw [hrl], by omega, fun _ => hrl.symm, .inr ⟨w.heap.size, 0, rfl, ?_⟩⟩
          have h2' := RepL.ext g2 h2
          refine RepRows.of (arr := l.toArray) (E := e) (fz := (0, 0)) heap_grow_new (by simp) h2' ?_
          intro j v hj
          rw [Nat.zero_add]
          have e5 : (parts.toList.map fun p => (a.eval p.2).cells.toList) = ps.map fun p => p.2.cells.toList := by simp [ps]
          rw [e5] at hj
          simpa [l] using hj
    · cases h
  · cases h

end
end Go.Abs

namespace Go.Abs
open Go

theorem evalO_sound {P : Program} {T : Tab} (hT : T.Ok P) {G : Glob} {o : Oper} {fr : Fr} {bx bx' : List Box} {x : SV} {hint : List AV} {c : Prop}
    (h : evalO G T hint o.op o.type fr bx = .ok c x bx') (hc : c) : OpS P G o fr bx x bx' := by
  obtain ⟨dst, op, ty, pos, after, guard⟩ := o
  cases op with
  | move y => exact sound_move hT h
  | assign y => exact sound_assign hT h
  | pick y p q => exact sound_pick h
  | load t y => exact sound_load hT h
  | nilCheck y => exact sound_nilCheck h
  | fieldAddr s y i => exact sound_fieldAddr hT h
  | field s y i => exact sound_field hT h
  | index t y z => exact sound_index hT h hc
  | indexAddr t y z => exact sound_indexAddr hT h hc
  | binOp op t y z t' => exact sound_binOp h hc
  | unOp op t y => exact sound_not h
  | convert s t y => exact sound_convert hT h
  | makeInterface t y => exact sound_makeInterface hT h
  | makeFunc fn first captured => exact sound_makeFunc h
  | build t parts => exact sound_build hT h
  | buildSlice t len parts => exact sound_buildSlice hT h
  | slice t y lo hi mx => exact sound_slice hT h hc
  | extract y i => exact sound_extract h
  | alloc t => exact sound_alloc hT h
  | box t y => exact sound_box h
  | store t p y => exact sound_store hT h
  | call cl =>
    obtain ⟨callee, args, ts⟩ := cl
    cases callee with
    | builtin b => cases b <;> first | exact sound_len hT h | (simp only [evalO, reduceCtorEq] at h)
    | value f => simp only [evalO, reduceCtorEq] at h
    | invoke r m => simp only [evalO, reduceCtorEq] at h
  | _ => simp only [evalO, reduceCtorEq] at h

/-- How a piece of code is left. -/
inductive Ex where
  | normal
  | exit (id : Nat)
  | goto (l : Nat)
  | ret
  | panic (x : AV)

structure RelF (G : Glob) (w : World) (ok : Nat → Nat) (g : List Value) (bx : List Box) (fr : Fr) (a : Act) (N : Nat) (ds : List Deferred) : Prop where
  size : a.tmps.size = N
  tmps : ∀ t, RepS w ok g bx (look fr t) (a.tmps.getD t undef)
  defers : a.defers = ds

def RelX (w : World) (ok : Nat → Nat) : Ex → Exit → Prop
  | .normal, e => e = .normal
  | .exit id, e => e = .exit id
  | .goto l, e => e = .goto l
  | .ret, e => e = .ret
  | .panic x, e => ∃ u, e = .panic [{ v := u, recovered := false }] ∧ Rep w ok x u

/-- A postcondition, of the model's own state. -/
def QC (G : Glob) (N : Nat) (B : Base) (ds : List Deferred) (Q : Ex → Fr → List Box → Prop) : Exit → Act → World → Prop := fun e a w =>
  ∃ e' fr bx ok g, RelX w ok e' e ∧ RelW G B w ok g bx ∧ RelF G w ok g bx fr a N ds ∧ Q e' fr bx

/-- A piece of code, from a frame and boxes on. -/
def AW (P : Program) (G : Glob) (N : Nat) (c : Code) (Q : Ex → Fr → List Box → Prop) (fr : Fr) (bx : List Box) : Prop :=
  ∀ B ds w a ok g, RelW G B w ok g bx → RelF G w ok g bx fr a N ds → c.wp P (QC G N B ds Q) a w

/-- The operations of a region, one behind the other. -/
def Reg (P : Program) (G : Glob) (N : Nat) (ops : Array Oper) (K : Ex → Fr → List Box → Prop) (ord : List Nat) (fr : Fr) (bx : List Box) : Prop :=
  ∀ B ds w a ok g, RelW G B w ok g bx → RelF G w ok g bx fr a N ds → wpOps P ops (QC G N B ds K) ord a w

/-- What stands behind a piece. -/
def thenA (next : Fr → List Box → Prop) (Q : Ex → Fr → List Box → Prop) : Ex → Fr → List Box → Prop
  | .normal, fr, bx => next fr bx
  | e, fr, bx => Q e fr bx

def blockA (id : Nat) (Q : Ex → Fr → List Box → Prop) : Ex → Fr → List Box → Prop
  | .exit id', fr, bx => if id' = id then Q .normal fr bx else Q (.exit id') fr bx
  | e, fr, bx => Q e fr bx

section
variable {P : Program} {G : Glob} {N : Nat} {Q : Ex → Fr → List Box → Prop} {fr : Fr} {bx : List Box}

theorem AW.mono {c : Code} {Q' : Ex → Fr → List Box → Prop} (h : AW P G N c Q fr bx) (hq : ∀ e fr bx, Q e fr bx → Q' e fr bx) : AW P G N c Q' fr bx := by
  intro B ds w a ok g hr hf
  refine wp_mono (h B ds w a ok g hr hf) ?_
  rintro e a w ⟨e', fr', bx', ok', g', h1, h2, h3, h4⟩
  exact ⟨e', fr', bx', ok', g', h1, h2, h3, hq _ _ _ h4⟩

theorem AW.skip (h : Q .normal fr bx) : AW P G N .skip Q fr bx :=
  fun _ _ _ _ ok g hr hf => wp_skip ⟨.normal, fr, bx, ok, g, rfl, hr, hf, h⟩
theorem AW.label {l : Nat} (h : Q .normal fr bx) : AW P G N (.label l) Q fr bx :=
  fun _ _ _ _ ok g hr hf => wp_label ⟨.normal, fr, bx, ok, g, rfl, hr, hf, h⟩
theorem AW.exit {id : Nat} (h : Q (.exit id) fr bx) : AW P G N (.exit id) Q fr bx :=
  fun _ _ _ _ ok g hr hf => wp_exit ⟨.exit id, fr, bx, ok, g, rfl, hr, hf, h⟩
theorem AW.goto {l : Nat} (h : Q (.goto l) fr bx) : AW P G N (.goto l) Q fr bx :=
  fun _ _ _ _ ok g hr hf => wp_goto ⟨.goto l, fr, bx, ok, g, rfl, hr, hf, h⟩
theorem AW.ret (h : Q .ret fr bx) : AW P G N .ret Q fr bx :=
  fun _ _ _ _ ok g hr hf => wp_ret ⟨.ret, fr, bx, ok, g, rfl, hr, hf, h⟩

theorem AW.seq {x y : Code} (h : AW P G N x (thenA (AW P G N y Q) Q) fr bx) : AW P G N (.seq x y) Q fr bx := by
  intro B ds w a ok g hr hf
  refine wp_seq (wp_mono (h B ds w a ok g hr hf) ?_)
  rintro e a w ⟨e', fr', bx', ok', g', h1, h2, h3, h4⟩
  cases e' with
  | normal =>
    simp only [RelX] at h1
    subst h1
    exact h4 B ds w a ok' g' h2 h3
  | exit id =>
    simp only [RelX] at h1
    subst h1
    exact ⟨.exit id, fr', bx', ok', g', rfl, h2, h3, h4⟩
  | goto l =>
    simp only [RelX] at h1
    subst h1
    exact ⟨.goto l, fr', bx', ok', g', rfl, h2, h3, h4⟩
  | ret =>
    simp only [RelX] at h1
    subst h1
    exact ⟨.ret, fr', bx', ok', g', rfl, h2, h3, h4⟩
  | panic x =>
    simp only [RelX] at h1
    obtain ⟨u, rfl, h1⟩ := h1
    exact ⟨.panic x, fr', bx', ok', g', ⟨u, rfl, h1⟩, h2, h3, h4⟩

theorem AW.block {id : Nat} {c : Code} (h : AW P G N c (blockA id Q) fr bx) : AW P G N (.block id c) Q fr bx := by
  intro B ds w a ok g hr hf
  refine wp_block (wp_mono (h B ds w a ok g hr hf) ?_)
  rintro e a w ⟨e', fr', bx', ok', g', h1, h2, h3, h4⟩
  cases e' with
  | normal =>
    simp only [RelX] at h1
    subst h1
    exact ⟨.normal, fr', bx', ok', g', rfl, h2, h3, h4⟩
  | exit id' =>
    simp only [RelX] at h1
    subst h1
    simp only [blockA] at h4
    simp only [Exit.inBlock]
    split
    · rename_i e
      rw [if_pos e] at h4
      exact ⟨.normal, fr', bx', ok', g', rfl, h2, h3, h4⟩
    · rename_i e
      rw [if_neg e] at h4
      exact ⟨.exit id', fr', bx', ok', g', rfl, h2, h3, h4⟩
  | goto l =>
    simp only [RelX] at h1
    subst h1
    exact ⟨.goto l, fr', bx', ok', g', rfl, h2, h3, h4⟩
  | ret =>
    simp only [RelX] at h1
    subst h1
    exact ⟨.ret, fr', bx', ok', g', rfl, h2, h3, h4⟩
  | panic x =>
    simp only [RelX] at h1
    obtain ⟨u, rfl, h1⟩ := h1
    exact ⟨.panic x, fr', bx', ok', g', ⟨u, rfl, h1⟩, h2, h3, h4⟩

theorem RelF.ev {w : World} {ok : Nat → Nat} {g : List Value} {a : Act} {ds : List Deferred} {B : Base} (hr : RelW G B w ok g bx) (hf : RelF G w ok g bx fr a N ds) (x : Operand) :
    RepS w ok g bx (ev G fr x) (a.eval x) := by
  cases x with
  | tmp t => exact hf.tmps t
  | const v => simp only [Abs.ev, Act.eval, RepS, Rep]
  | global gl =>
    simp only [Abs.ev, Act.eval, RepS, Rep]
    exact ⟨gl, 0, rfl, hr.glob gl⟩
  | func f =>
    simp only [Abs.ev, Act.eval, RepS, RepSs]
    exact ⟨[], rfl, rfl⟩

theorem AW.cond {c : Operand} {x y : Code} {b : Bool} (hc : ev G fr c = .d (.val (.bool b))) (ht : b = true → AW P G N x Q fr bx) (hf : b = false → AW P G N y Q fr bx) :
    AW P G N (.cond c x y) Q fr bx := by
  intro B ds w a ok g hr hfr
  have h1 := hfr.ev hr c
  rw [hc] at h1
  simp only [RepS, Rep] at h1
  refine wp_cond_split h1 (fun e => ht e B ds w a ok g hr hfr) (fun e => hf e B ds w a ok g hr hfr)

theorem AW.region {id : Nat} {ops : Array Oper} (h : Reg P G N ops Q (List.range ops.size) fr bx) : AW P G N (.region id ops false) Q fr bx :=
  fun B ds w a ok g hr hf => wp_region (h B ds w a ok g hr hf)

theorem Reg.nil {ops : Array Oper} (h : Q .normal fr bx) : Reg P G N ops Q [] fr bx :=
  fun _ _ _ _ ok g hr hf => ⟨.normal, fr, bx, ok, g, rfl, hr, hf, h⟩

end
end Go.Abs

namespace Go.Abs
open Go

mutual
/-- A value names no box from n on. -/
def SV.fits (n : Nat) : SV → Bool
  | .d _ => true
  | .ptr id _ => decide (id < n)
  | .own id _ _ => decide (id < n)
  | .clo _ cap => SV.fitss n cap
  | .tup vs => SV.fitss n vs
  | .agg cs => SV.fitss n cs
def SV.fitss (n : Nat) : List SV → Bool
  | [] => true
  | x :: xs => SV.fits n x && SV.fitss n xs
end

mutual
/-- A value with other numbers of the boxes. -/
def SV.ren (r : Nat → Nat) : SV → SV
  | .d x => .d x
  | .ptr id off => .ptr (r id) off
  | .own id s rows => .own (r id) s rows
  | .clo f cap => .clo f (SV.rens r cap)
  | .tup vs => .tup (SV.rens r vs)
  | .agg cs => .agg (SV.rens r cs)
def SV.rens (r : Nat → Nat) : List SV → List SV
  | [] => []
  | x :: xs => SV.ren r x :: SV.rens r xs
end

def Box.ren (r : Nat → Nat) : Box → Box
  | .cells cs => .cells (SV.rens r cs)
  | .acc s hw => .acc s hw
  | .dead => .dead

def kindEq : Option Box → Option Box → Prop
  | none, b => b = none
  | some (.cells _), b => ∃ cs, b = some (.cells cs)
  | some (.acc s hw), b => b = some (.acc s hw)
  | some .dead, b => b = some .dead

theorem kindEq.acc {x y : Option Box} (h : kindEq x y) (s hw : Nat) : x = some (.acc s hw) ↔ y = some (.acc s hw) := by
  unfold kindEq at h
  split at h
  · subst h; simp
  · obtain ⟨cs, rfl⟩ := h; simp
  · subst h; rfl
  · subst h; simp
theorem kindEq.dead {x y : Option Box} (h : kindEq x y) : x = some .dead ↔ y = some .dead := by
  unfold kindEq at h
  split at h
  · subst h; simp
  · obtain ⟨cs, rfl⟩ := h; simp
  · subst h; simp
  · subst h; rfl

def Corr (r : Nat → Nat) (g0 : List Value) (bx0 : List Box) (g : List Value) (bx : List Box) : Prop :=
  ∀ k : Nat, g[r k]? = g0[k]? ∧ kindEq (bx0[k]?) (bx[r k]?)

theorem OwnOk_iff {g : List Value} {bx : List Box} {id size n : Nat} {v : Value} :
    OwnOk g bx id size n v ↔ (∃ hw, bx[id]? = some (.acc size hw) ∧ n ≤ hw ∧ (hw = n → g[id]? = some v)) ∨ bx[id]? = some .dead := by
  unfold OwnOk
  split
  · rename_i s hw h
    rw [h]
    constructor
    · rintro ⟨rfl, h1, h2⟩
      exact .inl ⟨hw, rfl, h1, h2⟩
    · rintro (⟨hw', e, h1, h2⟩ | e)
      · cases e
        exact ⟨rfl, h1, h2⟩
      · cases e
  · rename_i h
    simp [h]
  · rename_i h1 h2
    constructor
    · exact fun h => h.elim
    · rintro (⟨hw, e, _⟩ | e)
      · exact h1 _ _ e
      · exact h2 e

section
variable {w : World} {ok : Nat → Nat} {g0 g : List Value} {bx0 bx : List Box} {r : Nat → Nat}
mutual
theorem RepS.ren (hc : Corr r g0 bx0 g bx) : ∀ (x : SV) (v : Value), RepS w ok g bx (x.ren r) v ↔ RepS w ok g0 bx0 x v
  | .d x, v => by simp only [SV.ren, RepS]
  | .ptr id off, v => by
    simp only [SV.ren, RepS]
    rw [(hc id).1]
    constructor
    · rintro ⟨h1, h2⟩
      exact ⟨fun s h e => h1 s h (((hc id).2.acc s h).1 e), h2⟩
    · rintro ⟨h1, h2⟩
      exact ⟨fun s h e => h1 s h (((hc id).2.acc s h).2 e), h2⟩
  | .own id s rows, v => by
    simp only [SV.ren, RepS, OwnOk_iff]
    rw [(hc id).1]
    have h1 := (hc id).2
    constructor
    · rintro ⟨h2, ⟨hw, h3, h4⟩ | h3⟩
      · exact ⟨h2, .inl ⟨hw, (h1.acc s hw).2 h3, h4⟩⟩
      · exact ⟨h2, .inr (h1.dead.2 h3)⟩
    · rintro ⟨h2, ⟨hw, h3, h4⟩ | h3⟩
      · exact ⟨h2, .inl ⟨hw, (h1.acc s hw).1 h3, h4⟩⟩
      · exact ⟨h2, .inr (h1.dead.1 h3)⟩
  | .clo f cap, v => by
    simp only [SV.ren, RepS, RepSs.ren hc cap]
  | .tup vs, v => by
    simp only [SV.ren, RepS, RepSs.ren hc vs]
  | .agg cs, v => by
    simp only [SV.ren, RepS, RepSs.ren hc cs]
theorem RepSs.ren (hc : Corr r g0 bx0 g bx) : ∀ (xs : List SV) (l : List Value), RepSs w ok g bx (SV.rens r xs) l ↔ RepSs w ok g0 bx0 xs l
  | [], l => by simp only [SV.rens, RepSs]
  | x :: xs, l => by
    simp only [SV.rens, RepSs, RepS.ren hc x, RepSs.ren hc xs]
end
end

section
variable {w : World} {ok : Nat → Nat} {g : List Value} {bx : List Box} {n : Nat}
mutual
theorem RepS.trim : ∀ (x : SV) (v : Value), x.fits n = true → RepS w ok g bx x v → RepS w ok (g.take n) (bx.take n) x v
  | .d x, v => by simp only [RepS]; exact fun _ => id
  | .ptr id off, v => by
    simp only [RepS, SV.fits]
    intro h
    have h := of_decide_eq_true h
    rw [List.getElem?_take_of_lt h, List.getElem?_take_of_lt h]
    exact fun h => h
  | .own id s rows, v => by
    simp only [RepS, SV.fits, OwnOk_iff]
    intro h
    have h := of_decide_eq_true h
    rw [List.getElem?_take_of_lt h, List.getElem?_take_of_lt h]
    exact fun h => h
  | .clo f cap, v => by
    simp only [RepS, SV.fits]
    rintro h ⟨l, h1, h2⟩
    exact ⟨l, h1, RepSs.trim cap l h h2⟩
  | .tup vs, v => by
    simp only [RepS, SV.fits]
    rintro h ⟨l, h1, h2⟩
    exact ⟨l, h1, RepSs.trim vs l h h2⟩
  | .agg cs, v => by
    simp only [RepS, SV.fits]
    rintro h ⟨l, h1, h2⟩
    exact ⟨l, h1, RepSs.trim cs l h h2⟩
theorem RepSs.trim : ∀ (xs : List SV) (l : List Value), SV.fitss n xs = true → RepSs w ok g bx xs l → RepSs w ok (g.take n) (bx.take n) xs l
  | [], l => by simp only [RepSs]; exact fun _ => id
  | x :: xs, l => by
    simp only [RepSs, SV.fitss, Bool.and_eq_true]
    rintro h ⟨v, r, h1, h2, h3⟩
    exact ⟨v, r, h1, RepS.trim x v h.1 h2, RepSs.trim xs r h.2 h3⟩
end
end

def Box.fits (n : Nat) : Box → Bool
  | .cells cs => SV.fitss n cs
  | _ => true

theorem blk_take {g : List Value} {bx : List Box} {n i b : Nat} (h : blk (g.take n) (bx.take n) i = some b) : i < n ∧ blk g bx i = some b := by
  rcases Nat.lt_or_ge i n with hi | hi
  · refine ⟨hi, ?_⟩
    unfold blk at *
    rw [List.getElem?_take_of_lt hi, List.getElem?_take_of_lt hi] at h
    exact h
  · unfold blk at h
    rw [List.getElem?_eq_none_iff.2 (by simp; omega : (bx.take n).length ≤ i)] at h
    cases h

/-- Boxes that nothing names are let go. -/
theorem RelW.trim {G : Glob} {B : Base} {w : World} {ok : Nat → Nat} {g : List Value} {bx : List Box} (h : RelW G B w ok g bx) {n : Nat} (hn : B.bx.length ≤ n) (hb : (bx.take n).all (Box.fits n) = true) :
    RelW G B w ok (g.take n) (bx.take n) where
  size := h.size
  keep := h.keep
  ext := h.ext
  dom := fun i b hi => h.dom i b (blk_take hi).2
  wf := h.wf
  rest := h.rest
  glob := h.glob
  ids := fun i hi => by
    have hlt : i < n := by omega
    rw [List.getElem?_take_of_lt hlt, List.getElem?_take_of_lt hlt]
    exact h.ids i hi
  boxes :=
    { len := by rw [List.length_take, List.length_take, h.boxes.len]
      cells := fun i cs hi => by
        have hlt : i < n := by
          have := (List.getElem?_eq_some_iff.1 hi).1
          rw [List.length_take] at this
          omega
        have hcs := List.all_eq_true.1 hb _ (List.mem_of_getElem? hi)
        rw [List.getElem?_take_of_lt hlt] at hi
        obtain ⟨b, arr, E, h1, h2, h3, h4⟩ := h.boxes.cells i cs hi
        exact ⟨b, arr, E, by rw [List.getElem?_take_of_lt hlt]; exact h1, h2, h3, RepSs.trim cs _ hcs h4⟩
      acc := fun i size hw hi => by
        have hlt : i < n := by
          have := (List.getElem?_eq_some_iff.1 hi).1
          rw [List.length_take] at this
          omega
        rw [List.getElem?_take_of_lt hlt] at hi
        obtain ⟨p, cap, h1, h2⟩ := h.boxes.acc i size hw hi
        exact ⟨p, cap, by rw [List.getElem?_take_of_lt hlt]; exact h1, h2⟩
      apart := fun i j b hi hj => h.boxes.apart i j b (blk_take hi).2 (blk_take hj).2 }

/-- The same place, as a beginning. -/
theorem RelW.self {G : Glob} {B : Base} {w : World} {ok : Nat → Nat} {g : List Value} {bx : List Box} (h : RelW G B w ok g bx) : RelW G ⟨w, ok, g, bx⟩ w ok g bx where
  size := Nat.le_refl _
  keep := fun _ _ _ => ⟨rfl, rfl⟩
  ext := Ext.refl _ _
  dom := fun i _ hi => .inl ⟨i, hi⟩
  wf := h.wf
  rest := ⟨rfl, rfl, rfl⟩
  glob := h.glob
  ids := fun i (hi : i < bx.length) => Later.same _ _ (fun e => by rw [List.getElem?_eq_none_iff] at e; exact (Nat.not_le.2 hi e).elim)
  boxes := h.boxes

end Go.Abs
