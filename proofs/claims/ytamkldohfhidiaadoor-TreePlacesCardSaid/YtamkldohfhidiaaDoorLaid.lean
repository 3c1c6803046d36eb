import Derived.Test.YtamkldohfhidiaaDoorW13
import Derived.Test.YtamkldohfhidiaaDoorRows
import Derived.Lib.LaidU8
import Derived.Deep.DeepHandedRow
import Derived.OpenShut
import Derived.ChangeMaps5
import Derived.ProofKit
namespace Go.Proofs.YtamkldohfhidiaaDoor
open Go Go.Abs Go.Lib

theorem gn0 : Tryd.prog.globalNamed "hypercube/lex.signs" = some 0 := by kernel_rfl
theorem gn1 : Tryd.prog.globalNamed "unicode/utf8.first" = some 1 := by kernel_rfl
theorem gn2 : Tryd.prog.globalNamed "unicode/utf8.acceptRanges" = some 2 := by kernel_rfl
theorem gy0 : (Tryd.prog.globals[0]?).map (·.type) = some 92 := by kernel_rfl
theorem gy1 : (Tryd.prog.globals[1]?).map (·.type) = some 109 := by kernel_rfl
theorem gy2 : (Tryd.prog.globals[2]?).map (·.type) = some 113 := by kernel_rfl
theorem cof5 : Tryd.prog.cellsOf 5 = 1 := by kernel_rfl
theorem cof9 : Tryd.prog.cellsOf 9 = 1 := by kernel_rfl
theorem cof109 : Tryd.prog.cellsOf 109 = 256 := by kernel_rfl
theorem cof112 : Tryd.prog.cellsOf 112 = 2 := by kernel_rfl

/-- The three rows' list of laid variables. -/
def laidL : List (String × DataW Unit) :=
  [("unicode/utf8.acceptRanges", Rows.laid_unicode_utf8_acceptRanges), ("hypercube/lex.signs", Rows.laid_hypercube_lex_signs), ("unicode/utf8.first", Rows.laid_unicode_utf8_first)]

set_option maxRecDepth 100000 in
theorem first_data : Rows.laid_unicode_utf8_first = tabData .u8 firstTab := by kernel_rfl
set_option maxRecDepth 100000 in
theorem accept_data : (Rows.laid_unicode_utf8_acceptRanges : DataW Unit) = acceptData := by kernel_rfl
theorem signs_data : (Rows.laid_hypercube_lex_signs : DataW Unit) = .agg (signsL.map fun x => .lit (.string x)) := by kernel_rfl

/-- AN ARRAY OF STRINGS, cell for cell. -/
theorem strs_of_array {W : World} {fuel : Nat} {cs : List Value} {l : List (List UInt8)} {p : List MemPlace}
    (h : DataW.trod (fun _ => ()) Tryd.prog W 0 (fun _ => true) false fuel 92 cs = some (.agg (l.map fun x => .lit (.string x)), p)) (i : Nat) (hi : i < 20) {x : List UInt8} (hx : l[i]? = some x) :
    cs[i]? = some (.string (bsL x)) := by
  obtain ⟨fuel', d, q, hd, he⟩ := array_elem Tryd.underlying92 h i hi
  rw [cof9] at he
  obtain ⟨s, hs, hy, _⟩ := DataW.trod_string Tryd.underlying9 he
  simp only [List.getElem?_map, hx, Option.map_some, Option.some.injEq] at hd
  subst hd
  simp only [Prod.mk.injEq, DataW.lit.injEq, Lit.string.injEq] at hy
  obtain ⟨rfl, _⟩ := hy
  have := congrArg (·[0]?) hs
  simp only [List.getElem?_take, List.getElem?_drop] at this
  simpa [bsL] using this

theorem RepAt.ofVals {w : World} {ok : Nat → Nat} : ∀ {vs : List Value} {b o : Nat}, (∀ i v, vs[i]? = some v → o + i < ok b ∧ w.cell? (pl b (o + i)) = some v) → RepAt w ok (vs.map .val) b o
  | [], _, _, _ => by simp only [List.map_nil, RepAt]
  | v :: vs, b, o, h => by
    simp only [List.map_cons, RepAt]
    have h0 := h 0 v rfl
    refine ⟨h0.1, ⟨v, h0.2, by simp only [Rep]⟩, RepAt.ofVals fun i u hu => ?_⟩
    have := h (i + 1) u (by simpa using hu)
    rwa [show o + (i + 1) = o + 1 + i by omega] at this

/-- What is settled when a call of the law begins: the three tables. -/
def ok0 : Nat → Nat
  | 0 => 20
  | 1 => 256
  | 2 => 32
  | _ => 0

theorem glob0 {W : World} (h : laidMet Tryd.prog laidL W) : ∀ gl, RepAt W ok0 (GD gl) gl 0 := by
  have hs : VarReads Tryd.prog W "hypercube/lex.signs" Rows.laid_hypercube_lex_signs := laidMet.reads h (by simp [laidL])
  have hf : VarReads Tryd.prog W "unicode/utf8.first" Rows.laid_unicode_utf8_first := laidMet.reads h (by simp [laidL])
  have ha : VarReads Tryd.prog W "unicode/utf8.acceptRanges" Rows.laid_unicode_utf8_acceptRanges := laidMet.reads h (by simp [laidL])
  intro gl
  match gl with
  | 0 =>
    obtain ⟨g, t, cs, fuel, p, hg, hty, hvar, hd⟩ := hs
    obtain rfl := Option.some.inj (gn0.symm.trans hg)
    obtain rfl := Option.some.inj (gy0.symm.trans hty)
    rw [signs_data] at hd
    show RepAt W ok0 (signsL.map fun x => .val (.string (bsL x))) 0 0
    have := RepAt.ofVals (w := W) (ok := ok0) (vs := signsL.map fun x => .string (bsL x)) (b := 0) (o := 0) (fun i v hv => by
      simp only [List.getElem?_map, Option.map_eq_some_iff] at hv
      obtain ⟨x, hx, rfl⟩ := hv
      have hi : i < 20 := by
        have := (List.getElem?_eq_some_iff.1 hx).1
        simpa [signsL] using this
      refine ⟨by simpa [ok0] using hi, ?_⟩
      rw [Nat.zero_add]
      show W.cell? ⟨0, i, none⟩ = _
      rw [World.var?_cell hg hvar i, ← Array.getElem?_toList]
      exact strs_of_array hd i hi hx)
    rw [List.map_map] at this
    exact this
  | 1 =>
    obtain ⟨g, t, cs, fuel, p, hg, hty, hvar, hd⟩ := hf
    obtain rfl := Option.some.inj (gn1.symm.trans hg)
    obtain rfl := Option.some.inj (gy1.symm.trans hty)
    rw [first_data] at hd
    have hcs := cells_of_tab Tryd.underlying109 Tryd.underlying5 cof5 cof109 hd
    have := RepAt.ofVals (w := W) (ok := ok0) (vs := (List.range 256).map fun c => .int .u8 (firstT c)) (b := 1) (o := 0) (fun i v hv => by
      simp only [List.getElem?_map, Option.map_eq_some_iff] at hv
      obtain ⟨x, hx, rfl⟩ := hv
      have hi : i < 256 := by
        have := (List.getElem?_eq_some_iff.1 hx).1
        simpa using this
      rw [List.getElem?_range hi] at hx
      cases hx
      refine ⟨by simpa [ok0] using hi, ?_⟩
      rw [Nat.zero_add]
      show W.cell? ⟨1, i, none⟩ = _
      rw [World.var?_cell hg hvar i, ← Array.getElem?_toList, hcs]
      simp [firstTab, hi])
    rw [List.map_map] at this
    exact this
  | 2 =>
    obtain ⟨g, t, cs, fuel, p, hg, hty, hvar, hd⟩ := ha
    obtain rfl := Option.some.inj (gn2.symm.trans hg)
    obtain rfl := Option.some.inj (gy2.symm.trans hty)
    rw [accept_data] at hd
    have key : ∀ i, i < 16 → cs[2 * i]? = some (.int .u8 (accLo i)) ∧ cs[2 * i + 1]? = some (.int .u8 (accHi i)) := fun i hi => by
      obtain ⟨fuel', d, q, hdi, he⟩ := array_elem Tryd.underlying113 hd i hi
      simp only [List.getElem?_map, List.getElem?_range hi, Option.map_some, Option.some.injEq] at hdi
      subst hdi
      rw [cof112] at he
      have hcs := ints_of_struct Tryd.underlying112 (fun j f hj => by
        match j, hj with
        | 0, hj => simp at hj; subst hj; exact ⟨Tryd.underlying5, rfl, cof5⟩
        | 1, hj => simp at hj; subst hj; exact ⟨Tryd.underlying5, rfl, cof5⟩
        | j + 2, hj => simp at hj) (by rw [cof112]; rfl) he
      have e0 := congrArg (·[0]?) hcs
      have e1 := congrArg (·[1]?) hcs
      simp only [List.getElem?_take, List.getElem?_drop] at e0 e1
      rw [← Array.getElem?_toList, ← Array.getElem?_toList]
      exact ⟨by simpa [Nat.mul_comm] using e0, by simpa [Nat.mul_comm] using e1⟩
    have := RepAt.ofVals (w := W) (ok := ok0) (vs := (List.range 32).map fun i => .int .u8 (if i % 2 = 0 then accLo (i / 2) else accHi (i / 2))) (b := 2) (o := 0) (fun i v hv => by
      simp only [List.getElem?_map, Option.map_eq_some_iff] at hv
      obtain ⟨x, hx, rfl⟩ := hv
      have hi : i < 32 := by
        have := (List.getElem?_eq_some_iff.1 hx).1
        simpa using this
      rw [List.getElem?_range hi] at hx
      cases hx
      refine ⟨by simpa [ok0] using hi, ?_⟩
      rw [Nat.zero_add]
      show W.cell? ⟨2, i, none⟩ = _
      rw [World.var?_cell hg hvar i]
      obtain ⟨k1, k2⟩ := key (i / 2) (by omega)
      by_cases h2 : i % 2 = 0
      · rw [if_pos h2, ← k1, show 2 * (i / 2) = i by omega]
      · rw [if_neg h2, ← k2, show 2 * (i / 2) + 1 = i by omega])
    rw [List.map_map] at this
    exact this
  | n + 3 => simp only [GD, RepAt]

theorem relW0 {W : World} (h : laidMet Tryd.prog laidL W) : RelW GD ⟨W, ok0, [], []⟩ W ok0 [] [] := by
  have hg := glob0 h
  refine ⟨Nat.le_refl _, fun b _ _ => ⟨rfl, rfl⟩, Ext.refl _ _, fun i b hb => by simp [blk] at hb, fun b hb => ?_, ⟨rfl, rfl, rfl⟩, hg, fun i hi => by simp at hi, ?_⟩
  · have inb : ∀ v, W.cell? (pl b 0) = some v → b < W.heap.size := fun v hv => by
      by_cases hlt : b < W.heap.size
      · exact hlt
      · unfold World.cell? at hv
        simp [show W.heap[b]? = none from Array.getElem?_eq_none (by omega)] at hv
    match b, hb with
    | 0, _ => exact inb _ (RepAt.val (i := 0) (hg 0) rfl)
    | 1, _ => exact inb _ (RepAt.val (i := 0) (hg 1) rfl)
    | 2, _ => exact inb _ (RepAt.val (i := 0) (hg 2) rfl)
    | n + 3, hb => exact (hb rfl).elim
  · exact ⟨rfl, fun i cs h => by simp at h, fun i s w h => by simp at h, fun i j b h => by simp [blk] at h⟩

theorem laid_of {W : World} (h : laidMetH Tryd.prog laidL W) : laidMet Tryd.prog laidL W := by
  have e : (laidL.filter fun x => x.2.handleName?.isSome) = [] := by kernel_rfl
  unfold laidMetH at h
  rw [e] at h
  exact h

/-- A block with other cells in it. -/
def relaid (vs : List Value) : Obj → Obj
  | .cells _ t frozen => .cells vs.toArray t frozen
  | o => o

theorem relW_below {W w' : World} {ok' : Nat → Nat} {g : List Value} {bx : List Box} (h : RelW GD ⟨W, ok0, [], []⟩ w' ok' g bx) : Go.RowKit.Below W.heap.size W w' :=
  ⟨h.rest.2.1, h.rest.1, h.rest.2.2, h.size, fun k hk => (h.keep k hk (fun i => by simp [blk])).1⟩

/-- What a call of a law gives, whatever the program. -/
def Holds1 (P : Program) (f : FuncId) (vs : Array Value) (W : World) : Prop :=
  Calls P f vs W fun e w' => e = .returned (.bool true) ∧ Go.RowKit.Below W.heap.size W w'

open Go.ChangeShapes Go.WideShapes Go.ChangeAt Go.RowKit in
/-- A law of one string. -/
theorem contract1 {P : Program} {f : FuncId} {fn : Func} {spec : ChangeSpec} (hp : fn.params = #[9]) (hr : fn.resultTypes = #[4]) (u9 : P.underlying 9 = some .string) (u4 : P.underlying 4 = some .bool)
    (hv : spec.vars = []) (hs : ∀ (H : Type) (d : DataW H), spec.fn H [d] = { results := [.lit (.bool true)], args := [d] })
    (H : Type) (enc : TypeId × Value → H) (W : World) (base : Nat) (args : Array Value) (ds gs : List (DataW H)) (before : List MemPlace)
    (hval : ∀ (j : Nat) t v, fn.params[j]? = some t → args[j]? = some v → Value.okWide P W .any base t v)
    (hW : DataW.Whole enc P fn.params.toList spec.vars false W args.toList ds gs before) (hc : ∀ s : ByteArray, Holds1 P f #[.string s] W) :
    Calls P f args W fun e W' => ∃ v, e = .returned v ∧ spec.post enc P fn false true false false W args v W' := by
  have hW' := hW
  obtain ⟨p, q, hA0, hV, rfl, hfz, hnd⟩ := hW
  have hA : DataW.TrodAll enc P W 0 (fun _ => true) true fn.params.toList args.toList ds p := hA0
  rw [hp] at hA hval
  obtain ⟨v0, vs0, d0, ds0, p0, q0, hargs, rfl, rfl, h0, r0⟩ := trodAll_cons hA
  obtain ⟨rfl, rfl, rfl⟩ := trodAll_nil r0
  obtain rfl : args = #[v0] := by cases args; simp_all
  rw [hv] at hV
  obtain ⟨rfl, rfl⟩ := trodVars_none hV
  obtain ⟨s, rfl, rfl, rfl, hsz⟩ := Go.ChangeMaps.open_string u9 (hval 0 9 v0 rfl rfl) h0
  clear hA0
  simp only [List.append_nil] at hW'
  refine (hc s).mono ?_
  rintro e W' ⟨rfl, h1⟩
  refine ⟨_, rfl, _, _, _, [], [], [], hW', ?_, ?_, ?_, h1.frame _, fun h => by cases h⟩
  · rw [List.append_nil, hs, hr]
    exact trodAll_cons_mk (shut_bool u4 _) trodAll_mk0
  · rw [List.append_nil, hs, hp]
    exact trodAll_cons_mk (Go.ChangeMaps.shut_string u9 hsz) trodAll_mk0
  · rw [List.append_nil, hs, hv]
    rfl

open Go.ChangeShapes Go.WideShapes Go.ChangeAt Go.RowKit in
/-- A law of two strings. -/
theorem contract2 {P : Program} {f : FuncId} {fn : Func} {spec : ChangeSpec} (hp : fn.params = #[9, 9]) (hr : fn.resultTypes = #[4]) (u9 : P.underlying 9 = some .string) (u4 : P.underlying 4 = some .bool)
    (hv : spec.vars = []) (hs : ∀ (H : Type) (d1 d2 : DataW H), spec.fn H [d1, d2] = { results := [.lit (.bool true)], args := [d1, d2] })
    (H : Type) (enc : TypeId × Value → H) (W : World) (base : Nat) (args : Array Value) (ds gs : List (DataW H)) (before : List MemPlace)
    (hval : ∀ (j : Nat) t v, fn.params[j]? = some t → args[j]? = some v → Value.okWide P W .any base t v)
    (hW : DataW.Whole enc P fn.params.toList spec.vars false W args.toList ds gs before) {vt : List TypeId}
    (hwt : (DataW.weightsEach P (fn.params.toList ++ vt) (ds ++ gs)).all (· ≤ reachBytes) = true) (hc : ∀ s u : ByteArray, s.size ≤ reachBytes → u.size ≤ reachBytes → Holds1 P f #[.string s, .string u] W) :
    Calls P f args W fun e W' => ∃ v, e = .returned v ∧ spec.post enc P fn false true false false W args v W' := by
  have hW' := hW
  obtain ⟨p, q, hA0, hV, rfl, hfz, hnd⟩ := hW
  have hA : DataW.TrodAll enc P W 0 (fun _ => true) true fn.params.toList args.toList ds p := hA0
  rw [hp] at hA hval
  obtain ⟨v0, vs0, d0, ds0, p0, q0, hargs, rfl, rfl, h0, r0⟩ := trodAll_cons hA
  obtain ⟨v1, vs1, d1, ds1, p1, q1, hargs1, rfl, rfl, h1, r1⟩ := trodAll_cons r0
  obtain ⟨rfl, rfl, rfl⟩ := trodAll_nil r1
  subst hargs1
  obtain rfl : args = #[v0, v1] := by cases args; simp_all
  rw [hv] at hV
  obtain ⟨rfl, rfl⟩ := trodVars_none hV
  obtain ⟨s, rfl, rfl, rfl, hsz⟩ := Go.ChangeMaps.open_string u9 (hval 0 9 v0 rfl rfl) h0
  obtain ⟨u, rfl, rfl, rfl, huz⟩ := Go.ChangeMaps.open_string u9 (hval 1 9 v1 rfl rfl) h1
  clear hA0
  simp only [List.append_nil] at hW'
  have hb : s.size ≤ reachBytes ∧ u.size ≤ reachBytes := by
    rw [hp] at hwt
    generalize reachBytes = n at hwt ⊢
    have e : (DataW.weightsEach (H := H) P (#[9, 9].toList ++ vt) ([DataW.lit (.string s.data.toList), DataW.lit (.string u.data.toList)] ++ []) : List Nat) = s.data.toList.length :: (u.data.toList.length :: DataW.weightsEach P vt ([] : List (DataW H))) := by
      simp only [List.cons_append, List.nil_append, List.append_nil, DataW.weightsEach, DataW.weights]
    rw [e] at hwt
    simp only [List.all_cons, Bool.and_eq_true, decide_eq_true_eq, Array.length_toList] at hwt
    exact ⟨hwt.1, hwt.2.1⟩
  refine (hc s u hb.1 hb.2).mono ?_
  rintro e W' ⟨rfl, h1⟩
  refine ⟨_, rfl, _, _, _, [], [], [], hW', ?_, ?_, ?_, h1.frame _, fun h => by cases h⟩
  · rw [List.append_nil, hs, hr]
    exact trodAll_cons_mk (shut_bool u4 _) trodAll_mk0
  · rw [List.append_nil, hs, hp]
    exact trodAll_cons_mk (Go.ChangeMaps.shut_string u9 hsz) (trodAll_cons_mk (Go.ChangeMaps.shut_string u9 huz) trodAll_mk0)
  · rw [List.append_nil, hs, hv]
    rfl

theorem holds1_of {f : FuncId} {s : ByteArray} {W : World} (hL : laidMet Tryd.prog laidL W) (h : ACalls Tryd.prog GD f [.d (.val (.string s))] [] fun out b => out = .ret (.d (.val (.bool true))) ∧ b = []) : Holds1 Tryd.prog f #[.string s] W := by
  refine (h W ok0 [] [.string s] (relW0 hL) (by simp only [RepSs, RepS, Rep]; exact ⟨_, _, rfl, rfl, rfl⟩)).mono ?_
  rintro e W' ⟨out, ok', g', bx', h1, h2, rfl, rfl⟩
  obtain ⟨v, rfl, h3⟩ := h2
  simp only [RepS, Rep] at h3
  subst h3
  exact ⟨rfl, relW_below h1⟩

theorem holds2_of {f : FuncId} {s u : ByteArray} {W : World} (hL : laidMet Tryd.prog laidL W) (h : ACalls Tryd.prog GD f [.d (.val (.string s)), .d (.val (.string u))] [] fun out b => out = .ret (.d (.val (.bool true))) ∧ b = []) :
    Holds1 Tryd.prog f #[.string s, .string u] W := by
  refine (h W ok0 [] [.string s, .string u] (relW0 hL) (by simp only [RepSs, RepS, Rep]; exact ⟨_, _, rfl, rfl, _, _, rfl, rfl, rfl⟩)).mono ?_
  rintro e W' ⟨out, ok', g', bx', h1, h2, rfl, rfl⟩
  obtain ⟨v, rfl, h3⟩ := h2
  simp only [RepS, Rep] at h3
  subst h3
  exact ⟨rfl, relW_below h1⟩

end Go.Proofs.YtamkldohfhidiaaDoor
