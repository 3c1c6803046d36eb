import Derived.Test.YtamkldohfhidiaaDoorW17
import Derived.Test.YtamkldohfhidiaaDoorPg
namespace Go.Abs
/-- Are texts alike? -/
def strsP : List ByteArray → List ByteArray → Bool
  | [], [] => true
  | a :: l, b :: m => (a.toList == b.toList) && strsP l m
  | _, _ => false
mutual
/-- Are trees alike; w: in their places, too? -/
def sameP (w : Bool) : T → T → Bool
  | .mk k n ks ns p, .mk k' n' ks' ns' p' => (k == k') && ((n.toList == n'.toList) && ((!w || (p == p')) && (strsP ns ns' && samesP w ks ks')))
def samesP (w : Bool) : List T → List T → Bool
  | [], [] => true
  | a :: l, b :: m => sameP w a b && samesP w l m
  | _, _ => false
end
theorem strsP_len : ∀ {a b : List ByteArray}, strsP a b = true → a.length = b.length
  | [], [], _ => rfl
  | _ :: l, _ :: m, h => by
    simp only [strsP, Bool.and_eq_true] at h
    simp only [List.length_cons, strsP_len h.2]
  | [], _ :: _, h => by cases h
  | _ :: _, [], h => by cases h
theorem samesP_len {w : Bool} : ∀ {a b : List T}, samesP w a b = true → a.length = b.length
  | [], [], _ => rfl
  | _ :: l, _ :: m, h => by
    simp only [samesP, Bool.and_eq_true] at h
    simp only [List.length_cons, samesP_len h.2]
  | [], _ :: _, h => by simp [samesP] at h
  | _ :: _, [], h => by simp [samesP] at h

section
variable {P : Program} {G : Glob}
/-- Of the arguments more is known than is asked. -/
theorem ACalls.argLe {f : FuncId} {args args' : List SV} {bx : List Box} {R : Out → List Box → Prop} (h : ACalls P G f args' bx R) (hle : SLes args args') : ACalls P G f args bx R :=
  fun w ok g vs h1 h2 => h w ok g vs h1 (hle.rep h2)
end
end Go.Abs
namespace Go.Proofs.YtamkldohfhidiaaDoor
open Go Go.Abs

theorem strsC_at {ns : List ByteArray} {i : Nat} {x : ByteArray} {r : List ByteArray} (h : ns.drop i = x :: r) : (strsC ns)[i]? = some [.val (.string x)] := by
  have h1 : ns[i]? = some x := by
    have := List.getElem?_drop (xs := ns) (i := i) (j := 0)
    rw [h] at this
    simpa using this.symm
  unfold strsC
  rw [List.getElem?_map, h1]
  rfl
theorem rows_get (ks : List T) : ∀ i : Nat, (T.rows ks)[i]? = (ks[i]?).map tC := by
  induction ks with
  | nil => intro i; rw [T.rows_nil]; simp
  | cons a ks ih =>
    intro i
    rw [T.rows_cons]
    cases i with
    | zero => rfl
    | succ i => simpa using ih i
theorem rows_at {ks : List T} {i : Nat} {x : T} {r : List T} (h : ks.drop i = x :: r) : (T.rows ks)[i]? = some (tC x) := by
  have h1 : ks[i]? = some x := by
    have := List.getElem?_drop (xs := ks) (i := i) (j := 0)
    rw [h] at this
    simpa using this.symm
  rw [rows_get, h1]
  rfl
theorem drop_some {α : Type} {l : List α} {i : Nat} (h : i < l.length) : ∃ x r, l.drop i = x :: r ∧ l.drop (i + 1) = r := by
  refine ⟨l[i], l.drop (i + 1), List.drop_eq_getElem_cons h, rfl⟩
theorem kid_mem {ks : List T} {i : Nat} {x : T} {r : List T} (h : ks.drop i = x :: r) : x ∈ ks := List.mem_of_mem_drop (i := i) (by rw [h]; exact List.mem_cons_self ..)

theorem callable12 : Callable Tryd.prog 12 := ⟨_, Tryd.func12, rfl, rfl⟩



set_option maxHeartbeats 8000000 in
theorem same_any {G : Glob} : ∀ (m : Nat) (a : T), a.sz ≤ m → m ≤ 4000000000000000000 → ∀ (b : T) (w : Bool), ACalls Tryd.prog G 12 [treeV a, treeV b, .d (.val (.bool w))] [] fun out x => out = .ret (.d (.val (.bool (sameP w a b)))) ∧ x = [] := by
  intro m
  induction m with
  | zero =>
    intro a ha
    have := a.sz_pos
    omega
  | succ m ih =>
    intro a ha hm b w
    obtain ⟨k, n, ks, ns, p⟩ := a
    obtain ⟨k', n', ks', ns', p'⟩ := b
    have hkl := T.szs_len ks
    have hkm : ∀ x ∈ ks, x.sz ≤ m := fun x hx => by have := T.szs_mem hx; simp only [T.sz] at ha; omega
    simp only [T.sz] at ha
    refine ACalls.body tab_ok Tryd.func12 rfl rfl ?_
    simp only [treeV, tC, T.kind, T.name, T.kids, T.names, T.at_]
    repeat (first
      | refine AW.seq ?_
      | refine AW.reg ?_
      | refine Reg.opS tab_ok (hint := []) rfl rfl rfl rfl rfl trivial ?_
      | refine Reg.opN tab_ok (hint := []) rfl rfl rfl rfl trivial ?_
      | refine Reg.nil ?_
      | refine thenA_normal ?_
      | refine AW.condT rfl ?_
      | refine AW.condF rfl ?_
      | refine AW.skip ?_
      | refine AW.block ?_
      | refine AW.exit ?_
      | refine AW.ret ?_
      | refine thenA_exit ?_
      | refine thenA_ret ?_
      | refine blockA_normal ?_
      | refine blockA_hit ?_
      | refine blockA_miss rfl ?_
      | refine blockA_ret ?_
      | refine Reg.panic rfl rfl rfl rfl ?_
      | refine thenA_panic ?_
      | refine blockA_panic ?_
      | refine Reg.skip rfl rfl rfl rfl rfl rfl rfl rfl ?_
      | refine Reg.ifS tab_ok (hint := []) rfl rfl rfl rfl rfl rfl rfl rfl rfl trivial ?_
      | refine AW.label ?_
      | refine AW.scope ?_
      | refine scopeA_normal ?_
      | refine scopeA_ret ?_
      | refine scopeA_exit ?_)
    cases h1 : (k != k') with
    | true =>
      have h1' : (k == k') = false := by simpa [bne] using h1
      repeat (first
        | refine AW.seq ?_
        | refine AW.reg ?_
        | refine Reg.opS tab_ok (hint := []) rfl rfl rfl rfl rfl trivial ?_
        | refine Reg.opN tab_ok (hint := []) rfl rfl rfl rfl trivial ?_
        | refine Reg.nil ?_
        | refine thenA_normal ?_
        | refine AW.condT rfl ?_
        | refine AW.condF rfl ?_
        | refine AW.skip ?_
        | refine AW.block ?_
        | refine AW.exit ?_
        | refine AW.ret ?_
        | refine thenA_exit ?_
        | refine thenA_ret ?_
        | refine blockA_normal ?_
        | refine blockA_hit ?_
        | refine blockA_miss rfl ?_
        | refine blockA_ret ?_
        | refine Reg.panic rfl rfl rfl rfl ?_
        | refine thenA_panic ?_
        | refine blockA_panic ?_
        | refine Reg.skip rfl rfl rfl rfl rfl rfl rfl rfl ?_
        | refine Reg.ifS tab_ok (hint := []) rfl rfl rfl rfl rfl rfl rfl rfl rfl trivial ?_
        | refine AW.label ?_
        | refine AW.scope ?_
        | refine scopeA_normal ?_
        | refine scopeA_ret ?_
        | refine scopeA_exit ?_)
      exact ⟨_, rfl, rfl, rfl, by simp only [sameP, h1']; simp, rfl⟩
    | false =>
      have h1' : (k == k') = true := by simpa [bne] using h1
      repeat (first
        | refine AW.seq ?_
        | refine AW.reg ?_
        | refine Reg.opS tab_ok (hint := []) rfl rfl rfl rfl rfl trivial ?_
        | refine Reg.opN tab_ok (hint := []) rfl rfl rfl rfl trivial ?_
        | refine Reg.nil ?_
        | refine thenA_normal ?_
        | refine AW.condT rfl ?_
        | refine AW.condF rfl ?_
        | refine AW.skip ?_
        | refine AW.block ?_
        | refine AW.exit ?_
        | refine AW.ret ?_
        | refine thenA_exit ?_
        | refine thenA_ret ?_
        | refine blockA_normal ?_
        | refine blockA_hit ?_
        | refine blockA_miss rfl ?_
        | refine blockA_ret ?_
        | refine Reg.panic rfl rfl rfl rfl ?_
        | refine thenA_panic ?_
        | refine blockA_panic ?_
        | refine Reg.skip rfl rfl rfl rfl rfl rfl rfl rfl ?_
        | refine Reg.ifS tab_ok (hint := []) rfl rfl rfl rfl rfl rfl rfl rfl rfl trivial ?_
        | refine AW.label ?_
        | refine AW.scope ?_
        | refine scopeA_normal ?_
        | refine scopeA_ret ?_
        | refine scopeA_exit ?_)
      cases h2 : (n.toList == n'.toList) with
      | false =>
        repeat (first
          | refine AW.seq ?_
          | refine AW.reg ?_
          | refine Reg.opS tab_ok (hint := []) rfl rfl rfl rfl rfl trivial ?_
          | refine Reg.opN tab_ok (hint := []) rfl rfl rfl rfl trivial ?_
          | refine Reg.nil ?_
          | refine thenA_normal ?_
          | refine AW.condT rfl ?_
          | refine AW.condF rfl ?_
          | refine AW.skip ?_
          | refine AW.block ?_
          | refine AW.exit ?_
          | refine AW.ret ?_
          | refine thenA_exit ?_
          | refine thenA_ret ?_
          | refine blockA_normal ?_
          | refine blockA_hit ?_
          | refine blockA_miss rfl ?_
          | refine blockA_ret ?_
          | refine Reg.panic rfl rfl rfl rfl ?_
          | refine thenA_panic ?_
          | refine blockA_panic ?_
          | refine Reg.skip rfl rfl rfl rfl rfl rfl rfl rfl ?_
          | refine Reg.ifS tab_ok (hint := []) rfl rfl rfl rfl rfl rfl rfl rfl rfl trivial ?_
          | refine AW.label ?_
          | refine AW.scope ?_
          | refine scopeA_normal ?_
          | refine scopeA_ret ?_
          | refine scopeA_exit ?_)
        exact ⟨_, rfl, rfl, rfl, by simp only [sameP, h1', h2]; simp, rfl⟩
      | true =>
        repeat (first
          | refine AW.seq ?_
          | refine AW.reg ?_
          | refine Reg.opS tab_ok (hint := []) rfl rfl rfl rfl rfl trivial ?_
          | refine Reg.opN tab_ok (hint := []) rfl rfl rfl rfl trivial ?_
          | refine Reg.nil ?_
          | refine thenA_normal ?_
          | refine AW.condT rfl ?_
          | refine AW.condF rfl ?_
          | refine AW.skip ?_
          | refine AW.block ?_
          | refine AW.exit ?_
          | refine AW.ret ?_
          | refine thenA_exit ?_
          | refine thenA_ret ?_
          | refine blockA_normal ?_
          | refine blockA_hit ?_
          | refine blockA_miss rfl ?_
          | refine blockA_ret ?_
          | refine Reg.panic rfl rfl rfl rfl ?_
          | refine thenA_panic ?_
          | refine blockA_panic ?_
          | refine Reg.skip rfl rfl rfl rfl rfl rfl rfl rfl ?_
          | refine Reg.ifS tab_ok (hint := []) rfl rfl rfl rfl rfl rfl rfl rfl rfl trivial ?_
          | refine AW.label ?_
          | refine AW.scope ?_
          | refine scopeA_normal ?_
          | refine scopeA_ret ?_
          | refine scopeA_exit ?_)
        cases h3 : (((T.rows ks).length : Int) != (T.rows ks').length) with
        | true =>
          have h3' : samesP w ks ks' = false := by
            cases h : samesP w ks ks' with
            | false => rfl
            | true =>
              have := samesP_len h
              rw [T.rows_len, T.rows_len, this] at h3
              simp at h3
          repeat (first
            | refine AW.seq ?_
            | refine AW.reg ?_
            | refine Reg.opS tab_ok (hint := []) rfl rfl rfl rfl rfl trivial ?_
            | refine Reg.opN tab_ok (hint := []) rfl rfl rfl rfl trivial ?_
            | refine Reg.nil ?_
            | refine thenA_normal ?_
            | refine AW.condT rfl ?_
            | refine AW.condF rfl ?_
            | refine AW.skip ?_
            | refine AW.block ?_
            | refine AW.exit ?_
            | refine AW.ret ?_
            | refine thenA_exit ?_
            | refine thenA_ret ?_
            | refine blockA_normal ?_
            | refine blockA_hit ?_
            | refine blockA_miss rfl ?_
            | refine blockA_ret ?_
            | refine Reg.panic rfl rfl rfl rfl ?_
            | refine thenA_panic ?_
            | refine blockA_panic ?_
            | refine Reg.skip rfl rfl rfl rfl rfl rfl rfl rfl ?_
            | refine Reg.ifS tab_ok (hint := []) rfl rfl rfl rfl rfl rfl rfl rfl rfl trivial ?_
            | refine AW.label ?_
            | refine AW.scope ?_
            | refine scopeA_normal ?_
            | refine scopeA_ret ?_
            | refine scopeA_exit ?_)
          exact ⟨_, rfl, rfl, rfl, by simp only [sameP, h1', h2, h3']; simp, rfl⟩
        | false =>
          have h3' : ks.length = ks'.length := by
            rw [T.rows_len, T.rows_len] at h3
            simp [bne] at h3
            omega
          repeat (first
            | refine AW.seq ?_
            | refine AW.reg ?_
            | refine Reg.opS tab_ok (hint := []) rfl rfl rfl rfl rfl trivial ?_
            | refine Reg.opN tab_ok (hint := []) rfl rfl rfl rfl trivial ?_
            | refine Reg.nil ?_
            | refine thenA_normal ?_
            | refine AW.condT rfl ?_
            | refine AW.condF rfl ?_
            | refine AW.skip ?_
            | refine AW.block ?_
            | refine AW.exit ?_
            | refine AW.ret ?_
            | refine thenA_exit ?_
            | refine thenA_ret ?_
            | refine blockA_normal ?_
            | refine blockA_hit ?_
            | refine blockA_miss rfl ?_
            | refine blockA_ret ?_
            | refine Reg.panic rfl rfl rfl rfl ?_
            | refine thenA_panic ?_
            | refine blockA_panic ?_
            | refine Reg.skip rfl rfl rfl rfl rfl rfl rfl rfl ?_
            | refine Reg.ifS tab_ok (hint := []) rfl rfl rfl rfl rfl rfl rfl rfl rfl trivial ?_
            | refine AW.label ?_
            | refine AW.scope ?_
            | refine scopeA_normal ?_
            | refine scopeA_ret ?_
            | refine scopeA_exit ?_)
          cases h4 : (((strsC ns).length : Int) != (strsC ns').length) with
          | true =>
            have h4' : strsP ns ns' = false := by
              cases h : strsP ns ns' with
              | false => rfl
              | true =>
                have := strsP_len h
                rw [strsC_len, strsC_len, this] at h4
                simp at h4
            repeat (first
              | refine AW.seq ?_
              | refine AW.reg ?_
              | refine Reg.opS tab_ok (hint := []) rfl rfl rfl rfl rfl trivial ?_
              | refine Reg.opN tab_ok (hint := []) rfl rfl rfl rfl trivial ?_
              | refine Reg.nil ?_
              | refine thenA_normal ?_
              | refine AW.condT rfl ?_
              | refine AW.condF rfl ?_
              | refine AW.skip ?_
              | refine AW.block ?_
              | refine AW.exit ?_
              | refine AW.ret ?_
              | refine thenA_exit ?_
              | refine thenA_ret ?_
              | refine blockA_normal ?_
              | refine blockA_hit ?_
              | refine blockA_miss rfl ?_
              | refine blockA_ret ?_
              | refine Reg.panic rfl rfl rfl rfl ?_
              | refine thenA_panic ?_
              | refine blockA_panic ?_
              | refine Reg.skip rfl rfl rfl rfl rfl rfl rfl rfl ?_
              | refine Reg.ifS tab_ok (hint := []) rfl rfl rfl rfl rfl rfl rfl rfl rfl trivial ?_
              | refine AW.label ?_
              | refine AW.scope ?_
              | refine scopeA_normal ?_
              | refine scopeA_ret ?_
              | refine scopeA_exit ?_)
            exact ⟨_, rfl, rfl, rfl, by simp only [sameP, h1', h2, h4']; simp, rfl⟩
          | false =>
            have h4' : ns.length = ns'.length := by
              rw [strsC_len, strsC_len] at h4
              simp [bne] at h4
              omega
            cases w with
            | false =>
              have hsp : sameP false (.mk k n ks ns p) (.mk k' n' ks' ns' p') = (strsP ns ns' && samesP false ks ks') := by simp only [sameP, h1', h2, Bool.not_false, Bool.true_or, Bool.true_and]
              rw [hsp]
              repeat (first
                | refine AW.seq ?_
                | refine AW.reg ?_
                | refine Reg.opS tab_ok (hint := []) rfl rfl rfl rfl rfl trivial ?_
                | refine Reg.opN tab_ok (hint := []) rfl rfl rfl rfl trivial ?_
                | refine Reg.nil ?_
                | refine thenA_normal ?_
                | refine AW.condT rfl ?_
                | refine AW.condF rfl ?_
                | refine AW.skip ?_
                | refine AW.block ?_
                | refine AW.exit ?_
                | refine AW.ret ?_
                | refine thenA_exit ?_
                | refine thenA_ret ?_
                | refine blockA_normal ?_
                | refine blockA_hit ?_
                | refine blockA_miss rfl ?_
                | refine blockA_ret ?_
                | refine Reg.panic rfl rfl rfl rfl ?_
                | refine thenA_panic ?_
                | refine blockA_panic ?_
                | refine Reg.skip rfl rfl rfl rfl rfl rfl rfl rfl ?_
                | refine Reg.ifS tab_ok (hint := []) rfl rfl rfl rfl rfl rfl rfl rfl rfl trivial ?_
                | refine AW.label ?_
                | refine AW.scope ?_
                | refine scopeA_normal ?_
                | refine scopeA_ret ?_
                | refine scopeA_exit ?_)
              refine AW.loop (S := Nat) (fun i => i ≤ ns.length ∧ strsP (ns.drop i) (ns'.drop i) = strsP ns ns') (fun i => [(2, .d (.val (.bool false))), (3, .ptr 0 0), (4, .ptr 1 0), (7, .d (.val (.int .i64 i)))])
                (fun _ => [.cells [.d (.val (.int .i64 k)), .d (.val (.string n)), .d (.sl 5 (T.rows ks) false), .d (.sl 1 (strsC ns) false), .d (.val (.int .i64 p))], .cells [.d (.val (.int .i64 k')), .d (.val (.string n')), .d (.sl 5 (T.rows ks') false), .d (.sl 1 (strsC ns') false), .d (.val (.int .i64 p'))]])
                (fun i => ns.length - i) 0 ⟨Nat.zero_le _, rfl⟩ (fun _ => rfl) ⟨⟨.refl _, .refl _, .refl _, .refl _, trivial⟩, ⟨SLes.refl _, SLes.refl _, trivial⟩, rfl, rfl⟩ ?_
              rintro i ⟨hi, hinv⟩
              repeat (first
                | refine AW.seq ?_
                | refine AW.reg ?_
                | refine Reg.opS tab_ok (hint := []) rfl rfl rfl rfl rfl trivial ?_
                | refine Reg.opN tab_ok (hint := []) rfl rfl rfl rfl trivial ?_
                | refine Reg.nil ?_
                | refine thenA_normal ?_
                | refine AW.condT rfl ?_
                | refine AW.condF rfl ?_
                | refine AW.skip ?_
                | refine AW.block ?_
                | refine AW.exit ?_
                | refine AW.ret ?_
                | refine thenA_exit ?_
                | refine thenA_ret ?_
                | refine blockA_normal ?_
                | refine blockA_hit ?_
                | refine blockA_miss rfl ?_
                | refine blockA_ret ?_
                | refine Reg.panic rfl rfl rfl rfl ?_
                | refine thenA_panic ?_
                | refine blockA_panic ?_
                | refine Reg.skip rfl rfl rfl rfl rfl rfl rfl rfl ?_
                | refine Reg.ifS tab_ok (hint := []) rfl rfl rfl rfl rfl rfl rfl rfl rfl trivial ?_
                | refine AW.label ?_
                | refine AW.scope ?_
                | refine scopeA_normal ?_
                | refine scopeA_ret ?_
                | refine scopeA_exit ?_)
              cases h6 : decide ((i : Int) < (strsC ns).length) with
              | true =>
                have hlt : i < ns.length := by have := of_decide_eq_true h6; rw [strsC_len] at this; omega
                obtain ⟨x, r, hx, hxr⟩ := drop_some hlt
                obtain ⟨y, q, hy, hyq⟩ := drop_some (h4' ▸ hlt)
                rw [hx, hy] at hinv
                simp only [strsP] at hinv
                have hnext : IntKind.i64.wrap ((i : Int) + 1) = ((i + 1 : Nat) : Int) := wrap_in (by omega) (by omega)
                repeat (first
                  | refine AW.seq ?_
                  | refine AW.reg ?_
                  | refine Reg.opS tab_ok (hint := []) rfl rfl rfl rfl rfl trivial ?_
                  | refine Reg.opN tab_ok (hint := []) rfl rfl rfl rfl trivial ?_
                  | refine Reg.nil ?_
                  | refine thenA_normal ?_
                  | refine AW.condT rfl ?_
                  | refine AW.condF rfl ?_
                  | refine AW.skip ?_
                  | refine AW.block ?_
                  | refine AW.exit ?_
                  | refine AW.ret ?_
                  | refine thenA_exit ?_
                  | refine thenA_ret ?_
                  | refine blockA_normal ?_
                  | refine blockA_hit ?_
                  | refine blockA_miss rfl ?_
                  | refine blockA_ret ?_
                  | refine Reg.panic rfl rfl rfl rfl ?_
                  | refine thenA_panic ?_
                  | refine blockA_panic ?_
                  | refine Reg.skip rfl rfl rfl rfl rfl rfl rfl rfl ?_
                  | refine Reg.ifS tab_ok (hint := []) rfl rfl rfl rfl rfl rfl rfl rfl rfl trivial ?_
                  | refine AW.label ?_
                  | refine AW.scope ?_
                  | refine scopeA_normal ?_
                  | refine scopeA_ret ?_
                  | refine scopeA_exit ?_)
                refine AW.draw [] [0, 1, 2, 3, 4, 5, 6, 7, 8, 9, 10] mixed ⟨rfl, rfl, rfl, rfl, by decide⟩ ?_
                iterate 3 refine RegD.pureS tab_ok (hint := []) rfl rfl rfl rfl rfl rfl trivial ?_
                refine RegD.pureS tab_ok (hint := [.val (.string x)]) rfl rfl rfl rfl rfl rfl ⟨rfl, Int.natCast_nonneg _, by rw [Int.toNat_natCast]; exact strsC_at hx⟩ ?_
                iterate 4 refine RegD.pureS tab_ok (hint := []) rfl rfl rfl rfl rfl rfl trivial ?_
                refine RegD.pureS tab_ok (hint := [.val (.string y)]) rfl rfl rfl rfl rfl rfl ⟨rfl, Int.natCast_nonneg _, by rw [Int.toNat_natCast]; exact strsC_at hy⟩ ?_
                iterate 2 refine RegD.pureS tab_ok (hint := []) rfl rfl rfl rfl rfl rfl trivial ?_
                refine RegD.nil ?_
                repeat (first
                  | refine AW.seq ?_
                  | refine AW.reg ?_
                  | refine Reg.opS tab_ok (hint := []) rfl rfl rfl rfl rfl trivial ?_
                  | refine Reg.opN tab_ok (hint := []) rfl rfl rfl rfl trivial ?_
                  | refine Reg.nil ?_
                  | refine thenA_normal ?_
                  | refine AW.condT rfl ?_
                  | refine AW.condF rfl ?_
                  | refine AW.skip ?_
                  | refine AW.block ?_
                  | refine AW.exit ?_
                  | refine AW.ret ?_
                  | refine thenA_exit ?_
                  | refine thenA_ret ?_
                  | refine blockA_normal ?_
                  | refine blockA_hit ?_
                  | refine blockA_miss rfl ?_
                  | refine blockA_ret ?_
                  | refine Reg.panic rfl rfl rfl rfl ?_
                  | refine thenA_panic ?_
                  | refine blockA_panic ?_
                  | refine Reg.skip rfl rfl rfl rfl rfl rfl rfl rfl ?_
                  | refine Reg.ifS tab_ok (hint := []) rfl rfl rfl rfl rfl rfl rfl rfl rfl trivial ?_
                  | refine AW.label ?_
                  | refine AW.scope ?_
                  | refine scopeA_normal ?_
                  | refine scopeA_ret ?_
                  | refine scopeA_exit ?_)
                cases h7 : (x.toList == y.toList) with
                | false =>
                  rw [h7, Bool.false_and] at hinv
                  repeat (first
                    | refine AW.seq ?_
                    | refine AW.reg ?_
                    | refine Reg.opS tab_ok (hint := []) rfl rfl rfl rfl rfl trivial ?_
                    | refine Reg.opN tab_ok (hint := []) rfl rfl rfl rfl trivial ?_
                    | refine Reg.nil ?_
                    | refine thenA_normal ?_
                    | refine AW.condT rfl ?_
                    | refine AW.condF rfl ?_
                    | refine AW.skip ?_
                    | refine AW.block ?_
                    | refine AW.exit ?_
                    | refine AW.ret ?_
                    | refine thenA_exit ?_
                    | refine thenA_ret ?_
                    | refine blockA_normal ?_
                    | refine blockA_hit ?_
                    | refine blockA_miss rfl ?_
                    | refine blockA_ret ?_
                    | refine Reg.panic rfl rfl rfl rfl ?_
                    | refine thenA_panic ?_
                    | refine blockA_panic ?_
                    | refine Reg.skip rfl rfl rfl rfl rfl rfl rfl rfl ?_
                    | refine Reg.ifS tab_ok (hint := []) rfl rfl rfl rfl rfl rfl rfl rfl rfl trivial ?_
                    | refine AW.label ?_
                    | refine AW.scope ?_
                    | refine scopeA_normal ?_
                    | refine scopeA_ret ?_
                    | refine scopeA_exit ?_)
                  exact ⟨_, rfl, rfl, rfl, by rw [← hinv]; rfl, rfl⟩
                | true =>
                  rw [h7, Bool.true_and] at hinv
                  repeat (first
                    | refine AW.seq ?_
                    | refine AW.reg ?_
                    | refine Reg.opS tab_ok (hint := []) rfl rfl rfl rfl rfl trivial ?_
                    | refine Reg.opN tab_ok (hint := []) rfl rfl rfl rfl trivial ?_
                    | refine Reg.nil ?_
                    | refine thenA_normal ?_
                    | refine AW.condT rfl ?_
                    | refine AW.condF rfl ?_
                    | refine AW.skip ?_
                    | refine AW.block ?_
                    | refine AW.exit ?_
                    | refine AW.ret ?_
                    | refine thenA_exit ?_
                    | refine thenA_ret ?_
                    | refine blockA_normal ?_
                    | refine blockA_hit ?_
                    | refine blockA_miss rfl ?_
                    | refine blockA_ret ?_
                    | refine Reg.panic rfl rfl rfl rfl ?_
                    | refine thenA_panic ?_
                    | refine blockA_panic ?_
                    | refine Reg.skip rfl rfl rfl rfl rfl rfl rfl rfl ?_
                    | refine Reg.ifS tab_ok (hint := []) rfl rfl rfl rfl rfl rfl rfl rfl rfl trivial ?_
                    | refine AW.label ?_
                    | refine AW.scope ?_
                    | refine scopeA_normal ?_
                    | refine scopeA_ret ?_
                    | refine scopeA_exit ?_)
                  rw [hnext]
                  exact ⟨i + 1, ⟨by omega, by rw [hxr, hyq]; exact hinv⟩, by omega, ⟨.refl _, .refl _, .refl _, .refl _, trivial⟩, ⟨SLes.refl _, SLes.refl _, trivial⟩, rfl, rfl⟩
              | false =>
                have hge : ns.length ≤ i := by have := of_decide_eq_false h6; rw [strsC_len] at this; omega
                rw [List.drop_eq_nil_of_le hge, List.drop_eq_nil_of_le (h4' ▸ hge)] at hinv
                rw [← hinv]
                clear hinv hge h6 hi
                repeat (first
                  | refine AW.seq ?_
                  | refine AW.reg ?_
                  | refine Reg.opS tab_ok (hint := []) rfl rfl rfl rfl rfl trivial ?_
                  | refine Reg.opN tab_ok (hint := []) rfl rfl rfl rfl trivial ?_
                  | refine Reg.nil ?_
                  | refine thenA_normal ?_
                  | refine AW.condT rfl ?_
                  | refine AW.condF rfl ?_
                  | refine AW.skip ?_
                  | refine AW.block ?_
                  | refine AW.exit ?_
                  | refine AW.ret ?_
                  | refine thenA_exit ?_
                  | refine thenA_ret ?_
                  | refine blockA_normal ?_
                  | refine blockA_hit ?_
                  | refine blockA_miss rfl ?_
                  | refine blockA_ret ?_
                  | refine Reg.panic rfl rfl rfl rfl ?_
                  | refine thenA_panic ?_
                  | refine blockA_panic ?_
                  | refine Reg.skip rfl rfl rfl rfl rfl rfl rfl rfl ?_
                  | refine Reg.ifS tab_ok (hint := []) rfl rfl rfl rfl rfl rfl rfl rfl rfl trivial ?_
                  | refine AW.label ?_
                  | refine AW.scope ?_
                  | refine scopeA_normal ?_
                  | refine scopeA_ret ?_
                  | refine scopeA_exit ?_)
                refine AW.loop (S := Nat) (fun i => i ≤ ks.length ∧ samesP false (ks.drop i) (ks'.drop i) = samesP false ks ks') (fun i => [(2, .d (.val (.bool false))), (3, .ptr 0 0), (4, .ptr 1 0), (8, .d (.val (.int .i64 i)))])
                  (fun _ => [.cells [.d (.val (.int .i64 k)), .d (.val (.string n)), .d (.sl 5 (T.rows ks) false), .d (.sl 1 (strsC ns) false), .d (.val (.int .i64 p))], .cells [.d (.val (.int .i64 k')), .d (.val (.string n')), .d (.sl 5 (T.rows ks') false), .d (.sl 1 (strsC ns') false), .d (.val (.int .i64 p'))]])
                  (fun i => ks.length - i) 0 ⟨Nat.zero_le _, rfl⟩ (fun _ => rfl) ⟨⟨.refl _, .refl _, .refl _, .refl _, trivial⟩, ⟨SLes.refl _, SLes.refl _, trivial⟩, rfl, rfl⟩ ?_
                rintro i ⟨hi, hinv⟩
                repeat (first
                  | refine AW.seq ?_
                  | refine AW.reg ?_
                  | refine Reg.opS tab_ok (hint := []) rfl rfl rfl rfl rfl trivial ?_
                  | refine Reg.opN tab_ok (hint := []) rfl rfl rfl rfl trivial ?_
                  | refine Reg.nil ?_
                  | refine thenA_normal ?_
                  | refine AW.condT rfl ?_
                  | refine AW.condF rfl ?_
                  | refine AW.skip ?_
                  | refine AW.block ?_
                  | refine AW.exit ?_
                  | refine AW.ret ?_
                  | refine thenA_exit ?_
                  | refine thenA_ret ?_
                  | refine blockA_normal ?_
                  | refine blockA_hit ?_
                  | refine blockA_miss rfl ?_
                  | refine blockA_ret ?_
                  | refine Reg.panic rfl rfl rfl rfl ?_
                  | refine thenA_panic ?_
                  | refine blockA_panic ?_
                  | refine Reg.skip rfl rfl rfl rfl rfl rfl rfl rfl ?_
                  | refine Reg.ifS tab_ok (hint := []) rfl rfl rfl rfl rfl rfl rfl rfl rfl trivial ?_
                  | refine AW.label ?_
                  | refine AW.scope ?_
                  | refine scopeA_normal ?_
                  | refine scopeA_ret ?_
                  | refine scopeA_exit ?_)
                cases h6 : decide ((i : Int) < (T.rows ks).length) with
                | true =>
                  have hlt : i < ks.length := by have := of_decide_eq_true h6; rw [T.rows_len] at this; omega
                  obtain ⟨x, r, hx, hxr⟩ := drop_some hlt
                  obtain ⟨y, q, hy, hyq⟩ := drop_some (h3' ▸ hlt)
                  rw [hx, hy] at hinv
                  simp only [samesP] at hinv
                  have hnext : IntKind.i64.wrap ((i : Int) + 1) = ((i + 1 : Nat) : Int) := wrap_in (by omega) (by omega)
                  repeat (first
                    | refine AW.seq ?_
                    | refine AW.reg ?_
                    | refine Reg.opS tab_ok (hint := []) rfl rfl rfl rfl rfl trivial ?_
                    | refine Reg.opN tab_ok (hint := []) rfl rfl rfl rfl trivial ?_
                    | refine Reg.nil ?_
                    | refine thenA_normal ?_
                    | refine AW.condT rfl ?_
                    | refine AW.condF rfl ?_
                    | refine AW.skip ?_
                    | refine AW.block ?_
                    | refine AW.exit ?_
                    | refine AW.ret ?_
                    | refine thenA_exit ?_
                    | refine thenA_ret ?_
                    | refine blockA_normal ?_
                    | refine blockA_hit ?_
                    | refine blockA_miss rfl ?_
                    | refine blockA_ret ?_
                    | refine Reg.panic rfl rfl rfl rfl ?_
                    | refine thenA_panic ?_
                    | refine blockA_panic ?_
                    | refine Reg.skip rfl rfl rfl rfl rfl rfl rfl rfl ?_
                    | refine Reg.ifS tab_ok (hint := []) rfl rfl rfl rfl rfl rfl rfl rfl rfl trivial ?_
                    | refine AW.label ?_
                    | refine AW.scope ?_
                    | refine scopeA_normal ?_
                    | refine scopeA_ret ?_
                    | refine scopeA_exit ?_)
                  refine AW.draw [11] [0, 1, 2, 3, 4, 5, 6, 7, 8, 9, 10, 11, 12] mixed ⟨rfl, rfl, rfl, rfl, by decide⟩ ?_
                  iterate 3 refine RegD.pureS tab_ok (hint := []) rfl rfl rfl rfl rfl rfl trivial ?_
                  refine RegD.pureS tab_ok (hint := tC x) rfl rfl rfl rfl rfl rfl ⟨rfl, Int.natCast_nonneg _, by rw [Int.toNat_natCast]; exact rows_at hx⟩ ?_
                  iterate 4 refine RegD.pureS tab_ok (hint := []) rfl rfl rfl rfl rfl rfl trivial ?_
                  refine RegD.pureS tab_ok (hint := tC y) rfl rfl rfl rfl rfl rfl ⟨rfl, Int.natCast_nonneg _, by rw [Int.toNat_natCast]; exact rows_at hy⟩ ?_
                  iterate 2 refine RegD.pureS tab_ok (hint := []) rfl rfl rfl rfl rfl rfl trivial ?_
                  refine RegD.call tab_ok [] [] (ih x (hkm x (kid_mem hx)) (by omega) y false) callable12 rfl rfl rfl rfl rfl rfl rfl rfl (by decide) rfl rfl ?_
                  rintro out bx1 ⟨rfl, rfl⟩
                  refine after0D rfl rfl Stable.nil ?_
                  iterate 1 refine RegD.pureS tab_ok (hint := []) rfl rfl rfl rfl rfl rfl trivial ?_
                  refine RegD.nil ?_
                  repeat (first
                    | refine AW.seq ?_
                    | refine AW.reg ?_
                    | refine Reg.opS tab_ok (hint := []) rfl rfl rfl rfl rfl trivial ?_
                    | refine Reg.opN tab_ok (hint := []) rfl rfl rfl rfl trivial ?_
                    | refine Reg.nil ?_
                    | refine thenA_normal ?_
                    | refine AW.condT rfl ?_
                    | refine AW.condF rfl ?_
                    | refine AW.skip ?_
                    | refine AW.block ?_
                    | refine AW.exit ?_
                    | refine AW.ret ?_
                    | refine thenA_exit ?_
                    | refine thenA_ret ?_
                    | refine blockA_normal ?_
                    | refine blockA_hit ?_
                    | refine blockA_miss rfl ?_
                    | refine blockA_ret ?_
                    | refine Reg.panic rfl rfl rfl rfl ?_
                    | refine thenA_panic ?_
                    | refine blockA_panic ?_
                    | refine Reg.skip rfl rfl rfl rfl rfl rfl rfl rfl ?_
                    | refine Reg.ifS tab_ok (hint := []) rfl rfl rfl rfl rfl rfl rfl rfl rfl trivial ?_
                    | refine AW.label ?_
                    | refine AW.scope ?_
                    | refine scopeA_normal ?_
                    | refine scopeA_ret ?_
                    | refine scopeA_exit ?_)
                  cases h7 : sameP false x y with
                  | false =>
                    rw [h7, Bool.false_and] at hinv
                    repeat (first
                      | refine AW.seq ?_
                      | refine AW.reg ?_
                      | refine Reg.opS tab_ok (hint := []) rfl rfl rfl rfl rfl trivial ?_
                      | refine Reg.opN tab_ok (hint := []) rfl rfl rfl rfl trivial ?_
                      | refine Reg.nil ?_
                      | refine thenA_normal ?_
                      | refine AW.condT rfl ?_
                      | refine AW.condF rfl ?_
                      | refine AW.skip ?_
                      | refine AW.block ?_
                      | refine AW.exit ?_
                      | refine AW.ret ?_
                      | refine thenA_exit ?_
                      | refine thenA_ret ?_
                      | refine blockA_normal ?_
                      | refine blockA_hit ?_
                      | refine blockA_miss rfl ?_
                      | refine blockA_ret ?_
                      | refine Reg.panic rfl rfl rfl rfl ?_
                      | refine thenA_panic ?_
                      | refine blockA_panic ?_
                      | refine Reg.skip rfl rfl rfl rfl rfl rfl rfl rfl ?_
                      | refine Reg.ifS tab_ok (hint := []) rfl rfl rfl rfl rfl rfl rfl rfl rfl trivial ?_
                      | refine AW.label ?_
                      | refine AW.scope ?_
                      | refine scopeA_normal ?_
                      | refine scopeA_ret ?_
                      | refine scopeA_exit ?_)
                    exact ⟨_, rfl, rfl, rfl, by rw [← hinv]; rfl, rfl⟩
                  | true =>
                    rw [h7, Bool.true_and] at hinv
                    repeat (first
                      | refine AW.seq ?_
                      | refine AW.reg ?_
                      | refine Reg.opS tab_ok (hint := []) rfl rfl rfl rfl rfl trivial ?_
                      | refine Reg.opN tab_ok (hint := []) rfl rfl rfl rfl trivial ?_
                      | refine Reg.nil ?_
                      | refine thenA_normal ?_
                      | refine AW.condT rfl ?_
                      | refine AW.condF rfl ?_
                      | refine AW.skip ?_
                      | refine AW.block ?_
                      | refine AW.exit ?_
                      | refine AW.ret ?_
                      | refine thenA_exit ?_
                      | refine thenA_ret ?_
                      | refine blockA_normal ?_
                      | refine blockA_hit ?_
                      | refine blockA_miss rfl ?_
                      | refine blockA_ret ?_
                      | refine Reg.panic rfl rfl rfl rfl ?_
                      | refine thenA_panic ?_
                      | refine blockA_panic ?_
                      | refine Reg.skip rfl rfl rfl rfl rfl rfl rfl rfl ?_
                      | refine Reg.ifS tab_ok (hint := []) rfl rfl rfl rfl rfl rfl rfl rfl rfl trivial ?_
                      | refine AW.label ?_
                      | refine AW.scope ?_
                      | refine scopeA_normal ?_
                      | refine scopeA_ret ?_
                      | refine scopeA_exit ?_)
                    rw [hnext]
                    exact ⟨i + 1, ⟨by omega, by rw [hxr, hyq]; exact hinv⟩, by omega, ⟨.refl _, .refl _, .refl _, .refl _, trivial⟩, ⟨SLes.refl _, SLes.refl _, trivial⟩, rfl, rfl⟩
                | false =>
                  have hge : ks.length ≤ i := by have := of_decide_eq_false h6; rw [T.rows_len] at this; omega
                  rw [List.drop_eq_nil_of_le hge, List.drop_eq_nil_of_le (h3' ▸ hge)] at hinv
                  rw [← hinv]
                  repeat (first
                    | refine AW.seq ?_
                    | refine AW.reg ?_
                    | refine Reg.opS tab_ok (hint := []) rfl rfl rfl rfl rfl trivial ?_
                    | refine Reg.opN tab_ok (hint := []) rfl rfl rfl rfl trivial ?_
                    | refine Reg.nil ?_
                    | refine thenA_normal ?_
                    | refine AW.condT rfl ?_
                    | refine AW.condF rfl ?_
                    | refine AW.skip ?_
                    | refine AW.block ?_
                    | refine AW.exit ?_
                    | refine AW.ret ?_
                    | refine thenA_exit ?_
                    | refine thenA_ret ?_
                    | refine blockA_normal ?_
                    | refine blockA_hit ?_
                    | refine blockA_miss rfl ?_
                    | refine blockA_ret ?_
                    | refine Reg.panic rfl rfl rfl rfl ?_
                    | refine thenA_panic ?_
                    | refine blockA_panic ?_
                    | refine Reg.skip rfl rfl rfl rfl rfl rfl rfl rfl ?_
                    | refine Reg.ifS tab_ok (hint := []) rfl rfl rfl rfl rfl rfl rfl rfl rfl trivial ?_
                    | refine AW.label ?_
                    | refine AW.scope ?_
                    | refine scopeA_normal ?_
                    | refine scopeA_ret ?_
                    | refine scopeA_exit ?_)
                  exact ⟨_, rfl, rfl, rfl, by simp only [strsP, samesP]; rfl, rfl⟩
            | true =>
              repeat (first
                | refine AW.seq ?_
                | refine AW.reg ?_
                | refine Reg.opS tab_ok (hint := []) rfl rfl rfl rfl rfl trivial ?_
                | refine Reg.opN tab_ok (hint := []) rfl rfl rfl rfl trivial ?_
                | refine Reg.nil ?_
                | refine thenA_normal ?_
                | refine AW.condT rfl ?_
                | refine AW.condF rfl ?_
                | refine AW.skip ?_
                | refine AW.block ?_
                | refine AW.exit ?_
                | refine AW.ret ?_
                | refine thenA_exit ?_
                | refine thenA_ret ?_
                | refine blockA_normal ?_
                | refine blockA_hit ?_
                | refine blockA_miss rfl ?_
                | refine blockA_ret ?_
                | refine Reg.panic rfl rfl rfl rfl ?_
                | refine thenA_panic ?_
                | refine blockA_panic ?_
                | refine Reg.skip rfl rfl rfl rfl rfl rfl rfl rfl ?_
                | refine Reg.ifS tab_ok (hint := []) rfl rfl rfl rfl rfl rfl rfl rfl rfl trivial ?_
                | refine AW.label ?_
                | refine AW.scope ?_
                | refine scopeA_normal ?_
                | refine scopeA_ret ?_
                | refine scopeA_exit ?_)
              cases h5 : (p != p') with
              | true =>
                have h5' : (p == p') = false := by simpa [bne] using h5
                repeat (first
                  | refine AW.seq ?_
                  | refine AW.reg ?_
                  | refine Reg.opS tab_ok (hint := []) rfl rfl rfl rfl rfl trivial ?_
                  | refine Reg.opN tab_ok (hint := []) rfl rfl rfl rfl trivial ?_
                  | refine Reg.nil ?_
                  | refine thenA_normal ?_
                  | refine AW.condT rfl ?_
                  | refine AW.condF rfl ?_
                  | refine AW.skip ?_
                  | refine AW.block ?_
                  | refine AW.exit ?_
                  | refine AW.ret ?_
                  | refine thenA_exit ?_
                  | refine thenA_ret ?_
                  | refine blockA_normal ?_
                  | refine blockA_hit ?_
                  | refine blockA_miss rfl ?_
                  | refine blockA_ret ?_
                  | refine Reg.panic rfl rfl rfl rfl ?_
                  | refine thenA_panic ?_
                  | refine blockA_panic ?_
                  | refine Reg.skip rfl rfl rfl rfl rfl rfl rfl rfl ?_
                  | refine Reg.ifS tab_ok (hint := []) rfl rfl rfl rfl rfl rfl rfl rfl rfl trivial ?_
                  | refine AW.label ?_
                  | refine AW.scope ?_
                  | refine scopeA_normal ?_
                  | refine scopeA_ret ?_
                  | refine scopeA_exit ?_)
                exact ⟨_, rfl, rfl, rfl, by simp only [sameP, h1', h2, h5']; simp, rfl⟩
              | false =>
                have h5' : (p == p') = true := by simpa [bne] using h5
                have hsp : sameP true (.mk k n ks ns p) (.mk k' n' ks' ns' p') = (strsP ns ns' && samesP true ks ks') := by simp only [sameP, h1', h2, h5', Bool.or_true, Bool.true_and]
                rw [hsp]
                repeat (first
                  | refine AW.seq ?_
                  | refine AW.reg ?_
                  | refine Reg.opS tab_ok (hint := []) rfl rfl rfl rfl rfl trivial ?_
                  | refine Reg.opN tab_ok (hint := []) rfl rfl rfl rfl trivial ?_
                  | refine Reg.nil ?_
                  | refine thenA_normal ?_
                  | refine AW.condT rfl ?_
                  | refine AW.condF rfl ?_
                  | refine AW.skip ?_
                  | refine AW.block ?_
                  | refine AW.exit ?_
                  | refine AW.ret ?_
                  | refine thenA_exit ?_
                  | refine thenA_ret ?_
                  | refine blockA_normal ?_
                  | refine blockA_hit ?_
                  | refine blockA_miss rfl ?_
                  | refine blockA_ret ?_
                  | refine Reg.panic rfl rfl rfl rfl ?_
                  | refine thenA_panic ?_
                  | refine blockA_panic ?_
                  | refine Reg.skip rfl rfl rfl rfl rfl rfl rfl rfl ?_
                  | refine Reg.ifS tab_ok (hint := []) rfl rfl rfl rfl rfl rfl rfl rfl rfl trivial ?_
                  | refine AW.label ?_
                  | refine AW.scope ?_
                  | refine scopeA_normal ?_
                  | refine scopeA_ret ?_
                  | refine scopeA_exit ?_)
                refine AW.loop (S := Nat) (fun i => i ≤ ns.length ∧ strsP (ns.drop i) (ns'.drop i) = strsP ns ns') (fun i => [(2, .d (.val (.bool true))), (3, .ptr 0 0), (4, .ptr 1 0), (7, .d (.val (.int .i64 i)))])
                  (fun _ => [.cells [.d (.val (.int .i64 k)), .d (.val (.string n)), .d (.sl 5 (T.rows ks) false), .d (.sl 1 (strsC ns) false), .d (.val (.int .i64 p))], .cells [.d (.val (.int .i64 k')), .d (.val (.string n')), .d (.sl 5 (T.rows ks') false), .d (.sl 1 (strsC ns') false), .d (.val (.int .i64 p'))]])
                  (fun i => ns.length - i) 0 ⟨Nat.zero_le _, rfl⟩ (fun _ => rfl) ⟨⟨.refl _, .refl _, .refl _, .refl _, trivial⟩, ⟨SLes.refl _, SLes.refl _, trivial⟩, rfl, rfl⟩ ?_
                rintro i ⟨hi, hinv⟩
                repeat (first
                  | refine AW.seq ?_
                  | refine AW.reg ?_
                  | refine Reg.opS tab_ok (hint := []) rfl rfl rfl rfl rfl trivial ?_
                  | refine Reg.opN tab_ok (hint := []) rfl rfl rfl rfl trivial ?_
                  | refine Reg.nil ?_
                  | refine thenA_normal ?_
                  | refine AW.condT rfl ?_
                  | refine AW.condF rfl ?_
                  | refine AW.skip ?_
                  | refine AW.block ?_
                  | refine AW.exit ?_
                  | refine AW.ret ?_
                  | refine thenA_exit ?_
                  | refine thenA_ret ?_
                  | refine blockA_normal ?_
                  | refine blockA_hit ?_
                  | refine blockA_miss rfl ?_
                  | refine blockA_ret ?_
                  | refine Reg.panic rfl rfl rfl rfl ?_
                  | refine thenA_panic ?_
                  | refine blockA_panic ?_
                  | refine Reg.skip rfl rfl rfl rfl rfl rfl rfl rfl ?_
                  | refine Reg.ifS tab_ok (hint := []) rfl rfl rfl rfl rfl rfl rfl rfl rfl trivial ?_
                  | refine AW.label ?_
                  | refine AW.scope ?_
                  | refine scopeA_normal ?_
                  | refine scopeA_ret ?_
                  | refine scopeA_exit ?_)
                cases h6 : decide ((i : Int) < (strsC ns).length) with
                | true =>
                  have hlt : i < ns.length := by have := of_decide_eq_true h6; rw [strsC_len] at this; omega
                  obtain ⟨x, r, hx, hxr⟩ := drop_some hlt
                  obtain ⟨y, q, hy, hyq⟩ := drop_some (h4' ▸ hlt)
                  rw [hx, hy] at hinv
                  simp only [strsP] at hinv
                  have hnext : IntKind.i64.wrap ((i : Int) + 1) = ((i + 1 : Nat) : Int) := wrap_in (by omega) (by omega)
                  repeat (first
                    | refine AW.seq ?_
                    | refine AW.reg ?_
                    | refine Reg.opS tab_ok (hint := []) rfl rfl rfl rfl rfl trivial ?_
                    | refine Reg.opN tab_ok (hint := []) rfl rfl rfl rfl trivial ?_
                    | refine Reg.nil ?_
                    | refine thenA_normal ?_
                    | refine AW.condT rfl ?_
                    | refine AW.condF rfl ?_
                    | refine AW.skip ?_
                    | refine AW.block ?_
                    | refine AW.exit ?_
                    | refine AW.ret ?_
                    | refine thenA_exit ?_
                    | refine thenA_ret ?_
                    | refine blockA_normal ?_
                    | refine blockA_hit ?_
                    | refine blockA_miss rfl ?_
                    | refine blockA_ret ?_
                    | refine Reg.panic rfl rfl rfl rfl ?_
                    | refine thenA_panic ?_
                    | refine blockA_panic ?_
                    | refine Reg.skip rfl rfl rfl rfl rfl rfl rfl rfl ?_
                    | refine Reg.ifS tab_ok (hint := []) rfl rfl rfl rfl rfl rfl rfl rfl rfl trivial ?_
                    | refine AW.label ?_
                    | refine AW.scope ?_
                    | refine scopeA_normal ?_
                    | refine scopeA_ret ?_
                    | refine scopeA_exit ?_)
                  refine AW.draw [] [0, 1, 2, 3, 4, 5, 6, 7, 8, 9, 10] mixed ⟨rfl, rfl, rfl, rfl, by decide⟩ ?_
                  iterate 3 refine RegD.pureS tab_ok (hint := []) rfl rfl rfl rfl rfl rfl trivial ?_
                  refine RegD.pureS tab_ok (hint := [.val (.string x)]) rfl rfl rfl rfl rfl rfl ⟨rfl, Int.natCast_nonneg _, by rw [Int.toNat_natCast]; exact strsC_at hx⟩ ?_
                  iterate 4 refine RegD.pureS tab_ok (hint := []) rfl rfl rfl rfl rfl rfl trivial ?_
                  refine RegD.pureS tab_ok (hint := [.val (.string y)]) rfl rfl rfl rfl rfl rfl ⟨rfl, Int.natCast_nonneg _, by rw [Int.toNat_natCast]; exact strsC_at hy⟩ ?_
                  iterate 2 refine RegD.pureS tab_ok (hint := []) rfl rfl rfl rfl rfl rfl trivial ?_
                  refine RegD.nil ?_
                  repeat (first
                    | refine AW.seq ?_
                    | refine AW.reg ?_
                    | refine Reg.opS tab_ok (hint := []) rfl rfl rfl rfl rfl trivial ?_
                    | refine Reg.opN tab_ok (hint := []) rfl rfl rfl rfl trivial ?_
                    | refine Reg.nil ?_
                    | refine thenA_normal ?_
                    | refine AW.condT rfl ?_
                    | refine AW.condF rfl ?_
                    | refine AW.skip ?_
                    | refine AW.block ?_
                    | refine AW.exit ?_
                    | refine AW.ret ?_
                    | refine thenA_exit ?_
                    | refine thenA_ret ?_
                    | refine blockA_normal ?_
                    | refine blockA_hit ?_
                    | refine blockA_miss rfl ?_
                    | refine blockA_ret ?_
                    | refine Reg.panic rfl rfl rfl rfl ?_
                    | refine thenA_panic ?_
                    | refine blockA_panic ?_
                    | refine Reg.skip rfl rfl rfl rfl rfl rfl rfl rfl ?_
                    | refine Reg.ifS tab_ok (hint := []) rfl rfl rfl rfl rfl rfl rfl rfl rfl trivial ?_
                    | refine AW.label ?_
                    | refine AW.scope ?_
                    | refine scopeA_normal ?_
                    | refine scopeA_ret ?_
                    | refine scopeA_exit ?_)
                  cases h7 : (x.toList == y.toList) with
                  | false =>
                    rw [h7, Bool.false_and] at hinv
                    repeat (first
                      | refine AW.seq ?_
                      | refine AW.reg ?_
                      | refine Reg.opS tab_ok (hint := []) rfl rfl rfl rfl rfl trivial ?_
                      | refine Reg.opN tab_ok (hint := []) rfl rfl rfl rfl trivial ?_
                      | refine Reg.nil ?_
                      | refine thenA_normal ?_
                      | refine AW.condT rfl ?_
                      | refine AW.condF rfl ?_
                      | refine AW.skip ?_
                      | refine AW.block ?_
                      | refine AW.exit ?_
                      | refine AW.ret ?_
                      | refine thenA_exit ?_
                      | refine thenA_ret ?_
                      | refine blockA_normal ?_
                      | refine blockA_hit ?_
                      | refine blockA_miss rfl ?_
                      | refine blockA_ret ?_
                      | refine Reg.panic rfl rfl rfl rfl ?_
                      | refine thenA_panic ?_
                      | refine blockA_panic ?_
                      | refine Reg.skip rfl rfl rfl rfl rfl rfl rfl rfl ?_
                      | refine Reg.ifS tab_ok (hint := []) rfl rfl rfl rfl rfl rfl rfl rfl rfl trivial ?_
                      | refine AW.label ?_
                      | refine AW.scope ?_
                      | refine scopeA_normal ?_
                      | refine scopeA_ret ?_
                      | refine scopeA_exit ?_)
                    exact ⟨_, rfl, rfl, rfl, by rw [← hinv]; rfl, rfl⟩
                  | true =>
                    rw [h7, Bool.true_and] at hinv
                    repeat (first
                      | refine AW.seq ?_
                      | refine AW.reg ?_
                      | refine Reg.opS tab_ok (hint := []) rfl rfl rfl rfl rfl trivial ?_
                      | refine Reg.opN tab_ok (hint := []) rfl rfl rfl rfl trivial ?_
                      | refine Reg.nil ?_
                      | refine thenA_normal ?_
                      | refine AW.condT rfl ?_
                      | refine AW.condF rfl ?_
                      | refine AW.skip ?_
                      | refine AW.block ?_
                      | refine AW.exit ?_
                      | refine AW.ret ?_
                      | refine thenA_exit ?_
                      | refine thenA_ret ?_
                      | refine blockA_normal ?_
                      | refine blockA_hit ?_
                      | refine blockA_miss rfl ?_
                      | refine blockA_ret ?_
                      | refine Reg.panic rfl rfl rfl rfl ?_
                      | refine thenA_panic ?_
                      | refine blockA_panic ?_
                      | refine Reg.skip rfl rfl rfl rfl rfl rfl rfl rfl ?_
                      | refine Reg.ifS tab_ok (hint := []) rfl rfl rfl rfl rfl rfl rfl rfl rfl trivial ?_
                      | refine AW.label ?_
                      | refine AW.scope ?_
                      | refine scopeA_normal ?_
                      | refine scopeA_ret ?_
                      | refine scopeA_exit ?_)
                    rw [hnext]
                    exact ⟨i + 1, ⟨by omega, by rw [hxr, hyq]; exact hinv⟩, by omega, ⟨.refl _, .refl _, .refl _, .refl _, trivial⟩, ⟨SLes.refl _, SLes.refl _, trivial⟩, rfl, rfl⟩
                | false =>
                  have hge : ns.length ≤ i := by have := of_decide_eq_false h6; rw [strsC_len] at this; omega
                  rw [List.drop_eq_nil_of_le hge, List.drop_eq_nil_of_le (h4' ▸ hge)] at hinv
                  rw [← hinv]
                  clear hinv hge h6 hi
                  repeat (first
                    | refine AW.seq ?_
                    | refine AW.reg ?_
                    | refine Reg.opS tab_ok (hint := []) rfl rfl rfl rfl rfl trivial ?_
                    | refine Reg.opN tab_ok (hint := []) rfl rfl rfl rfl trivial ?_
                    | refine Reg.nil ?_
                    | refine thenA_normal ?_
                    | refine AW.condT rfl ?_
                    | refine AW.condF rfl ?_
                    | refine AW.skip ?_
                    | refine AW.block ?_
                    | refine AW.exit ?_
                    | refine AW.ret ?_
                    | refine thenA_exit ?_
                    | refine thenA_ret ?_
                    | refine blockA_normal ?_
                    | refine blockA_hit ?_
                    | refine blockA_miss rfl ?_
                    | refine blockA_ret ?_
                    | refine Reg.panic rfl rfl rfl rfl ?_
                    | refine thenA_panic ?_
                    | refine blockA_panic ?_
                    | refine Reg.skip rfl rfl rfl rfl rfl rfl rfl rfl ?_
                    | refine Reg.ifS tab_ok (hint := []) rfl rfl rfl rfl rfl rfl rfl rfl rfl trivial ?_
                    | refine AW.label ?_
                    | refine AW.scope ?_
                    | refine scopeA_normal ?_
                    | refine scopeA_ret ?_
                    | refine scopeA_exit ?_)
                  refine AW.loop (S := Nat) (fun i => i ≤ ks.length ∧ samesP true (ks.drop i) (ks'.drop i) = samesP true ks ks') (fun i => [(2, .d (.val (.bool true))), (3, .ptr 0 0), (4, .ptr 1 0), (8, .d (.val (.int .i64 i)))])
                    (fun _ => [.cells [.d (.val (.int .i64 k)), .d (.val (.string n)), .d (.sl 5 (T.rows ks) false), .d (.sl 1 (strsC ns) false), .d (.val (.int .i64 p))], .cells [.d (.val (.int .i64 k')), .d (.val (.string n')), .d (.sl 5 (T.rows ks') false), .d (.sl 1 (strsC ns') false), .d (.val (.int .i64 p'))]])
                    (fun i => ks.length - i) 0 ⟨Nat.zero_le _, rfl⟩ (fun _ => rfl) ⟨⟨.refl _, .refl _, .refl _, .refl _, trivial⟩, ⟨SLes.refl _, SLes.refl _, trivial⟩, rfl, rfl⟩ ?_
                  rintro i ⟨hi, hinv⟩
                  repeat (first
                    | refine AW.seq ?_
                    | refine AW.reg ?_
                    | refine Reg.opS tab_ok (hint := []) rfl rfl rfl rfl rfl trivial ?_
                    | refine Reg.opN tab_ok (hint := []) rfl rfl rfl rfl trivial ?_
                    | refine Reg.nil ?_
                    | refine thenA_normal ?_
                    | refine AW.condT rfl ?_
                    | refine AW.condF rfl ?_
                    | refine AW.skip ?_
                    | refine AW.block ?_
                    | refine AW.exit ?_
                    | refine AW.ret ?_
                    | refine thenA_exit ?_
                    | refine thenA_ret ?_
                    | refine blockA_normal ?_
                    | refine blockA_hit ?_
                    | refine blockA_miss rfl ?_
                    | refine blockA_ret ?_
                    | refine Reg.panic rfl rfl rfl rfl ?_
                    | refine thenA_panic ?_
                    | refine blockA_panic ?_
                    | refine Reg.skip rfl rfl rfl rfl rfl rfl rfl rfl ?_
                    | refine Reg.ifS tab_ok (hint := []) rfl rfl rfl rfl rfl rfl rfl rfl rfl trivial ?_
                    | refine AW.label ?_
                    | refine AW.scope ?_
                    | refine scopeA_normal ?_
                    | refine scopeA_ret ?_
                    | refine scopeA_exit ?_)
                  cases h6 : decide ((i : Int) < (T.rows ks).length) with
                  | true =>
                    have hlt : i < ks.length := by have := of_decide_eq_true h6; rw [T.rows_len] at this; omega
                    obtain ⟨x, r, hx, hxr⟩ := drop_some hlt
                    obtain ⟨y, q, hy, hyq⟩ := drop_some (h3' ▸ hlt)
                    rw [hx, hy] at hinv
                    simp only [samesP] at hinv
                    have hnext : IntKind.i64.wrap ((i : Int) + 1) = ((i + 1 : Nat) : Int) := wrap_in (by omega) (by omega)
                    repeat (first
                      | refine AW.seq ?_
                      | refine AW.reg ?_
                      | refine Reg.opS tab_ok (hint := []) rfl rfl rfl rfl rfl trivial ?_
                      | refine Reg.opN tab_ok (hint := []) rfl rfl rfl rfl trivial ?_
                      | refine Reg.nil ?_
                      | refine thenA_normal ?_
                      | refine AW.condT rfl ?_
                      | refine AW.condF rfl ?_
                      | refine AW.skip ?_
                      | refine AW.block ?_
                      | refine AW.exit ?_
                      | refine AW.ret ?_
                      | refine thenA_exit ?_
                      | refine thenA_ret ?_
                      | refine blockA_normal ?_
                      | refine blockA_hit ?_
                      | refine blockA_miss rfl ?_
                      | refine blockA_ret ?_
                      | refine Reg.panic rfl rfl rfl rfl ?_
                      | refine thenA_panic ?_
                      | refine blockA_panic ?_
                      | refine Reg.skip rfl rfl rfl rfl rfl rfl rfl rfl ?_
                      | refine Reg.ifS tab_ok (hint := []) rfl rfl rfl rfl rfl rfl rfl rfl rfl trivial ?_
                      | refine AW.label ?_
                      | refine AW.scope ?_
                      | refine scopeA_normal ?_
                      | refine scopeA_ret ?_
                      | refine scopeA_exit ?_)
                    refine AW.draw [11] [0, 1, 2, 3, 4, 5, 6, 7, 8, 9, 10, 11, 12] mixed ⟨rfl, rfl, rfl, rfl, by decide⟩ ?_
                    iterate 3 refine RegD.pureS tab_ok (hint := []) rfl rfl rfl rfl rfl rfl trivial ?_
                    refine RegD.pureS tab_ok (hint := tC x) rfl rfl rfl rfl rfl rfl ⟨rfl, Int.natCast_nonneg _, by rw [Int.toNat_natCast]; exact rows_at hx⟩ ?_
                    iterate 4 refine RegD.pureS tab_ok (hint := []) rfl rfl rfl rfl rfl rfl trivial ?_
                    refine RegD.pureS tab_ok (hint := tC y) rfl rfl rfl rfl rfl rfl ⟨rfl, Int.natCast_nonneg _, by rw [Int.toNat_natCast]; exact rows_at hy⟩ ?_
                    iterate 2 refine RegD.pureS tab_ok (hint := []) rfl rfl rfl rfl rfl rfl trivial ?_
                    refine RegD.call tab_ok [] [] (ih x (hkm x (kid_mem hx)) (by omega) y true) callable12 rfl rfl rfl rfl rfl rfl rfl rfl (by decide) rfl rfl ?_
                    rintro out bx1 ⟨rfl, rfl⟩
                    refine after0D rfl rfl Stable.nil ?_
                    iterate 1 refine RegD.pureS tab_ok (hint := []) rfl rfl rfl rfl rfl rfl trivial ?_
                    refine RegD.nil ?_
                    repeat (first
                      | refine AW.seq ?_
                      | refine AW.reg ?_
                      | refine Reg.opS tab_ok (hint := []) rfl rfl rfl rfl rfl trivial ?_
                      | refine Reg.opN tab_ok (hint := []) rfl rfl rfl rfl trivial ?_
                      | refine Reg.nil ?_
                      | refine thenA_normal ?_
                      | refine AW.condT rfl ?_
                      | refine AW.condF rfl ?_
                      | refine AW.skip ?_
                      | refine AW.block ?_
                      | refine AW.exit ?_
                      | refine AW.ret ?_
                      | refine thenA_exit ?_
                      | refine thenA_ret ?_
                      | refine blockA_normal ?_
                      | refine blockA_hit ?_
                      | refine blockA_miss rfl ?_
                      | refine blockA_ret ?_
                      | refine Reg.panic rfl rfl rfl rfl ?_
                      | refine thenA_panic ?_
                      | refine blockA_panic ?_
                      | refine Reg.skip rfl rfl rfl rfl rfl rfl rfl rfl ?_
                      | refine Reg.ifS tab_ok (hint := []) rfl rfl rfl rfl rfl rfl rfl rfl rfl trivial ?_
                      | refine AW.label ?_
                      | refine AW.scope ?_
                      | refine scopeA_normal ?_
                      | refine scopeA_ret ?_
                      | refine scopeA_exit ?_)
                    cases h7 : sameP true x y with
                    | false =>
                      rw [h7, Bool.false_and] at hinv
                      repeat (first
                        | refine AW.seq ?_
                        | refine AW.reg ?_
                        | refine Reg.opS tab_ok (hint := []) rfl rfl rfl rfl rfl trivial ?_
                        | refine Reg.opN tab_ok (hint := []) rfl rfl rfl rfl trivial ?_
                        | refine Reg.nil ?_
                        | refine thenA_normal ?_
                        | refine AW.condT rfl ?_
                        | refine AW.condF rfl ?_
                        | refine AW.skip ?_
                        | refine AW.block ?_
                        | refine AW.exit ?_
                        | refine AW.ret ?_
                        | refine thenA_exit ?_
                        | refine thenA_ret ?_
                        | refine blockA_normal ?_
                        | refine blockA_hit ?_
                        | refine blockA_miss rfl ?_
                        | refine blockA_ret ?_
                        | refine Reg.panic rfl rfl rfl rfl ?_
                        | refine thenA_panic ?_
                        | refine blockA_panic ?_
                        | refine Reg.skip rfl rfl rfl rfl rfl rfl rfl rfl ?_
                        | refine Reg.ifS tab_ok (hint := []) rfl rfl rfl rfl rfl rfl rfl rfl rfl trivial ?_
                        | refine AW.label ?_
                        | refine AW.scope ?_
                        | refine scopeA_normal ?_
                        | refine scopeA_ret ?_
                        | refine scopeA_exit ?_)
                      exact ⟨_, rfl, rfl, rfl, by rw [← hinv]; rfl, rfl⟩
                    | true =>
                      rw [h7, Bool.true_and] at hinv
                      repeat (first
                        | refine AW.seq ?_
                        | refine AW.reg ?_
                        | refine Reg.opS tab_ok (hint := []) rfl rfl rfl rfl rfl trivial ?_
                        | refine Reg.opN tab_ok (hint := []) rfl rfl rfl rfl trivial ?_
                        | refine Reg.nil ?_
                        | refine thenA_normal ?_
                        | refine AW.condT rfl ?_
                        | refine AW.condF rfl ?_
                        | refine AW.skip ?_
                        | refine AW.block ?_
                        | refine AW.exit ?_
                        | refine AW.ret ?_
                        | refine thenA_exit ?_
                        | refine thenA_ret ?_
                        | refine blockA_normal ?_
                        | refine blockA_hit ?_
                        | refine blockA_miss rfl ?_
                        | refine blockA_ret ?_
                        | refine Reg.panic rfl rfl rfl rfl ?_
                        | refine thenA_panic ?_
                        | refine blockA_panic ?_
                        | refine Reg.skip rfl rfl rfl rfl rfl rfl rfl rfl ?_
                        | refine Reg.ifS tab_ok (hint := []) rfl rfl rfl rfl rfl rfl rfl rfl rfl trivial ?_
                        | refine AW.label ?_
                        | refine AW.scope ?_
                        | refine scopeA_normal ?_
                        | refine scopeA_ret ?_
                        | refine scopeA_exit ?_)
                      rw [hnext]
                      exact ⟨i + 1, ⟨by omega, by rw [hxr, hyq]; exact hinv⟩, by omega, ⟨.refl _, .refl _, .refl _, .refl _, trivial⟩, ⟨SLes.refl _, SLes.refl _, trivial⟩, rfl, rfl⟩
                  | false =>
                    have hge : ks.length ≤ i := by have := of_decide_eq_false h6; rw [T.rows_len] at this; omega
                    rw [List.drop_eq_nil_of_le hge, List.drop_eq_nil_of_le (h3' ▸ hge)] at hinv
                    rw [← hinv]
                    repeat (first
                      | refine AW.seq ?_
                      | refine AW.reg ?_
                      | refine Reg.opS tab_ok (hint := []) rfl rfl rfl rfl rfl trivial ?_
                      | refine Reg.opN tab_ok (hint := []) rfl rfl rfl rfl trivial ?_
                      | refine Reg.nil ?_
                      | refine thenA_normal ?_
                      | refine AW.condT rfl ?_
                      | refine AW.condF rfl ?_
                      | refine AW.skip ?_
                      | refine AW.block ?_
                      | refine AW.exit ?_
                      | refine AW.ret ?_
                      | refine thenA_exit ?_
                      | refine thenA_ret ?_
                      | refine blockA_normal ?_
                      | refine blockA_hit ?_
                      | refine blockA_miss rfl ?_
                      | refine blockA_ret ?_
                      | refine Reg.panic rfl rfl rfl rfl ?_
                      | refine thenA_panic ?_
                      | refine blockA_panic ?_
                      | refine Reg.skip rfl rfl rfl rfl rfl rfl rfl rfl ?_
                      | refine Reg.ifS tab_ok (hint := []) rfl rfl rfl rfl rfl rfl rfl rfl rfl trivial ?_
                      | refine AW.label ?_
                      | refine AW.scope ?_
                      | refine scopeA_normal ?_
                      | refine scopeA_ret ?_
                      | refine scopeA_exit ?_)
                    exact ⟨_, rfl, rfl, rfl, by simp only [strsP, samesP]; rfl, rfl⟩

end Go.Proofs.YtamkldohfhidiaaDoor
