/- Equality of plain values, conversions, building of structs and arrays, lengths. No condition. -/
import Derived.Test.YtdnmnafadondkaaAw3
import Derived.DeepKeys
import Derived.Laws.StructEq
set_option linter.unusedVariables false
set_option linter.unusedSimpArgs false
namespace Go.Proofs.Ytdnmnafadondkaa
open Go Go.RowKit

/-! ### Equality: cell by cell where a type holds numbers, bools and strings alone -/

def eqS : AV → AV → Option Bool
  | .val (.int k a), .val (.int k' b) => if k = k' then some (decide (a = b)) else none
  | .val (.bool a), .val (.bool b) => some (a == b)
  | .val (.string a), .val (.string b) => some (a.toList == b.toList)
  | _, _ => none

def eqL : List AV → List AV → Option Bool
  | [], [] => some true
  | x :: xs, y :: ys => match eqS x y, eqL xs ys with
    | some a, some b => some (a && b)
    | _, _ => none
  | _, _ => none

def TI.one (ti : TI) : Bool :=
  ti.size == 1 && (match ti.d with | .int _ => true | .bool => true | .str => true | _ => false)

/-- The type's own number kind agrees with the cells. -/
def fits (ti : TI) : AV → Bool
  | .val (.int _ _) => match ti.d with | .int _ => true | _ => false
  | .val (.bool _) => match ti.d with | .bool => true | _ => false
  | .val (.string _) => match ti.d with | .str => true | _ => false
  | _ => false

theorem run_eqS {P : Program} {w : World} {t : TypeId} {ti : TI} (ht : TOk P t ti) {x y : AV} {u v : Value} {E : Env} {r : Bool} (d : Nat)
    (hx : M w E x u) (hy : M w E y v) (hf : fits ti x = true) (he : eqS x y = some r) : (Op.equalIn (d + 1) t u v).run P w = .ok r w := by
  obtain ⟨td, hu, ho⟩ := ht.und
  cases x <;> simp [eqS] at he
  rename_i a
  cases y <;> (try (cases a <;> simp [eqS] at he; done))
  rename_i b
  simp only [M] at hx hy
  subst hx; subst hy
  cases u <;> cases v <;> simp [eqS] at he <;> simp [fits] at hf
  · rw [← ho] at hf
    cases td <;> simp [TD.of] at hf
    subst he
    simp [Op.equalIn, run_underlying hu]
  · obtain ⟨rfl, rfl⟩ := he
    rw [← ho] at hf
    cases td <;> simp [TD.of] at hf
    simp [Op.equalIn, run_underlying hu, BEq.beq]
  · rw [← ho] at hf
    cases td <;> simp [TD.of] at hf
    subst he
    rw [run_equalIn_string w d t _ _ hu]

theorem run_partOne {P : Program} {w : World} {t : TypeId} {ti : TI} (ht : TOk P t ti) (h1 : ti.one = true) {vs : List Value} {o : Nat} {v : Value} (hv : vs[o]? = some v) :
    (part t ⟨vs⟩ o).run P w = .ok v w := by
  unfold part
  have hag : ti.d.isAgg = false := by
    unfold TI.one at h1
    cases hd : ti.d <;> simp [hd] at h1 <;> rfl
  simp [ht.run_agg, hag, hv]

theorem run_eqItems {P : Program} {w : World} {e : TypeId} {eti : TI} (he : TOk P e eti) (h1 : eti.one = true) {E : Env} (d : Nat) :
    ∀ (m i : Nat) (xs ys : List AV) (us vs : List Value) (r : Bool), Ms w E xs us → Ms w E ys vs → (xs.drop i).length = m → (ys.drop i).length = m → xs.all (fits eti) = true → eqL (xs.drop i) (ys.drop i) = some r →
      (Op.eqItems (d + 1) e 1 ⟨us⟩ ⟨vs⟩ (List.range' i m)).run P w = .ok r w
  | 0, i, xs, ys, us, vs, r, _, _, hl, hl', _, hr => by
    have h1 := List.eq_nil_of_length_eq_zero hl
    have h2 := List.eq_nil_of_length_eq_zero hl'
    rw [h1, h2] at hr
    simp [eqL] at hr
    subst hr
    simp [Op.eqItems]
  | m + 1, i, xs, ys, us, vs, r, hx, hy, hl, hl', hf, hr => by
    have hi : i < xs.length := by simp at hl; omega
    have hi' : i < ys.length := by simp at hl'; omega
    rw [List.drop_eq_getElem_cons hi, List.drop_eq_getElem_cons hi'] at hr
    simp only [eqL] at hr
    split at hr
    · rename_i a b ha hb
      obtain ⟨u, hu, hmu⟩ := hx.get (List.getElem?_eq_getElem hi)
      obtain ⟨v, hv, hmv⟩ := hy.get (List.getElem?_eq_getElem hi')
      have hfi : fits eti xs[i] = true := (List.all_eq_true.1 hf) _ (List.getElem_mem hi)
      have hq := run_eqS (P := P) he d hmu hmv hfi ha
      have ih := run_eqItems he h1 d m (i + 1) xs ys us vs b hx hy (by simp at hl ⊢; omega) (by simp at hl' ⊢; omega) hf hb
      simp only [Option.some.injEq] at hr
      subst hr
      simp only [List.range', Op.eqItems, Nat.mul_one, Sem.run_bind, run_partOne he h1 hu, run_partOne he h1 hv, hq, Result.andThen_ok]
      cases a
      · simp
      · simpa using ih
    · simp at hr

/-- What equality asks of the table of a struct's type. -/
def EqOk (P : Program) (t : TypeId) : Prop := P.stoodInHeld t = false ∧ P.eqGuardType P.depth t = false ∧ (P.fieldsOf t).toList.all (fun f => f.name != "_") = true

theorem run_eqFields {P : Program} {w : World} {E : Env} {T : TypeId → Option TI} (hT : TTab P T) (d : Nat) :
    ∀ (fs : List Field) (i : Nat) (xs ys : List AV) (us vs : List Value) (r : Bool), Ms w E xs us → Ms w E ys vs →
      (xs.drop i).length = fs.length → (ys.drop i).length = fs.length → fs.all (fun f => f.name != "_") = true →
      (∀ j f, fs[j]? = some f → f.offset = i + j ∧ ∃ fti, T f.type = some fti ∧ fti.one = true ∧ ∃ x, xs[i + j]? = some x ∧ fits fti x = true) →
      eqL (xs.drop i) (ys.drop i) = some r → (Op.eqFields (d + 1) ⟨us⟩ ⟨vs⟩ fs).run P w = .ok r w
  | [], i, xs, ys, us, vs, r, _, _, hl, hl', _, _, hr => by
    have h1 := List.eq_nil_of_length_eq_zero hl
    have h2 := List.eq_nil_of_length_eq_zero hl'
    rw [h1, h2] at hr
    simp [eqL] at hr
    subst hr
    simp [Op.eqFields]
  | f :: fs, i, xs, ys, us, vs, r, hx, hy, hl, hl', hn, hf, hr => by
    have hi : i < xs.length := by simp at hl; omega
    have hi' : i < ys.length := by simp at hl'; omega
    rw [List.drop_eq_getElem_cons hi, List.drop_eq_getElem_cons hi'] at hr
    simp only [eqL] at hr
    split at hr
    · rename_i a b ha hb
      obtain ⟨u, hu, hmu⟩ := hx.get (List.getElem?_eq_getElem hi)
      obtain ⟨v, hv, hmv⟩ := hy.get (List.getElem?_eq_getElem hi')
      obtain ⟨ho, fti, ht, h1, x, hxx, hfx⟩ := hf 0 f rfl
      simp at ho hxx
      rw [List.getElem?_eq_getElem hi] at hxx
      simp at hxx
      subst hxx
      have hq := run_eqS (P := P) (hT _ _ ht) d hmu hmv hfx ha
      have ih := run_eqFields hT d fs (i + 1) xs ys us vs b hx hy (by simp at hl ⊢; omega) (by simp at hl' ⊢; omega) (by simp at hn ⊢; exact hn.2)
        (fun j g hg => by
          have := hf (j + 1) g (by simpa using hg)
          rwa [show i + (j + 1) = i + 1 + j by omega] at this) hb
      simp only [Option.some.injEq] at hr
      subst hr
      have hnm : f.name ≠ "_" := by simp at hn; exact hn.1
      simp only [Op.eqFields, hnm, ne_eq, not_false_eq_true, if_true, Sem.run_bind, ho, run_partOne (hT _ _ ht) h1 hu, run_partOne (hT _ _ ht) h1 hv, hq, Result.andThen_ok]
      cases a
      · simp
      · simpa using ih
    · simp at hr

/-- Whether two values are equal. 'eqt': the struct types of which EqOk is known. -/
def aEql (T : TypeId → Option TI) (eqt : List TypeId) (t : TypeId) (x y : AV) : Option Bool :=
  match x, y with
  | .agg xs, .agg ys =>
    match T t with
    | some ti => match ti.d with
      | .arr n e => match T e with
        | some eti => if eqt.contains t ∧ eti.one = true ∧ xs.length = n ∧ ys.length = n ∧ xs.all (fits eti) = true then eqL xs ys else none
        | none => none
      | .st fs => if eqt.contains t ∧ xs.length = fs.length ∧ ys.length = fs.length ∧ (fs.zipIdx.all fun (f, j) => f.1 == j && (match T f.2, xs[j]? with | some fti, some x => fti.one && fits fti x | _, _ => false)) = true then eqL xs ys else none
      | _ => none
    | none => none
  | .val (.bool a), .val (.bool b) => match T t with
    | some ti => if ti.d = .bool then some (a == b) else none
    | none => none
  | _, _ => none

theorem run_aEql {P : Program} {w : World} {E : Env} {T : TypeId → Option TI} {eqt : List TypeId} (hT : TTab P T) (hE : ∀ t, eqt.contains t = true → P.eqGuardType P.depth t = false ∧ (∀ fs, P.underlying t = some (.struct fs) → EqOk P t))
    {t : TypeId} {x y : AV} {u v : Value} {r : Bool} (hx : M w E x u) (hy : M w E y v) (he : aEql T eqt t x y = some r) (ox oy : Operand) :
    (do eqGuard .eql t ox oy u v; binOp .eql t u v).run P w = .ok (.bool r) w ∧ (do eqGuard .neq t ox oy u v; binOp .neq t u v).run P w = .ok (.bool (!r)) w := by
  unfold aEql at he
  split at he
  · rename_i xs ys
    obtain ⟨us, rfl, hus⟩ := hx
    obtain ⟨vs, rfl, hvs⟩ := hy
    split at he
    · rename_i ti hti
      have ht := hT _ _ hti
      obtain ⟨td, hu, ho⟩ := ht.und
      have main : P.eqGuardType P.depth t = false ∧ (Op.equalIn 10000 t (.agg ⟨us⟩) (.agg ⟨vs⟩)).run P w = .ok r w := by
        split at he
        · rename_i n e hd
          split at he
          · rename_i eti heti
            split at he
            · rename_i hc
              obtain ⟨hc1, h1, hl, hl', hf⟩ := hc
              rw [hd] at ho
              cases td <;> simp [TD.of] at ho
              obtain ⟨rfl, rfl⟩ := ho
              have hte := hT _ _ heti
              obtain ⟨i, z, hi, hs, _⟩ := hte.info
              refine ⟨(hE t hc1).1, ?_⟩
              rw [run_equalIn_array w 9999 _ _ hu hi]
              have hsz : eti.size = 1 := by unfold TI.one at h1; simp at h1; exact h1.1
              have hsz2 := hs.trans hsz
              simp only [Program.cellsOf, hi, Option.map_some, Option.getD_some, hsz2, List.range_eq_range']
              exact run_eqItems hte h1 9998 _ 0 xs ys us vs r hus hvs (by simpa using hl) (by simpa using hl') hf (by simpa using he)
            · simp at he
          · simp at he
        · rename_i fs hd
          split at he
          · rename_i hc
            obtain ⟨hc1, hl, hl', hf⟩ := hc
            rw [hd] at ho
            cases td <;> simp [TD.of] at ho
            rename_i fields
            have hfo : P.fieldsOf t = fields := by simp [Program.fieldsOf, hu]
            obtain ⟨e1, e2, e3⟩ := (hE t hc1).2 _ hu
            refine ⟨e2, ?_⟩
            rw [run_equalIn_struct w 9999 t _ _ (by rw [hfo]; exact hu) e1, hfo]
            rw [hfo] at e3
            subst ho
            refine run_eqFields hT 9998 fields.toList 0 xs ys us vs r hus hvs (by simpa using hl) (by simpa using hl') e3 (fun j f hj => ?_) (by simpa using he)
            have := (List.all_eq_true.1 hf) ((f.offset, f.type), j) (by
              rw [List.mem_zipIdx_iff_getElem?]
              simp at hj ⊢
              simp [hj])
            simp at this
            obtain ⟨ho, hq⟩ := this
            refine ⟨by simpa using ho, ?_⟩
            split at hq
            · rename_i fti x h1 h2
              simp at hq
              exact ⟨fti, h1, hq.1, x, by simpa using h2, hq.2⟩
            · simp at hq
          · simp at he
        · simp at he
      obtain ⟨hg, hq⟩ := main
      constructor
      · simp only [Sem.run_bind, run_eqGuard_agg w .eql t ox oy _ _ hg, Result.andThen_ok, run_eql_struct, hq]
      · simp only [Sem.run_bind, run_eqGuard_agg w .neq t ox oy _ _ hg, Result.andThen_ok, run_neq_struct, hq]
    · simp at he
  · rename_i a b
    simp only [M] at hx hy
    subst hx; subst hy
    split at he
    · rename_i ti hti
      split at he
      · rename_i hd
        simp at he
        subst he
        obtain ⟨td, hu, ho⟩ := (hT _ _ hti).und
        rw [hd] at ho
        cases td <;> simp [TD.of] at ho
        have hq := run_equalIn_bool' (P := P) w 9999 t a b hu
        constructor
        · rw [eqGuard_at_bool]
          simp only [Sem.run_bind, Sem.run_pure, Result.andThen_ok]
          exact run_eql_bool w t a b hu
        · rw [eqGuard_at_bool]
          simp only [Sem.run_bind, Sem.run_pure, Result.andThen_ok, binOp, Op.equal, Op.maxDepth, hq]
      · simp at he
    · simp at he
  · simp at he

end Go.Proofs.Ytdnmnafadondkaa
