/- Structs and arrays that are built; lengths; conversions; what else only computes. No condition. -/
import Derived.Test.YtdnmnafadondkaaAw4
set_option linter.unusedVariables false
set_option linter.unusedSimpArgs false
namespace Go.Proofs.Ytdnmnafadondkaa
open Go Go.RowKit

/-- A value's cells. -/
def AV.cs : AV → Option (List AV)
  | .any => none
  | .tup _ => none
  | .agg cs => some cs
  | .val (.agg _) => none
  | .val (.tuple _) => none
  | x => some [x]

theorem M.cs {w : World} {E : Env} {x : AV} {v : Value} {cs : List AV} (hm : M w E x v) (h : x.cs = some cs) : Ms w E cs v.cells.toList := by
  cases x <;> simp [AV.cs] at h
  case val u =>
    simp only [M] at hm
    subst hm
    cases v <;> simp [AV.cs] at h <;> subst h <;> simp [Value.cells, Ms, M]
  case agg =>
    subst h
    obtain ⟨vs, rfl, hms⟩ := hm
    simpa [Value.cells] using hms
  all_goals
    subst h
    refine Ms_cons.2 ⟨v, [], ?_, hm, rfl⟩
    cases v <;> simp [M] at hm <;> simp [Value.cells]

def splice (cs : List AV) (off : Nat) (vc : List AV) : List AV := cs.take off ++ vc ++ cs.drop (off + vc.length)

def aFill (place : Nat → Option (Nat × Nat)) (cells : List AV) : List (Nat × AV) → Option (List AV)
  | [] => some cells
  | (i, x) :: rest =>
    match place i, x.cs with
    | some (off, size), some vc => if vc.length = size ∧ off + vc.length ≤ cells.length then aFill place (splice cells off vc) rest else none
    | _, _ => none

/-- Parts and their values. -/
def Mp (w : World) (E : Env) : List (Nat × AV) → List (Nat × Value) → Prop
  | [], [] => True
  | (i, x) :: l, (j, v) :: m => i = j ∧ M w E x v ∧ Mp w E l m
  | _, _ => False

theorem foldl_sets (off : Nat) : ∀ (vs : List Value) (j : Nat) (cur : Array Value), off + j + vs.length ≤ cur.size →
    ((vs.zipIdx j).foldl (fun cs (x : Value × Nat) => cs.setIfInBounds (off + x.2) x.1) cur).toList = cur.toList.take (off + j) ++ vs ++ cur.toList.drop (off + j + vs.length)
  | [], j, cur, h => by simp
  | v :: vs, j, cur, h => by
    simp only [List.zipIdx_cons, List.foldl_cons]
    rw [foldl_sets off vs (j + 1) _ (by simp at h ⊢; omega)]
    have := list_seg_step cur.toList (off + j) v vs (by simp at h ⊢; omega)
    simp only [Array.toList_setIfInBounds]
    simpa [Nat.add_assoc] using this

theorem run_aFill {w : World} {E : Env} {place : Nat → Option (Nat × Nat)} : ∀ (ps : List (Nat × AV)) (qs : List (Nat × Value)) (cells : List AV) (vs : Array Value) (out : List AV),
    Mp w E ps qs → Ms w E cells vs.toList → aFill place cells ps = some out → ∃ us : Array Value, Instr.fill place vs qs = some us ∧ Ms w E out us.toList
  | [], qs, cells, vs, out, hp, hm, h => by
    cases qs <;> simp [Mp] at hp
    simp [aFill] at h
    subst h
    exact ⟨vs, rfl, hm⟩
  | (i, x) :: ps, qs, cells, vs, out, hp, hm, h => by
    cases qs with
    | nil => simp [Mp] at hp
    | cons q qs =>
      obtain ⟨j, v⟩ := q
      obtain ⟨rfl, hmx, hpr⟩ := hp
      simp only [aFill] at h
      split at h
      · rename_i off size vc h1 h2
        split at h
        · rename_i hc
          obtain ⟨hl, hle⟩ := hc
          have hv := hmx.cs h2
          have hvl := hv.len
          have hcl := hm.len
          have hvs : v.cells.size = vc.length := by simpa using hvl
          have hcs : vs.size = cells.length := by simpa using hcl
          have e := foldl_sets off v.cells.toList 0 vs (by simp; omega)
          have hm' : Ms w E (splice cells off vc) ((v.cells.zipIdx.foldl (fun cs (x : Value × Nat) => cs.setIfInBounds (off + x.2) x.1) vs)).toList := by
            have e2 : (v.cells.zipIdx.foldl (fun cs (x : Value × Nat) => cs.setIfInBounds (off + x.2) x.1) vs).toList = vs.toList.take off ++ v.cells.toList ++ vs.toList.drop (off + v.cells.size) := by
              rw [← Array.foldl_toList]
              simpa using e
            rw [e2, hvs]
            exact ((hm.take _).append hv).append (hm.drop _)
          obtain ⟨us, hu, hmu⟩ := run_aFill ps qs _ _ out hpr hm' h
          refine ⟨us, ?_, hmu⟩
          simp only [Instr.fill, h1]
          rw [if_neg (by simp only [hvs, hcs, hl, ne_eq, not_true_eq_false, decide_false, Bool.false_or, decide_eq_true_eq, Bool.not_eq_true, decide_eq_false_iff_not]; omega)]
          exact hu
        · simp at h
      · simp at h

def placesOf (T : TypeId → Option TI) : List (Nat × TypeId) → Option (List (Nat × Nat))
  | [] => some []
  | (o, t) :: fs => match T t, placesOf T fs with
    | some ti, some l => some ((o, ti.size) :: l)
    | _, _ => none

def aBuild (T : TypeId → Option TI) (t : TypeId) (ps : List (Nat × AV)) : Option AV :=
  match T t with
  | some ti => match ti.d with
    | .arr n e => match T e with
      | some eti => (aFill (fun i => some (i * eti.size, eti.size)) (ti.zero.map .val) ps).map .agg
      | none => none
    | .st fs => match placesOf T fs with
      | some pl => (aFill (fun i => pl[i]?) (ti.zero.map .val) ps).map .agg
      | none => none
    | _ => none
  | none => none

theorem run_placesOf {P : Program} {T : TypeId → Option TI} (hT : TTab P T) : ∀ (fields : List Field) (pl : List (Nat × Nat)), placesOf T (fields.map fun f => (f.offset, f.type)) = some pl →
    fields.mapM (fun f => (P.info? f.type).map fun i => (f.offset, i.size)) = some pl
  | [], pl, h => by simpa [placesOf] using h
  | f :: fields, pl, h => by
    simp only [List.map_cons, placesOf] at h
    split at h
    · rename_i ti l h1 h2
      simp at h
      subst h
      obtain ⟨i, z, hi, hs, _⟩ := (hT _ _ h1).info
      simp [List.mapM_cons, hi, hs, run_placesOf hT fields l h2]
    · simp at h

theorem run_aBuild {P : Program} {T : TypeId → Option TI} (hT : TTab P T) {w : World} {E : Env} {t : TypeId} {ps : List (Nat × AV)} {qs : Array (Nat × Value)} {av : AV}
    (hp : Mp w E ps qs.toList) (h : aBuild T t ps = some av) : ∃ v, (Instr.build t qs).run P w = .ok v w ∧ M w E av v := by
  unfold aBuild at h
  split at h
  · rename_i ti hti
    obtain ⟨i, z, hi, hs, _, hz, hzc⟩ := (hT _ _ hti).info
    obtain ⟨d, hu, ho⟩ := (hT _ _ hti).und
    have hz0 : Ms w E (ti.zero.map .val) z.cells.toList := by rw [← hzc]; exact Ms_vals _
    split at h
    · rename_i n e hd
      split at h
      · rename_i eti heti
        simp only [Option.map_eq_some_iff] at h
        obtain ⟨out, hf, rfl⟩ := h
        obtain ⟨us, hu2, hm⟩ := run_aFill ps qs.toList _ _ out hp hz0 hf
        obtain ⟨ie, ze, hie, hse, _⟩ := (hT _ _ heti).info
        rw [hd] at ho
        cases d <;> simp [TD.of] at ho
        obtain ⟨rfl, rfl⟩ := ho
        exact ⟨.agg us, run_build w t qs us (by simp [Program.built, hi, hu, hz, hie, hse, hu2]), us.toList, by simp, hm⟩
      · simp at h
    · rename_i fs hd
      split at h
      · rename_i pl hpl
        simp only [Option.map_eq_some_iff] at h
        obtain ⟨out, hf, rfl⟩ := h
        obtain ⟨us, hu2, hm⟩ := run_aFill ps qs.toList _ _ out hp hz0 hf
        rw [hd] at ho
        cases d <;> simp [TD.of] at ho
        rename_i fields
        subst ho
        have := run_placesOf hT fields.toList pl hpl
        exact ⟨.agg us, run_build w t qs us (by simp only [Program.built, hi, hu, hz, this]; simpa using hu2), us.toList, by simp, hm⟩
      · simp at h
    · simp at h
  · simp at h

/-! Lengths -/

def aLen (ti : TI) (x : AV) : Option Int :=
  match ti.d, x with
  | .str, .val (.string s) => some s.size
  | .sl _, .sl _ _ n _ _ => some n
  | .sl _, .ds _ n _ => some n
  | .sl _, .val (.slice none 0 0) => some 0
  | .arr n _, _ => some n
  | _, _ => none

theorem run_aLen {P : Program} {t : TypeId} {ti : TI} (ht : TOk P t ti) {w : World} {E : Env} {x : AV} {v : Value} {n : Int} (hm : M w E x v) (hx : aLen ti x = some n) (ts : TypeId) :
    (Builtin.len_ #[t] ts #[v]).run P w = .ok (.int .i64 n) w := by
  obtain ⟨d, hu, ho⟩ := ht.und
  unfold aLen at hx
  split at hx <;> simp at hx <;> rename_i hd <;> rw [hd] at ho <;> cases d <;> simp [TD.of] at ho
  · simp only [M] at hm; subst hm; subst hx
    simp [Builtin.len_, run_underlying hu, goInt]
  · rcases hm with ⟨_, _, rfl, _, rfl⟩ | ⟨_, rfl, a, cap, rfl⟩ | ⟨g, cap, ty, sz, hg, rfl, _⟩ <;> subst hx <;> simp [Builtin.len_, run_underlying hu, goInt]
  · rcases hm with ⟨rfl, _, a, cap, rfl⟩ | ⟨g, off, cap, vs, rfl, _⟩ <;> subst hx <;> simp [Builtin.len_, run_underlying hu, goInt]
  · simp only [M] at hm; subst hm; subst hx
    simp [Builtin.len_, run_underlying hu, goInt]
  · obtain ⟨rfl, _⟩ := ho
    subst hx
    simp [Builtin.len_, run_underlying hu, goInt]

/-- Bytes as they lie in cells. -/
def bytesOf : List AV → Option (List UInt8)
  | [] => some []
  | .val (.int .u8 b) :: l => (bytesOf l).map (UInt8.ofNat b.toNat :: ·)
  | _ => none

theorem Ms_bytes {w : World} {E : Env} : ∀ {cs : List AV} {vs : List Value} {bs : List UInt8}, Ms w E cs vs → bytesOf cs = some bs → ∃ ns : List Int, vs = ns.map (.int .u8 ·) ∧ bs = ns.map fun n => UInt8.ofNat n.toNat
  | [], vs, bs, hm, h => by simp [Ms] at hm; simp [bytesOf] at h; exact ⟨[], by simp [hm], by simp [← h]⟩
  | x :: cs, vs, bs, hm, h => by
    obtain ⟨v, vs', rfl, h1, h2⟩ := Ms_cons.1 hm
    unfold bytesOf at h
    split at h
    · rename_i heq; simp at heq
    · rename_i b l heq
      simp at heq
      obtain ⟨rfl, rfl⟩ := heq
      simp only [Option.map_eq_some_iff] at h
      obtain ⟨bs', hb, rfl⟩ := h
      obtain ⟨ns, e1, e2⟩ := Ms_bytes h2 hb
      simp only [M] at h1
      subst h1
      exact ⟨b :: ns, by simp [e1], by simp [e2]⟩
    · simp at h

end Go.Proofs.Ytdnmnafadondkaa
