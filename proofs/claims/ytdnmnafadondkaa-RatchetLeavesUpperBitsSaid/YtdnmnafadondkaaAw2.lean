/- The abstract state of the walk, its tie to a frame and a world, and the operations that only compute. No condition. -/
import Derived.Test.YtdnmnafadondkaaAw1
import Derived.Laws.Rows
import Derived.Laws.CopyRow
import Derived.KernelRfl
set_option linter.unusedVariables false
set_option linter.unusedSimpArgs false
namespace Go.Proofs.Ytdnmnafadondkaa
open Go Go.RowKit

structure St where
  nt : Nat
  nx : Nat
  tm : List (Nat × AV)
  bx : List (Nat × Option (List AV))
  gl : List (Nat × AV)
  df : List (FuncId × List AV)

def alook (t : Nat) : List (Nat × AV) → AV
  | [] => .any
  | (s, v) :: l => if t = s then v else alook t l

def blook (k : Nat) : List (Nat × Option (List AV)) → Option (List AV)
  | [] => none
  | (s, c) :: l => if k = s then c else blook k l

def cav : Value → AV
  | .agg cs => .agg (cs.toList.map .val)
  | v => .val v

def St.ev (σ : St) : Operand → AV
  | .tmp t => alook t σ.tm
  | .const v => cav v
  | .global g => alook g σ.gl
  | .func f => .clo f []

/-- The world keeps all but the blocks X. -/
structure Keeps (X : Nat → Prop) (w w' : World) : Prop where
  os : w'.os = w.os
  tape : w'.tape = w.tape
  output : w'.output = w.output
  size : w.heap.size ≤ w'.heap.size
  block : ∀ g, g < w.heap.size → ¬ X g → w'.heap[g]? = w.heap[g]?

theorem Keeps.refl (X : Nat → Prop) (w : World) : Keeps X w w := ⟨rfl, rfl, rfl, Nat.le_refl _, fun _ _ _ => rfl⟩
theorem Keeps.trans {X : Nat → Prop} {a b c : World} (h : Keeps X a b) (k : Keeps X b c) : Keeps X a c :=
  ⟨k.os.trans h.os, k.tape.trans h.tape, k.output.trans h.output, Nat.le_trans h.size k.size, fun g hg hx => (k.block g (Nat.lt_of_lt_of_le hg h.size) hx).trans (h.block g hg hx)⟩
theorem Keeps.mono {X Y : Nat → Prop} {a b : World} (h : Keeps X a b) (hx : ∀ g, g < a.heap.size → X g → Y g) : Keeps Y a b :=
  ⟨h.os, h.tape, h.output, h.size, fun g hg hy => h.block g hg (fun k => hy (hx g hg k))⟩

/-- A box as it lies in memory. -/
def boxAt (w : World) (E : Env) (k : Nat) (cs : List AV) : Prop :=
  (E.ph k ∧ cs = []) ∨ ∃ g c ty vs, E.bl k = some g ∧ w.heap[g]? = some (.cells c ty (0, 0)) ∧ vs.length ≤ c.size ∧ (∀ i, i < vs.length → c[i]? = vs[i]?) ∧ Ms w E cs vs

/-- The deferred calls: closures without arguments. -/
def Md (w : World) (E : Env) : List (FuncId × List AV) → List Deferred → Prop
  | [], ds => ds = []
  | (f, caps) :: l, ds => ∃ vs ds', ds = { target := .fn (.func f) ⟨vs⟩, args := #[] } :: ds' ∧ Ms w E caps vs ∧ Md w E l ds'

structure Sim (X : Nat → Prop) (w0 : World) (E : Env) (σ : St) (a : Act) (w : World) : Prop where
  nt : a.tmps.size = σ.nt
  tm : ∀ t, M w E (alook t σ.tm) (a.tmps.getD t undef)
  gl : ∀ g, M w E (alook g σ.gl) (.pointer (some ⟨g, 0, none⟩))
  bx : ∀ k cs, blook k σ.bx = some cs → boxAt w E k cs
  own : ∀ k g, (blook k σ.bx).isSome → E.bl k = some g → ¬ E.S g ∧ ¬ E.T g ∧ (w0.heap.size ≤ g ∨ X g)
  inj : ∀ k k' g, (blook k σ.bx).isSome → (blook k' σ.bx).isSome → E.bl k = some g → E.bl k' = some g → k = k'
  lim : ∀ g, E.S g ∨ E.T g → g < w.heap.size
  keep : Keeps X w0 w
  rw : ∀ g i, rowIn w0 g = some i → rowIn w g = some i
  fr : ∀ k, σ.nx ≤ k → E.bl k = none ∧ ¬ E.ph k
  px : ∀ k, E.ph k → E.bl k = none
  df : Md w E σ.df a.defers

theorem Ms_vals {w : World} {E : Env} : ∀ (vs : List Value), Ms w E (vs.map .val) vs
  | [] => by simp [Ms]
  | v :: vs => Ms_cons.2 ⟨v, vs, rfl, rfl, Ms_vals vs⟩

theorem M_cav {w : World} {E : Env} (v : Value) : M w E (cav v) v := by
  cases v <;> first | rfl | exact ⟨_, rfl, Ms_vals _⟩

theorem Sim.ev {X : Nat → Prop} {w0 : World} {E : Env} {σ : St} {a : Act} {w : World} (h : Sim X w0 E σ a w) (x : Operand) : M w E (σ.ev x) (a.eval x) := by
  cases x with
  | tmp t => exact h.tm t
  | const v => exact M_cav v
  | global g => exact h.gl g
  | func f => exact ⟨[], rfl, rfl⟩

/-! ### The types' table -/

inductive TD where
  | oth
  | int (k : IntKind)
  | bool
  | str
  | sl (e : TypeId)
  | arr (n : Nat) (e : TypeId)
  | st (fs : List (Nat × TypeId))
  | ptr (e : TypeId)
  | fn
  | ifc
  deriving DecidableEq

def TD.of : TypeDesc → TD
  | .int k => .int k
  | .bool => .bool
  | .string => .str
  | .slice e => .sl e
  | .array n e => .arr n e
  | .struct fs => .st (fs.toList.map fun f => (f.offset, f.type))
  | .pointer e => .ptr e
  | .func .. => .fn
  | .interface _ => .ifc
  | _ => .oth

def TD.isInt : TD → Bool
  | .int _ => true
  | .oth => true
  | _ => false

def TD.isAgg : TD → Bool
  | .arr .. | .st _ => true
  | _ => false

structure TI where
  d : TD
  size : Nat
  bytes : Nat
  zero : List Value

def TOk (P : Program) (t : TypeId) (ti : TI) : Prop :=
  (P.info? t).map (fun i => (i.size, i.bytes, i.zero.map (·.cells.toList))) = some (ti.size, ti.bytes, some ti.zero) ∧ (P.underlying t).map TD.of = some ti.d

def TTab (P : Program) (T : TypeId → Option TI) : Prop := ∀ t ti, T t = some ti → TOk P t ti

section
variable {P : Program} {t : TypeId} {ti : TI}

theorem TOk.info (h : TOk P t ti) : ∃ i z, P.info? t = some i ∧ i.size = ti.size ∧ i.bytes = ti.bytes ∧ i.zero = some z ∧ z.cells.toList = ti.zero := by
  obtain ⟨h, _⟩ := h
  cases hi : P.info? t with
  | none => simp [hi] at h
  | some i =>
    simp [hi] at h
    obtain ⟨h1, h2, z, h3, h4⟩ := h
    exact ⟨i, z, rfl, h1, h2, h3, by simp [← h4]⟩

theorem TOk.und (h : TOk P t ti) : ∃ d, P.underlying t = some d ∧ TD.of d = ti.d := by
  obtain ⟨_, h⟩ := h
  cases hi : P.underlying t with
  | none => simp [hi] at h
  | some d => simp [hi] at h; exact ⟨d, rfl, h⟩

theorem TOk.run_size (h : TOk P t ti) (w : World) : (sizeOf t).run P w = .ok ti.size w := by
  obtain ⟨i, z, hi, hs, _⟩ := h.info
  simp [sizeOf, typeInfo, hi, hs]

theorem TOk.run_zero (h : TOk P t ti) (w : World) : ∃ z, (zeroValue t).run P w = .ok z w ∧ z.cells.toList = ti.zero := by
  obtain ⟨i, z, hi, _, _, hz, hc⟩ := h.info
  exact ⟨z, by simp [zeroValue, typeInfo, hi, hz], hc⟩

theorem TOk.run_agg (h : TOk P t ti) (w : World) : (isAgg t).run P w = .ok ti.d.isAgg w := by
  obtain ⟨d, hd, ho⟩ := h.und
  unfold isAgg
  rw [Sem.run_bind, run_underlying hd w]
  rw [← ho]
  cases d <;> simp [TD.of, TD.isAgg]

theorem TOk.run_und (h : TOk P t ti) (w : World) : ∃ d, (underlying t).run P w = .ok d w ∧ TD.of d = ti.d := by
  obtain ⟨d, hd, ho⟩ := h.und
  exact ⟨d, run_underlying hd w, ho⟩

end

/-! ### Loads -/

def loadC (ti : TI) (cs : List AV) (off : Nat) : Option AV :=
  if ti.d.isAgg then (if off + ti.size ≤ cs.length then some (.agg ((cs.drop off).take ti.size)) else none)
  else match cs[off]? with
    | some .any => none
    | some x => some x
    | none => none

theorem addr_add (g o i : Nat) : (⟨g, o, none⟩ : Addr).add i = ⟨g, o + i, none⟩ := by unfold Addr.add; split <;> simp_all

theorem cellsAt.cell {w : World} {g off : Nat} {vs : List Value} (h : cellsAt w g off vs) {i : Nat} {v : Value} (hi : vs[i]? = some v) : w.cell? ⟨g, off + i, none⟩ = some v := by
  obtain ⟨c, ty, fr, hg, hc⟩ := h
  have hl : i < vs.length := by
    rcases Nat.lt_or_ge i vs.length with h | h
    · exact h
    · simp [List.getElem?_eq_none h] at hi
  simp [World.cell?, hg, hc i hl, hi]

theorem run_loadC {P : Program} {t : TypeId} {ti : TI} (ht : TOk P t ti) {w : World} {E : Env} {g off o : Nat} {vs : List Value} {cs : List AV} {x : AV}
    (hc : cellsAt w g off vs) (hm : Ms w E cs vs) (hx : loadC ti cs o = some x) : ∃ v, (loadVar t ⟨g, off + o, none⟩).run P w = .ok v w ∧ M w E x v := by
  unfold loadC at hx
  unfold loadVar
  simp only [Sem.run_bind, ht.run_agg, Result.andThen_ok]
  split at hx
  · rename_i hag
    split at hx
    · rename_i hlen
      simp only [Option.some.injEq] at hx
      subst hx
      have hl : (loadCells ⟨g, off + o, none⟩ ((vs.drop o).take ti.size).length).run P w = .ok ((vs.drop o).take ti.size).toArray w :=
        run_loadCells_list (P := P) w ⟨g, off + o, none⟩ ((vs.drop o).take ti.size) (fun j v hv => by
          rw [addr_add, Nat.add_assoc]
          refine hc.cell ?_
          rw [List.getElem?_take] at hv
          split at hv
          · simpa [List.getElem?_drop] using hv
          · simp at hv)
      have hle : ((vs.drop o).take ti.size).length = ti.size := by
        have := hm.len
        simp; omega
      rw [hle] at hl
      exact ⟨_, by simp [hag, ht.run_size, hl, Sem.run_bind], _, rfl, (hm.drop o).take _⟩
    · simp at hx
  · rename_i hag
    have hx' : cs[o]? = some x := by
      cases hq : cs[o]? with
      | none => simp [hq] at hx
      | some y => cases y <;> simp_all
    obtain ⟨v, hv, hmv⟩ := hm.get hx'
    have := hc.cell hv
    exact ⟨v, by simp [hag, load, Sem.run, this], hmv⟩

/-! ### Operations that only compute -/

def AV.int? : AV → Option (IntKind × Int)
  | .val (.int k n) => some (k, n)
  | _ => none

/-- The address of a field. -/
def aField (x : AV) (fti : TI) (off : Nat) : Option AV :=
  if fti.size = 0 then none else
  match x with
  | .ptr k o => some (.ptr k (o + off))
  | .dp b cs => some (.dp b (cs.drop off))
  | _ => none

theorem cellsAt.drop {w : World} {g off : Nat} {vs : List Value} (h : cellsAt w g off vs) (n : Nat) : cellsAt w g (off + n) (vs.drop n) := by
  obtain ⟨c, ty, fr, hg, hc⟩ := h
  refine ⟨c, ty, fr, hg, fun i hi => ?_⟩
  have := hc (n + i) (by simp at hi; omega)
  simpa [Nat.add_assoc] using this

theorem cellsAt.take {w : World} {g off : Nat} {vs : List Value} (h : cellsAt w g off vs) (n : Nat) : cellsAt w g off (vs.take n) := by
  obtain ⟨c, ty, fr, hg, hc⟩ := h
  refine ⟨c, ty, fr, hg, fun i hi => ?_⟩
  have hi' : i < n ∧ i < vs.length := by simp at hi; omega
  rw [hc i hi'.2, List.getElem?_take, if_pos hi'.1]

theorem run_field {P : Program} {t ft : TypeId} {ti fti : TI} (ht : TOk P t ti) (hf : TOk P ft fti) {fs : List (Nat × TypeId)} {i off : Nat} (hd : ti.d = .st fs) (hfs : fs[i]? = some (off, ft))
    {w : World} {E : Env} {x av : AV} {v : Value} (hm : M w E x v) (hx : aField x fti off = some av) : ∃ u, (Instr.fieldAt t v i).run P w = .ok u w ∧ M w E av u := by
  obtain ⟨d, hu, ho⟩ := ht.und
  rw [hd] at ho
  cases d <;> simp [TD.of] at ho
  rename_i fields
  have hfi : ∃ f, fields[i]? = some f ∧ f.offset = off ∧ f.type = ft := by
    rw [← ho] at hfs
    cases hq : fields[i]? with
    | none => simp [hq] at hfs
    | some f => simp [hq] at hfs; exact ⟨f, rfl, hfs⟩
  obtain ⟨f, hf1, rfl, rfl⟩ := hfi
  unfold aField at hx
  split at hx
  · simp at hx
  · rename_i hne
    have hsz := hf.run_size (P := P) w
    cases x <;> simp at hx
    · rename_i k o
      obtain ⟨g, hg, rfl⟩ := hm
      subst hx
      exact ⟨_, by simp [Instr.fieldAt, run_underlying hu, hf1, Instr.sureAddr, fieldPlace, hsz, hne, addr_add], g, hg, rfl⟩
    · rename_i b cs
      obtain ⟨g, o, vs, rfl, hok, hc, hms⟩ := hm
      subst hx
      exact ⟨_, by simp [Instr.fieldAt, run_underlying hu, hf1, Instr.sureAddr, fieldPlace, hsz, hne, addr_add], g, o + f.offset, vs.drop f.offset, rfl, hok, hc.drop _, hms.drop _⟩

/-- The address of an element. -/
def aIndex (ti eti : TI) (x : AV) (i : Int) : Option AV :=
  match ti.d, x with
  | .sl _, .sl k off n esz _ => if esz = eti.size ∧ 0 ≤ i ∧ i < n then some (.ptr k (off + i.toNat * esz)) else none
  | .sl _, .ds b n cs => if 0 ≤ i ∧ i < n then some (.dp b (cs.drop (i.toNat * eti.size))) else none
  | .arr n _, .ptr k off => if 0 ≤ i ∧ i < n then some (.ptr k (off + i.toNat * eti.size)) else none
  | .arr n _, .dp b cs => if 0 ≤ i ∧ i < n then some (.dp b (cs.drop (i.toNat * eti.size))) else none
  | _, _ => none

def TD.elem : TD → Option TypeId
  | .sl e => some e
  | .arr _ e => some e
  | _ => none

theorem run_index {P : Program} {t e : TypeId} {ti eti : TI} (ht : TOk P t ti) (he : TOk P e eti) (hd : ti.d.elem = some e)
    {w : World} {E : Env} {x av : AV} {v : Value} {k : IntKind} {i : Int} (hm : M w E x v) (hx : aIndex ti eti x i = some av) : ∃ u, (Instr.indexAt t v (.int k i)).run P w = .ok u w ∧ M w E av u := by
  obtain ⟨d, hu, ho⟩ := ht.und
  have hsz := he.run_size (P := P) w
  unfold aIndex at hx
  split at hx
  · rename_i e' k' off n esz gr hde
    rw [hde] at ho hd
    simp [TD.elem] at hd
    subst hd
    split at hx
    · rename_i hc
      obtain ⟨rfl, h0, h1⟩ := hc
      simp at hx; subst hx
      cases d <;> simp [TD.of] at ho
      subst ho
      rcases hm with ⟨_, _, rfl, _⟩ | ⟨_, rfl, _⟩ | ⟨g, cap, ty, sz, hg, rfl, hcap, hr, hle, _⟩
      · omega
      · omega
      · exact ⟨_, by simp [Instr.indexAt, asIntOf, run_underlying hu, h0, h1, hsz, addr_add], g, hg, rfl⟩
    · simp at hx
  · rename_i e' b n cs hde
    rw [hde] at ho hd
    simp [TD.elem] at hd
    subst hd
    split at hx
    · rename_i hc
      obtain ⟨h0, h1⟩ := hc
      simp at hx; subst hx
      cases d <;> simp [TD.of] at ho
      subst ho
      rcases hm with ⟨rfl, _⟩ | ⟨g, off, cap, vs, rfl, hcap, hok, hc, hms⟩
      · omega
      · exact ⟨_, by simp [Instr.indexAt, asIntOf, run_underlying hu, h0, h1, hsz, addr_add], g, _, _, rfl, hok, hc.drop _, hms.drop _⟩
    · simp at hx
  · rename_i n e' k' off hde
    rw [hde] at ho hd
    simp [TD.elem] at hd
    subst hd
    split at hx
    · rename_i hc
      obtain ⟨h0, h1⟩ := hc
      simp at hx; subst hx
      cases d <;> simp [TD.of] at ho
      obtain ⟨rfl, rfl⟩ := ho
      obtain ⟨g, hg, rfl⟩ := hm
      exact ⟨_, by simp [Instr.indexAt, asIntOf, run_underlying hu, Instr.sureAddr, h0, h1, hsz, addr_add], g, hg, rfl⟩
    · simp at hx
  · rename_i n e' b cs hde
    rw [hde] at ho hd
    simp [TD.elem] at hd
    subst hd
    split at hx
    · rename_i hc
      obtain ⟨h0, h1⟩ := hc
      simp at hx; subst hx
      cases d <;> simp [TD.of] at ho
      obtain ⟨rfl, rfl⟩ := ho
      obtain ⟨g, off, vs, rfl, hok, hc, hms⟩ := hm
      exact ⟨_, by simp [Instr.indexAt, asIntOf, run_underlying hu, Instr.sureAddr, h0, h1, hsz, addr_add], g, _, _, rfl, hok, hc.drop _, hms.drop _⟩
    · simp at hx
  · simp at hx

end Go.Proofs.Ytdnmnafadondkaa
