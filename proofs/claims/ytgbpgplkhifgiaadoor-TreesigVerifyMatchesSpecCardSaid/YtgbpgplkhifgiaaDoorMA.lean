/- The abstract values of the walk: what a slot or a cell holds, seen without memory. No condition. -/
import Derived.Calls
import Derived.Below
import Derived.Laws.Rows
import Derived.Laws.CopyRow
import Derived.KernelRfl
import Derived.DeepKeys
import Derived.Laws.StructEq
import Derived.Laws.BytesArg
import Derived.Laws.AppendOwn
import Derived.Lib.ConvBytes
set_option linter.unusedVariables false
namespace Go.Proofs.YtgbpgplkhifgiaaDoor
open Go Go.RowKit

/-- A loop over a function, as its yield sees it: the slot of its variable, the frame's number of slots, the code, the slots that are known. -/
structure Yc where
  p : Nat
  nt : Nat
  assign : Code
  body : Code
  ts : List Nat

instance : Inhabited Yc := ⟨⟨0, 0, .skip, .skip, []⟩⟩

def Yc.fits (c : Yc) (r : Loop) : Prop := r.state = .ready ∧ r.pending = none ∧ r.params = #[c.p] ∧ r.assign = c.assign ∧ r.body = c.body ∧ r.tmps.size = c.nt

/-- An abstract value. 'val': just this value (it holds no address of the frame's own). 'ptr k o': the address of cell o of box k. 'sl k o n z': n elements of z cells each, from cell o of box k on. 'ds b n cs': a slice that is only read (b: it may be kept). 'dp b cs': an address of cells that are only read. -/
inductive AV where
  | any
  | val (v : Value)
  | ptr (k off : Nat)
  | sl (k off n esz : Nat) (gr : Option TypeId)
  | ds (b : Bool) (n : Nat) (cells : List AV)
  | dp (b : Bool) (cells : List AV)
  | agg (cells : List AV)
  | tup (cells : List AV)
  | clo (f : FuncId) (caps : List AV)
  | ifc (t : TypeId) (x : AV)
  | yld (c : Yc) (caps : List AV)
  deriving Inhabited

/-- What a frame is: a function's; a function's that defers or is deferred; a round's of loop l. -/
inductive Mode where
  | fn
  | dfr
  | rnd (l : Nat)

structure Env where
  bl : Nat → Option Nat
  ph : Nat → Prop
  S : Nat → Prop
  T : Nat → Prop
  ro : Mode := .fn

def Env.ok (E : Env) (b : Bool) (g : Nat) : Prop := E.S g ∨ (b = false ∧ E.T g)

def rowIn (w : World) (g : Nat) : Option (TypeId × Nat) :=
  match w.heap[g]? with
  | some (.cells c ty _) => some (ty, c.size)
  | _ => none

/-- The cells of block g from 'off' on are 'vs'. -/
def cellsAt (w : World) (g off : Nat) (vs : List Value) : Prop :=
  ∃ c ty fr, w.heap[g]? = some (.cells c ty fr) ∧ ∀ i, i < vs.length → c[off + i]? = vs[i]?

mutual
def M (w : World) (E : Env) : AV → Value → Prop
  | .any, _ => True
  | .val x, v => v = x
  | .ptr k off, v => ∃ g, E.bl k = some g ∧ v = .pointer (some ⟨g, off, none⟩)
  | .sl k off n esz gr, v =>
    (gr.isSome = true ∧ E.ph k ∧ n = 0 ∧ off = 0 ∧ v = .slice none 0 0) ∨
    (gr = none ∧ n = 0 ∧ ∃ a cap, v = .slice a 0 cap) ∨
    ∃ g cap ty sz, E.bl k = some g ∧ v = .slice (some ⟨g, off, none⟩) n cap ∧ n ≤ cap ∧ rowIn w g = some (ty, sz) ∧ off + cap * esz ≤ sz ∧ (∀ e, gr = some e → ty = e ∧ off = 0 ∧ cap ≤ maxLen)
  | .ds b n cells, v =>
    (n = 0 ∧ cells = [] ∧ ∃ a cap, v = .slice a 0 cap) ∨
    ∃ g off cap vs, v = .slice (some ⟨g, off, none⟩) n cap ∧ n ≤ cap ∧ E.ok b g ∧ cellsAt w g off vs ∧ Ms w E cells vs
  | .dp b cells, v => ∃ g off vs, v = .pointer (some ⟨g, off, none⟩) ∧ E.ok b g ∧ cellsAt w g off vs ∧ Ms w E cells vs
  | .agg cells, v => ∃ vs, v = .agg ⟨vs⟩ ∧ Ms w E cells vs
  | .tup cells, v => ∃ vs, v = .tuple ⟨vs⟩ ∧ Ms w E cells vs
  | .clo f caps, v => ∃ vs, v = .func (.func f) #[] ⟨vs⟩ ∧ Ms w E caps vs
  | .ifc t x, v => ∃ u, v = .iface t u ∧ M w E x u
  | .yld c caps, v => ∃ l r, v = .func (.yield l) #[] #[] ∧ E.T l ∧ w.heap[l]? = some (.loop r) ∧ c.fits r ∧ Ms w E caps (c.ts.map fun t => r.tmps.getD t undef)
def Ms (w : World) (E : Env) : List AV → List Value → Prop
  | [], vs => vs = []
  | a :: as, vs => ∃ v vs', vs = v :: vs' ∧ M w E a v ∧ Ms w E as vs'
end

theorem Ms_cons {w : World} {E : Env} {a : AV} {as : List AV} {vs : List Value} : Ms w E (a :: as) vs ↔ ∃ v vs', vs = v :: vs' ∧ M w E a v ∧ Ms w E as vs' := by simp [Ms]
theorem Ms_nil {w : World} {E : Env} {vs : List Value} : Ms w E [] vs ↔ vs = [] := by simp [Ms]

theorem Ms.len {w : World} {E : Env} : ∀ {as : List AV} {vs : List Value}, Ms w E as vs → vs.length = as.length
  | [], vs, h => by simp [Ms] at h; simp [h]
  | a :: as, vs, h => by
    obtain ⟨v, vs', rfl, _, h2⟩ := Ms_cons.1 h
    simp [Ms.len h2]

theorem Ms.get {w : World} {E : Env} : ∀ {as : List AV} {vs : List Value} {i : Nat} {a : AV}, Ms w E as vs → as[i]? = some a → ∃ v, vs[i]? = some v ∧ M w E a v
  | [], vs, i, a, _, ha => by simp at ha
  | x :: as, vs, i, a, h, ha => by
    obtain ⟨v, vs', rfl, h1, h2⟩ := Ms_cons.1 h
    cases i with
    | zero => simp at ha; subst ha; exact ⟨v, rfl, h1⟩
    | succ i => simp at ha; obtain ⟨u, hu, hm⟩ := Ms.get h2 ha; exact ⟨u, by simpa using hu, hm⟩

theorem Ms.append {w : World} {E : Env} : ∀ {as bs : List AV} {vs us : List Value}, Ms w E as vs → Ms w E bs us → Ms w E (as ++ bs) (vs ++ us)
  | [], bs, vs, us, h, h' => by simp [Ms] at h; simpa [h] using h'
  | a :: as, bs, vs, us, h, h' => by
    obtain ⟨v, vs', rfl, h1, h2⟩ := Ms_cons.1 h
    exact Ms_cons.2 ⟨v, vs' ++ us, rfl, h1, Ms.append h2 h'⟩

theorem Ms.take {w : World} {E : Env} : ∀ {as : List AV} {vs : List Value} (n : Nat), Ms w E as vs → Ms w E (as.take n) (vs.take n)
  | [], vs, n, h => by simp [Ms] at h; simp [h, Ms]
  | a :: as, vs, 0, _ => by simp [Ms]
  | a :: as, vs, n + 1, h => by
    obtain ⟨v, vs', rfl, h1, h2⟩ := Ms_cons.1 h
    exact Ms_cons.2 ⟨v, vs'.take n, rfl, h1, Ms.take n h2⟩

theorem Ms.drop {w : World} {E : Env} : ∀ {as : List AV} {vs : List Value} (n : Nat), Ms w E as vs → Ms w E (as.drop n) (vs.drop n)
  | [], vs, n, h => by simp [Ms] at h; simp [h, Ms]
  | a :: as, vs, 0, h => by simpa using h
  | a :: as, vs, n + 1, h => by
    obtain ⟨v, vs', rfl, _, h2⟩ := Ms_cons.1 h
    exact Ms.drop n h2

theorem Ms.set {w : World} {E : Env} : ∀ {as : List AV} {vs : List Value} (n : Nat) {a : AV} {v : Value}, Ms w E as vs → M w E a v → Ms w E (as.set n a) (vs.set n v)
  | [], vs, n, _, _, h, _ => by simp [Ms] at h; simp [h, Ms]
  | x :: as, vs, 0, a, v, h, hm => by
    obtain ⟨u, vs', rfl, _, h2⟩ := Ms_cons.1 h
    exact Ms_cons.2 ⟨v, vs', rfl, hm, h2⟩
  | x :: as, vs, n + 1, a, v, h, hm => by
    obtain ⟨u, vs', rfl, h1, h2⟩ := Ms_cons.1 h
    exact Ms_cons.2 ⟨u, vs'.set n v, rfl, h1, Ms.set n h2 hm⟩

/-- What of the world an abstract value hangs on has not turned. -/
structure Stays (w : World) (E : Env) (w' : World) (E' : Env) : Prop where
  bl : ∀ k g, E.bl k = some g → E'.bl k = some g
  ph : ∀ k, E.ph k → E'.ph k
  S : ∀ g, E.S g → E'.S g
  T : ∀ g, E.T g → E'.T g
  sz : ∀ g i, rowIn w g = some i → rowIn w' g = some i
  blk : ∀ g, E.S g ∨ E.T g → w'.heap[g]? = w.heap[g]?

theorem Env.ok.stays {w w' : World} {E E' : Env} (h : Stays w E w' E') {b : Bool} {g : Nat} (ho : E.ok b g) : E'.ok b g :=
  ho.imp (h.S g) (fun ⟨x, y⟩ => ⟨x, h.T g y⟩)

theorem Env.ok.or {E : Env} {b : Bool} {g : Nat} (ho : E.ok b g) : E.S g ∨ E.T g := ho.imp id (·.2)

mutual
theorem M.stays {w w' : World} {E E' : Env} (h : Stays w E w' E') : ∀ (a : AV) (v : Value), M w E a v → M w' E' a v
  | .any, _, _ => trivial
  | .val _, _, hm => hm
  | .ptr _ _, _, ⟨g, hg, hv⟩ => ⟨g, h.bl _ _ hg, hv⟩
  | .sl _ _ _ _ _, _, hm => hm.elim (fun ⟨c, a, b⟩ => .inl ⟨c, h.ph _ a, b⟩) (fun hm => .inr (hm.elim .inl (fun ⟨g, cap, ty, sz, h1, h2, h3, h4, h5⟩ => .inr ⟨g, cap, ty, sz, h.bl _ _ h1, h2, h3, h.sz _ _ h4, h5⟩)))
  | .ds _ _ cells, _, hm => hm.elim .inl (fun ⟨g, off, cap, vs, h1, h2, h3, ⟨c, ty, fr, h4, h5⟩, h6⟩ => .inr ⟨g, off, cap, vs, h1, h2, h3.stays h, ⟨c, ty, fr, (h.blk g h3.or).trans h4, h5⟩, Ms.stays h cells vs h6⟩)
  | .dp _ cells, _, ⟨g, off, vs, h1, h3, ⟨c, ty, fr, h4, h5⟩, h6⟩ => ⟨g, off, vs, h1, h3.stays h, ⟨c, ty, fr, (h.blk g h3.or).trans h4, h5⟩, Ms.stays h cells vs h6⟩
  | .agg cells, _, ⟨vs, hv, hm⟩ => ⟨vs, hv, Ms.stays h cells vs hm⟩
  | .tup cells, _, ⟨vs, hv, hm⟩ => ⟨vs, hv, Ms.stays h cells vs hm⟩
  | .clo _ caps, _, ⟨vs, hv, hm⟩ => ⟨vs, hv, Ms.stays h caps vs hm⟩
  | .ifc _ x, _, ⟨u, hv, hm⟩ => ⟨u, hv, M.stays h x u hm⟩
  | .yld _ caps, _, ⟨l, r, hv, h1, h2, h3, h4⟩ => ⟨l, r, hv, h.T _ h1, (h.blk l (.inr h1)).trans h2, h3, Ms.stays h caps _ h4⟩
theorem Ms.stays {w w' : World} {E E' : Env} (h : Stays w E w' E') : ∀ (as : List AV) (vs : List Value), Ms w E as vs → Ms w' E' as vs
  | [], _, hm => hm
  | a :: as, _, ⟨v, vs', hv, h1, h2⟩ => ⟨v, vs', hv, M.stays h a v h1, Ms.stays h as vs' h2⟩
end

/-- Only blocks of deferred calls have turned. -/
def Same (w w' : World) : Prop := ∀ (g : Nat) (o : Obj), w.heap[g]? = some o → (∀ ds, o ≠ .deferred ds) → w'.heap[g]? = some o

theorem cellsAt.same {w w' : World} (h : Same w w') {g off : Nat} {vs : List Value} (hc : cellsAt w g off vs) : cellsAt w' g off vs := by
  obtain ⟨c, ty, fr, h1, h2⟩ := hc
  exact ⟨c, ty, fr, h g _ h1 (by simp), h2⟩

theorem rowIn.same {w w' : World} (h : Same w w') {g : Nat} {i : TypeId × Nat} (hr : rowIn w g = some i) : rowIn w' g = some i := by
  unfold rowIn at hr ⊢
  cases hq : w.heap[g]? with
  | none => simp [hq] at hr
  | some o =>
    rw [hq] at hr
    cases o <;> simp at hr
    rw [h g _ hq (by simp)]
    simpa using hr

mutual
theorem M.same {w w' : World} {E : Env} (h : Same w w') : ∀ (a : AV) (v : Value), M w E a v → M w' E a v
  | .any, _, _ => trivial
  | .val _, _, hm => hm
  | .ptr _ _, _, hm => hm
  | .sl _ _ _ _ _, _, hm => hm.elim .inl (fun hm => .inr (hm.elim .inl (fun ⟨g, cap, ty, sz, h1, h2, h3, h4, h5⟩ => .inr ⟨g, cap, ty, sz, h1, h2, h3, rowIn.same h h4, h5⟩)))
  | .ds _ _ cells, _, hm => hm.elim .inl (fun ⟨g, off, cap, vs, h1, h2, h3, h4, h6⟩ => .inr ⟨g, off, cap, vs, h1, h2, h3, h4.same h, Ms.same h cells vs h6⟩)
  | .dp _ cells, _, ⟨g, off, vs, h1, h3, h4, h6⟩ => ⟨g, off, vs, h1, h3, h4.same h, Ms.same h cells vs h6⟩
  | .agg cells, _, ⟨vs, hv, hm⟩ => ⟨vs, hv, Ms.same h cells vs hm⟩
  | .tup cells, _, ⟨vs, hv, hm⟩ => ⟨vs, hv, Ms.same h cells vs hm⟩
  | .clo _ caps, _, ⟨vs, hv, hm⟩ => ⟨vs, hv, Ms.same h caps vs hm⟩
  | .ifc _ x, _, ⟨u, hv, hm⟩ => ⟨u, hv, M.same h x u hm⟩
  | .yld _ caps, _, ⟨l, r, hv, h1, h2, h3, h4⟩ => ⟨l, r, hv, h1, h l _ h2 (by simp), h3, Ms.same h caps _ h4⟩
theorem Ms.same {w w' : World} {E : Env} (h : Same w w') : ∀ (as : List AV) (vs : List Value), Ms w E as vs → Ms w' E as vs
  | [], _, hm => hm
  | a :: as, _, ⟨v, vs', hv, h1, h2⟩ => ⟨v, vs', hv, M.same h a v h1, Ms.same h as vs' h2⟩
end

end Go.Proofs.YtgbpgplkhifgiaaDoor

/- The abstract state of the walk, its tie to a frame and a world, and the operations that only compute. No condition. -/
set_option linter.unusedVariables false
set_option linter.unusedSimpArgs false
namespace Go.Proofs.YtgbpgplkhifgiaaDoor
open Go Go.RowKit

structure St where
  nt : Nat
  nx : Nat
  tm : List (Nat × AV)
  bx : List (Nat × Option (List AV))
  gl : List (Nat × AV)
  df : List (FuncId × List AV)

def alook (t : Nat) : List (Nat × AV) → AV
  | [] => .any
  | (s, v) :: l => if t = s then v else alook t l

def blook (k : Nat) : List (Nat × Option (List AV)) → Option (List AV)
  | [] => none
  | (s, c) :: l => if k = s then c else blook k l

def cav : Value → AV
  | .agg cs => .agg (cs.toList.map .val)
  | v => .val v

def St.ev (σ : St) : Operand → AV
  | .tmp t => alook t σ.tm
  | .const v => cav v
  | .global g => alook g σ.gl
  | .func f => .clo f []

/-- The world keeps all but the blocks X. -/
structure Keeps (X : Nat → Prop) (w w' : World) : Prop where
  os : w'.os = w.os
  tape : w'.tape = w.tape
  output : w'.output = w.output
  size : w.heap.size ≤ w'.heap.size
  block : ∀ g, g < w.heap.size → ¬ X g → w'.heap[g]? = w.heap[g]?

theorem Keeps.refl (X : Nat → Prop) (w : World) : Keeps X w w := ⟨rfl, rfl, rfl, Nat.le_refl _, fun _ _ _ => rfl⟩
theorem Keeps.trans {X : Nat → Prop} {a b c : World} (h : Keeps X a b) (k : Keeps X b c) : Keeps X a c :=
  ⟨k.os.trans h.os, k.tape.trans h.tape, k.output.trans h.output, Nat.le_trans h.size k.size, fun g hg hx => (k.block g (Nat.lt_of_lt_of_le hg h.size) hx).trans (h.block g hg hx)⟩
theorem Keeps.mono {X Y : Nat → Prop} {a b : World} (h : Keeps X a b) (hx : ∀ g, g < a.heap.size → X g → Y g) : Keeps Y a b :=
  ⟨h.os, h.tape, h.output, h.size, fun g hg hy => h.block g hg (fun k => hy (hx g hg k))⟩

/-- A box as it lies in memory. -/
def boxAt (w : World) (E : Env) (k : Nat) (cs : List AV) : Prop :=
  (E.ph k ∧ cs = []) ∨ ∃ g c ty vs, E.bl k = some g ∧ w.heap[g]? = some (.cells c ty (0, 0)) ∧ vs.length ≤ c.size ∧ (∀ i, i < vs.length → c[i]? = vs[i]?) ∧ Ms w E cs vs

/-- The mark of a loop over a function, none of whose rounds defers. -/
def IsMark (w0 w : World) (d : Deferred) : Prop := ∃ r, d = { target := .collected r, args := #[] } ∧ w.heap[r]? = some (.deferred (some [])) ∧ w0.heap.size ≤ r

/-- The deferred calls: closures without arguments; marks among them, which the state does not show. -/
def Md (w0 w : World) (E : Env) : List (FuncId × List AV) → List Deferred → Prop
  | l, [] => l = []
  | l, d :: ds => (E.ro = .fn ∧ IsMark w0 w d ∧ d ∉ ds ∧ Md w0 w E l ds) ∨ ∃ f caps l' vs, l = (f, caps) :: l' ∧ d = { target := .fn (.func f) ⟨vs⟩, args := #[] } ∧ Ms w E caps vs ∧ Md w0 w E l' ds

structure Sim (X : Nat → Prop) (w0 : World) (E : Env) (σ : St) (a : Act) (w : World) : Prop where
  nt : a.tmps.size = σ.nt
  tm : ∀ t, M w E (alook t σ.tm) (a.tmps.getD t undef)
  gl : ∀ g, M w E (alook g σ.gl) (.pointer (some ⟨g, 0, none⟩))
  bx : ∀ k cs, blook k σ.bx = some cs → boxAt w E k cs
  own : ∀ k g, (blook k σ.bx).isSome → E.bl k = some g → ¬ E.S g ∧ ¬ E.T g ∧ (w0.heap.size ≤ g ∨ X g)
  inj : ∀ k k' g, (blook k σ.bx).isSome → (blook k' σ.bx).isSome → E.bl k = some g → E.bl k' = some g → k = k'
  lim : ∀ g, E.S g ∨ E.T g → g < w.heap.size
  keep : Keeps X w0 w
  rw : ∀ g i, rowIn w0 g = some i → rowIn w g = some i
  fr : ∀ k, σ.nx ≤ k → E.bl k = none ∧ ¬ E.ph k
  px : ∀ k, E.ph k → E.bl k = none
  df : Md w0 w E σ.df a.defers

theorem Ms_vals {w : World} {E : Env} : ∀ (vs : List Value), Ms w E (vs.map .val) vs
  | [] => by simp [Ms]
  | v :: vs => Ms_cons.2 ⟨v, vs, rfl, rfl, Ms_vals vs⟩

theorem M_cav {w : World} {E : Env} (v : Value) : M w E (cav v) v := by
  cases v <;> first | rfl | exact ⟨_, rfl, Ms_vals _⟩

theorem Sim.ev {X : Nat → Prop} {w0 : World} {E : Env} {σ : St} {a : Act} {w : World} (h : Sim X w0 E σ a w) (x : Operand) : M w E (σ.ev x) (a.eval x) := by
  cases x with
  | tmp t => exact h.tm t
  | const v => exact M_cav v
  | global g => exact h.gl g
  | func f => exact ⟨[], rfl, rfl⟩

/-! ### The types' table -/

inductive TD where
  | oth
  | int (k : IntKind)
  | bool
  | str
  | sl (e : TypeId)
  | arr (n : Nat) (e : TypeId)
  | st (fs : List (Nat × TypeId))
  | ptr (e : TypeId)
  | fn
  | ifc
  deriving DecidableEq

def TD.of : TypeDesc → TD
  | .int k => .int k
  | .bool => .bool
  | .string => .str
  | .slice e => .sl e
  | .array n e => .arr n e
  | .struct fs => .st (fs.toList.map fun f => (f.offset, f.type))
  | .pointer e => .ptr e
  | .func .. => .fn
  | .interface _ => .ifc
  | _ => .oth

def TD.isInt : TD → Bool
  | .int _ => true
  | .oth => true
  | _ => false

def TD.isAgg : TD → Bool
  | .arr .. | .st _ => true
  | _ => false

structure TI where
  d : TD
  size : Nat
  bytes : Nat
  zero : List Value

def TOk (P : Program) (t : TypeId) (ti : TI) : Prop :=
  (P.info? t).map (fun i => (i.size, i.bytes, i.zero.map (·.cells.toList))) = some (ti.size, ti.bytes, some ti.zero) ∧ (P.underlying t).map TD.of = some ti.d

def TTab (P : Program) (T : TypeId → Option TI) : Prop := ∀ t ti, T t = some ti → TOk P t ti

section
variable {P : Program} {t : TypeId} {ti : TI}

theorem TOk.info (h : TOk P t ti) : ∃ i z, P.info? t = some i ∧ i.size = ti.size ∧ i.bytes = ti.bytes ∧ i.zero = some z ∧ z.cells.toList = ti.zero := by
  obtain ⟨h, _⟩ := h
  cases hi : P.info? t with
  | none => simp [hi] at h
  | some i =>
    simp [hi] at h
    obtain ⟨h1, h2, z, h3, h4⟩ := h
    exact ⟨i, z, rfl, h1, h2, h3, by simp [← h4]⟩

theorem TOk.und (h : TOk P t ti) : ∃ d, P.underlying t = some d ∧ TD.of d = ti.d := by
  obtain ⟨_, h⟩ := h
  cases hi : P.underlying t with
  | none => simp [hi] at h
  | some d => simp [hi] at h; exact ⟨d, rfl, h⟩

theorem TOk.run_size (h : TOk P t ti) (w : World) : (sizeOf t).run P w = .ok ti.size w := by
  obtain ⟨i, z, hi, hs, _⟩ := h.info
  simp [sizeOf, typeInfo, hi, hs]

theorem TOk.run_zero (h : TOk P t ti) (w : World) : ∃ z, (zeroValue t).run P w = .ok z w ∧ z.cells.toList = ti.zero := by
  obtain ⟨i, z, hi, _, _, hz, hc⟩ := h.info
  exact ⟨z, by simp [zeroValue, typeInfo, hi, hz], hc⟩

theorem TOk.run_agg (h : TOk P t ti) (w : World) : (isAgg t).run P w = .ok ti.d.isAgg w := by
  obtain ⟨d, hd, ho⟩ := h.und
  unfold isAgg
  rw [Sem.run_bind, run_underlying hd w]
  rw [← ho]
  cases d <;> simp [TD.of, TD.isAgg]

theorem TOk.run_und (h : TOk P t ti) (w : World) : ∃ d, (underlying t).run P w = .ok d w ∧ TD.of d = ti.d := by
  obtain ⟨d, hd, ho⟩ := h.und
  exact ⟨d, run_underlying hd w, ho⟩

end

/-! ### Loads -/

def loadC (ti : TI) (cs : List AV) (off : Nat) : Option AV :=
  if ti.d.isAgg then (if off + ti.size ≤ cs.length then some (.agg ((cs.drop off).take ti.size)) else none)
  else match cs[off]? with
    | some .any => none
    | some x => some x
    | none => none

theorem addr_add (g o i : Nat) : (⟨g, o, none⟩ : Addr).add i = ⟨g, o + i, none⟩ := by unfold Addr.add; split <;> simp_all

theorem cellsAt.cell {w : World} {g off : Nat} {vs : List Value} (h : cellsAt w g off vs) {i : Nat} {v : Value} (hi : vs[i]? = some v) : w.cell? ⟨g, off + i, none⟩ = some v := by
  obtain ⟨c, ty, fr, hg, hc⟩ := h
  have hl : i < vs.length := by
    rcases Nat.lt_or_ge i vs.length with h | h
    · exact h
    · simp [List.getElem?_eq_none h] at hi
  simp [World.cell?, hg, hc i hl, hi]

theorem run_loadC {P : Program} {t : TypeId} {ti : TI} (ht : TOk P t ti) {w : World} {E : Env} {g off o : Nat} {vs : List Value} {cs : List AV} {x : AV}
    (hc : cellsAt w g off vs) (hm : Ms w E cs vs) (hx : loadC ti cs o = some x) : ∃ v, (loadVar t ⟨g, off + o, none⟩).run P w = .ok v w ∧ M w E x v := by
  unfold loadC at hx
  unfold loadVar
  simp only [Sem.run_bind, ht.run_agg, Result.andThen_ok]
  split at hx
  · rename_i hag
    split at hx
    · rename_i hlen
      simp only [Option.some.injEq] at hx
      subst hx
      have hl : (loadCells ⟨g, off + o, none⟩ ((vs.drop o).take ti.size).length).run P w = .ok ((vs.drop o).take ti.size).toArray w :=
        run_loadCells_list (P := P) w ⟨g, off + o, none⟩ ((vs.drop o).take ti.size) (fun j v hv => by
          rw [addr_add, Nat.add_assoc]
          refine hc.cell ?_
          rw [List.getElem?_take] at hv
          split at hv
          · simpa [List.getElem?_drop] using hv
          · simp at hv)
      have hle : ((vs.drop o).take ti.size).length = ti.size := by
        have := hm.len
        simp; omega
      rw [hle] at hl
      exact ⟨_, by simp [hag, ht.run_size, hl, Sem.run_bind], _, rfl, (hm.drop o).take _⟩
    · simp at hx
  · rename_i hag
    have hx' : cs[o]? = some x := by
      cases hq : cs[o]? with
      | none => simp [hq] at hx
      | some y => cases y <;> simp_all
    obtain ⟨v, hv, hmv⟩ := hm.get hx'
    have := hc.cell hv
    exact ⟨v, by simp [hag, load, Sem.run, this], hmv⟩

/-! ### Operations that only compute -/

def AV.int? : AV → Option (IntKind × Int)
  | .val (.int k n) => some (k, n)
  | _ => none

/-- The address of a field. -/
def aField (x : AV) (fti : TI) (off : Nat) : Option AV :=
  if fti.size = 0 then none else
  match x with
  | .ptr k o => some (.ptr k (o + off))
  | .dp b cs => some (.dp b (cs.drop off))
  | _ => none

theorem cellsAt.drop {w : World} {g off : Nat} {vs : List Value} (h : cellsAt w g off vs) (n : Nat) : cellsAt w g (off + n) (vs.drop n) := by
  obtain ⟨c, ty, fr, hg, hc⟩ := h
  refine ⟨c, ty, fr, hg, fun i hi => ?_⟩
  have := hc (n + i) (by simp at hi; omega)
  simpa [Nat.add_assoc] using this

theorem cellsAt.take {w : World} {g off : Nat} {vs : List Value} (h : cellsAt w g off vs) (n : Nat) : cellsAt w g off (vs.take n) := by
  obtain ⟨c, ty, fr, hg, hc⟩ := h
  refine ⟨c, ty, fr, hg, fun i hi => ?_⟩
  have hi' : i < n ∧ i < vs.length := by simp at hi; omega
  rw [hc i hi'.2, List.getElem?_take, if_pos hi'.1]

theorem run_field {P : Program} {t ft : TypeId} {ti fti : TI} (ht : TOk P t ti) (hf : TOk P ft fti) {fs : List (Nat × TypeId)} {i off : Nat} (hd : ti.d = .st fs) (hfs : fs[i]? = some (off, ft))
    {w : World} {E : Env} {x av : AV} {v : Value} (hm : M w E x v) (hx : aField x fti off = some av) : ∃ u, (Instr.fieldAt t v i).run P w = .ok u w ∧ M w E av u := by
  obtain ⟨d, hu, ho⟩ := ht.und
  rw [hd] at ho
  cases d <;> simp [TD.of] at ho
  rename_i fields
  have hfi : ∃ f, fields[i]? = some f ∧ f.offset = off ∧ f.type = ft := by
    rw [← ho] at hfs
    cases hq : fields[i]? with
    | none => simp [hq] at hfs
    | some f => simp [hq] at hfs; exact ⟨f, rfl, hfs⟩
  obtain ⟨f, hf1, rfl, rfl⟩ := hfi
  unfold aField at hx
  split at hx
  · simp at hx
  · rename_i hne
    have hsz := hf.run_size (P := P) w
    cases x <;> simp at hx
    · rename_i k o
      obtain ⟨g, hg, rfl⟩ := hm
      subst hx
      exact ⟨_, by simp [Instr.fieldAt, run_underlying hu, hf1, Instr.sureAddr, fieldPlace, hsz, hne, addr_add], g, hg, rfl⟩
    · rename_i b cs
      obtain ⟨g, o, vs, rfl, hok, hc, hms⟩ := hm
      subst hx
      exact ⟨_, by simp [Instr.fieldAt, run_underlying hu, hf1, Instr.sureAddr, fieldPlace, hsz, hne, addr_add], g, o + f.offset, vs.drop f.offset, rfl, hok, hc.drop _, hms.drop _⟩

/-- The address of an element. -/
def aIndex (ti eti : TI) (x : AV) (i : Int) : Option AV :=
  match ti.d, x with
  | .sl _, .sl k off n esz _ => if esz = eti.size ∧ 0 ≤ i ∧ i < n then some (.ptr k (off + i.toNat * esz)) else none
  | .sl _, .ds b n cs => if 0 ≤ i ∧ i < n then some (.dp b (cs.drop (i.toNat * eti.size))) else none
  | .arr n _, .ptr k off => if 0 ≤ i ∧ i < n then some (.ptr k (off + i.toNat * eti.size)) else none
  | .arr n _, .dp b cs => if 0 ≤ i ∧ i < n then some (.dp b (cs.drop (i.toNat * eti.size))) else none
  | _, _ => none

def TD.elem : TD → Option TypeId
  | .sl e => some e
  | .arr _ e => some e
  | _ => none

theorem run_index {P : Program} {t e : TypeId} {ti eti : TI} (ht : TOk P t ti) (he : TOk P e eti) (hd : ti.d.elem = some e)
    {w : World} {E : Env} {x av : AV} {v : Value} {k : IntKind} {i : Int} (hm : M w E x v) (hx : aIndex ti eti x i = some av) : ∃ u, (Instr.indexAt t v (.int k i)).run P w = .ok u w ∧ M w E av u := by
  obtain ⟨d, hu, ho⟩ := ht.und
  have hsz := he.run_size (P := P) w
  unfold aIndex at hx
  split at hx
  · rename_i e' k' off n esz gr hde
    rw [hde] at ho hd
    simp [TD.elem] at hd
    subst hd
    split at hx
    · rename_i hc
      obtain ⟨rfl, h0, h1⟩ := hc
      simp at hx; subst hx
      cases d <;> simp [TD.of] at ho
      subst ho
      rcases hm with ⟨_, _, rfl, _⟩ | ⟨_, rfl, _⟩ | ⟨g, cap, ty, sz, hg, rfl, hcap, hr, hle, _⟩
      · omega
      · omega
      · exact ⟨_, by simp [Instr.indexAt, asIntOf, run_underlying hu, h0, h1, hsz, addr_add], g, hg, rfl⟩
    · simp at hx
  · rename_i e' b n cs hde
    rw [hde] at ho hd
    simp [TD.elem] at hd
    subst hd
    split at hx
    · rename_i hc
      obtain ⟨h0, h1⟩ := hc
      simp at hx; subst hx
      cases d <;> simp [TD.of] at ho
      subst ho
      rcases hm with ⟨rfl, _⟩ | ⟨g, off, cap, vs, rfl, hcap, hok, hc, hms⟩
      · omega
      · exact ⟨_, by simp [Instr.indexAt, asIntOf, run_underlying hu, h0, h1, hsz, addr_add], g, _, _, rfl, hok, hc.drop _, hms.drop _⟩
    · simp at hx
  · rename_i n e' k' off hde
    rw [hde] at ho hd
    simp [TD.elem] at hd
    subst hd
    split at hx
    · rename_i hc
      obtain ⟨h0, h1⟩ := hc
      simp at hx; subst hx
      cases d <;> simp [TD.of] at ho
      obtain ⟨rfl, rfl⟩ := ho
      obtain ⟨g, hg, rfl⟩ := hm
      exact ⟨_, by simp [Instr.indexAt, asIntOf, run_underlying hu, Instr.sureAddr, h0, h1, hsz, addr_add], g, hg, rfl⟩
    · simp at hx
  · rename_i n e' b cs hde
    rw [hde] at ho hd
    simp [TD.elem] at hd
    subst hd
    split at hx
    · rename_i hc
      obtain ⟨h0, h1⟩ := hc
      simp at hx; subst hx
      cases d <;> simp [TD.of] at ho
      obtain ⟨rfl, rfl⟩ := ho
      obtain ⟨g, off, vs, rfl, hok, hc, hms⟩ := hm
      exact ⟨_, by simp [Instr.indexAt, asIntOf, run_underlying hu, Instr.sureAddr, h0, h1, hsz, addr_add], g, _, _, rfl, hok, hc.drop _, hms.drop _⟩
    · simp at hx
  · simp at hx

end Go.Proofs.YtgbpgplkhifgiaaDoor

/- More operations that only compute: parts of a value, slices, numbers, equality. No condition. -/
set_option linter.unusedVariables false
set_option linter.unusedSimpArgs false
namespace Go.Proofs.YtgbpgplkhifgiaaDoor
open Go Go.RowKit

theorem run_partC {P : Program} {t : TypeId} {ti : TI} (ht : TOk P t ti) {w : World} {E : Env} {o : Nat} {vs : List Value} {cs : List AV} {x : AV}
    (hm : Ms w E cs vs) (hx : loadC ti cs o = some x) : ∃ v, (part t ⟨vs⟩ o).run P w = .ok v w ∧ M w E x v := by
  unfold loadC at hx
  unfold part
  simp only [Sem.run_bind, ht.run_agg, Result.andThen_ok]
  split at hx
  · rename_i hag
    split at hx
    · rename_i hlen
      simp only [Option.some.injEq] at hx
      subst hx
      have hle := hm.len
      refine ⟨.agg ⟨(vs.drop o).take ti.size⟩, ?_, _, rfl, (hm.drop o).take _⟩
      simp only [hag, if_true, Sem.run_bind, ht.run_size, Result.andThen_ok, Sem.run_pure]
      congr 2
      apply Array.ext'
      simp [List.extract_eq_take_drop]
    · simp at hx
  · rename_i hag
    have hx' : cs[o]? = some x := by
      cases hq : cs[o]? with
      | none => simp [hq] at hx
      | some y => cases y <;> simp_all
    obtain ⟨v, hv, hmv⟩ := hm.get hx'
    exact ⟨v, by simp [hag, hv], hmv⟩

theorem run_fieldV {P : Program} {t ft : TypeId} {ti fti : TI} (ht : TOk P t ti) (hf : TOk P ft fti) {fs : List (Nat × TypeId)} {i off : Nat} (hd : ti.d = .st fs) (hfs : fs[i]? = some (off, ft))
    {w : World} {E : Env} {cs : List AV} {av : AV} {v : Value} (hm : M w E (.agg cs) v) (hx : loadC fti cs off = some av) : ∃ u, (Instr.field t v i).run P w = .ok u w ∧ M w E av u := by
  obtain ⟨d, hu, ho⟩ := ht.und
  rw [hd] at ho
  cases d <;> simp [TD.of] at ho
  rename_i fields
  have hfi : ∃ f, fields[i]? = some f ∧ f.offset = off ∧ f.type = ft := by
    rw [← ho] at hfs
    cases hq : fields[i]? with
    | none => simp [hq] at hfs
    | some f => simp [hq] at hfs; exact ⟨f, rfl, hfs⟩
  obtain ⟨f, hf1, rfl, rfl⟩ := hfi
  obtain ⟨vs, rfl, hms⟩ := hm
  obtain ⟨u, hr, hmu⟩ := run_partC hf hms hx
  exact ⟨u, by simp [Instr.field, run_underlying hu, hf1, asAgg, hr], hmu⟩

theorem run_indexV {P : Program} {t e : TypeId} {ti eti : TI} {n : Nat} (ht : TOk P t ti) (he : TOk P e eti) (hd : ti.d = .arr n e)
    {w : World} {E : Env} {cs : List AV} {av : AV} {v : Value} {k : IntKind} {i : Int} (hm : M w E (.agg cs) v) (hi : 0 ≤ i ∧ i < n) (hx : loadC eti cs (i.toNat * eti.size) = some av) :
    ∃ u, (Instr.index t v (.int k i)).run P w = .ok u w ∧ M w E av u := by
  obtain ⟨d, hu, ho⟩ := ht.und
  rw [hd] at ho
  cases d <;> simp [TD.of] at ho
  obtain ⟨rfl, rfl⟩ := ho
  obtain ⟨vs, rfl, hms⟩ := hm
  obtain ⟨u, hr, hmu⟩ := run_partC he hms hx
  exact ⟨u, by simp [Instr.index, asIntOf, run_underlying hu, hi.1, hi.2, he.run_size (P := P) w, hr], hmu⟩

theorem run_indexS {P : Program} {t : TypeId} {ti : TI} (ht : TOk P t ti) (hd : ti.d = .str)
    {w : World} {s : ByteArray} {k : IntKind} {i : Int} {b : UInt8} (h0 : 0 ≤ i) (hb : s.data.toList[i.toNat]? = some b) :
    (Instr.index t (.string s) (.int k i)).run P w = .ok (.int .u8 b.toNat) w := by
  obtain ⟨d, hu, ho⟩ := ht.und
  rw [hd] at ho
  cases d <;> simp [TD.of] at ho
  have hs : s[i.toNat]? = some b := by
    obtain ⟨hl, hv⟩ := List.getElem?_eq_some_iff.1 hb
    have hl' : i.toNat < s.size := by simpa using hl
    rw [getElem?_pos s i.toNat hl']
    simp at hv
    exact congrArg some hv
  simp [Instr.index, asIntOf, run_underlying hu, h0, hs]

/-! Slicing -/

def aBound (x : Option AV) (dflt : Nat) : Option Nat :=
  match x with
  | none => some dflt
  | some (.val (.int _ i)) => if 0 ≤ i then some i.toNat else none
  | _ => none

/-- 'x[:h:m]' may be appended to as x might. -/
def keepGr (lo mx : Option AV) (h : Nat) (gr : Option TypeId) : Option TypeId :=
  match lo, mx with
  | none, some _ => if h = 0 then none else gr
  | _, _ => none

/-- x[lo:hi] and x[lo:hi:hi] within the length. -/
def aSlice (ti eti : TI) (bx : Nat → Option (List AV)) (x : AV) (lo hi mx : Option AV) : Option AV :=
  match ti.d, x with
  | .sl _, .sl k off n esz gr =>
    match aBound hi n, aBound lo 0, aBound mx n with
    | some h, some l, some m => if esz = eti.size ∧ l ≤ h ∧ h ≤ m ∧ m ≤ n ∧ (mx.isSome → hi.isSome) then some (.sl k (off + l * esz) (h - l) esz (keepGr lo mx h gr)) else none
    | _, _, _ => none
  | .sl _, .ds b n cs =>
    match aBound hi n, aBound lo 0, aBound mx n with
    | some h, some l, some m => if l ≤ h ∧ h ≤ m ∧ m ≤ n ∧ (mx.isSome → hi.isSome) then some (.ds b (h - l) ((cs.drop (l * eti.size)).take ((h - l) * eti.size))) else none
    | _, _, _ => none
  | .arr n _, .ptr k off =>
    match aBound hi n, aBound lo 0, bx k with
    | some h, some l, some cs => if mx.isNone ∧ l ≤ h ∧ h ≤ n ∧ off + n * eti.size ≤ cs.length ∧ eti.size ≠ 0 then some (.sl k (off + l * eti.size) (h - l) eti.size none) else none
    | _, _, _ => none
  | .arr n _, .dp b cs =>
    match aBound hi n, aBound lo 0 with
    | some h, some l => if mx.isNone ∧ l ≤ h ∧ h ≤ n then some (.ds b (h - l) ((cs.drop (l * eti.size)).take ((h - l) * eti.size))) else none
    | _, _ => none
  | _, _ => none

theorem run_bound {P : Program} {w : World} {E : Env} {x : AV} {v : Value} {d n y : Nat} (c : BoundsCode) (hm : M w E x v) (hx : aBound (some x) d = some n) (hy : n ≤ y) :
    (Instr.sliceBound v y c).run P w = .ok n w := by
  cases x <;> simp [aBound] at hx
  rename_i u
  cases u <;> simp at hx
  rename_i k i
  obtain ⟨h0, rfl⟩ := hx
  simp only [M] at hm
  subst hm
  have : i ≤ (y : Int) := by omega
  simp [Instr.sliceBound, asIntOf, h0, this]

/-- Bounds that are there or not, and the operands' values. -/
def Mo (w : World) (E : Env) : Option AV → Option Value → Prop
  | none, none => True
  | some x, some v => M w E x v
  | _, _ => False

theorem run_bounds {P : Program} {w : World} {E : Env} {lo hi mx : Option AV} {vlo vhi vmx : Option Value} {b : Bool} {n cap l h m : Nat}
    (hlo : Mo w E lo vlo) (hhi : Mo w E hi vhi) (hmx : Mo w E mx vmx) (el : aBound lo 0 = some l) (eh : aBound hi n = some h) (em : aBound mx n = some m)
    (h1 : l ≤ h) (h2 : h ≤ m) (h3 : m ≤ n) (h4 : mx.isSome → hi.isSome) (h5 : n ≤ cap) :
    ∃ m', (Instr.sliceBounds b n cap vlo vhi vmx).run P w = .ok (l, h, m') w ∧ h ≤ m' ∧ m' ≤ cap := by
  cases mx with
  | some x =>
    cases hi with
    | none => simp at h4
    | some y =>
      cases vmx <;> simp only [Mo] at hmx
      cases vhi <;> simp only [Mo] at hhi
      refine ⟨m, ?_, h2, by omega⟩
      have r1 := run_bound (P := P) (y := cap) (if b then BoundsCode.slice3Acap else .slice3Alen) hmx em (by omega)
      have r2 := run_bound (P := P) (y := m) BoundsCode.slice3B hhi eh (by omega)
      cases lo with
      | none =>
        cases vlo <;> simp only [Mo] at hlo
        simp [aBound] at el
        simp [Instr.sliceBounds, r1, r2, el]
      | some z =>
        cases vlo <;> simp only [Mo] at hlo
        have r3 := run_bound (P := P) (y := h) BoundsCode.slice3C hlo el (by omega)
        simp [Instr.sliceBounds, r1, r2, r3]
  | none =>
    cases vmx <;> simp only [Mo] at hmx
    refine ⟨cap, ?_, by omega, by omega⟩
    cases hi with
    | none =>
      cases vhi <;> simp only [Mo] at hhi
      simp [aBound] at eh
      subst eh
      cases lo with
      | none =>
        cases vlo <;> simp only [Mo] at hlo
        simp [aBound] at el
        simp [Instr.sliceBounds, el]
      | some z =>
        cases vlo <;> simp only [Mo] at hlo
        have r3 := run_bound (P := P) (y := n) BoundsCode.sliceB hlo el (by omega)
        simp [Instr.sliceBounds, r3]
    | some y =>
      cases vhi <;> simp only [Mo] at hhi
      have r2 := run_bound (P := P) (y := cap) (if b then BoundsCode.sliceAcap else .sliceAlen) hhi eh (by omega)
      cases lo with
      | none =>
        cases vlo <;> simp only [Mo] at hlo
        simp [aBound] at el
        simp [Instr.sliceBounds, r2, el]
      | some z =>
        cases vlo <;> simp only [Mo] at hlo
        have r3 := run_bound (P := P) (y := h) BoundsCode.sliceB hlo el (by omega)
        simp [Instr.sliceBounds, r2, r3]

theorem run_slice {P : Program} {t e : TypeId} {ti eti : TI} (ht : TOk P t ti) (he : TOk P e eti) (hd : ti.d.elem = some e)
    {w : World} {E : Env} {bx : Nat → Option (List AV)} (hbx : ∀ k cs, bx k = some cs → boxAt w E k cs) {x av : AV} {v : Value} {lo hi mx : Option AV} {vlo vhi vmx : Option Value}
    (hm : M w E x v) (hlo : Mo w E lo vlo) (hhi : Mo w E hi vhi) (hmx : Mo w E mx vmx) (hx : aSlice ti eti bx x lo hi mx = some av) :
    ∃ u, (Instr.sliceAt t v vlo vhi vmx).run P w = .ok u w ∧ M w E av u := by
  obtain ⟨d, hu, ho⟩ := ht.und
  have hsz := he.run_size (P := P) w
  unfold aSlice at hx
  split at hx
  · rename_i e' k off n esz gr hde
    rw [hde] at ho hd
    simp [TD.elem] at hd
    subst hd
    cases d <;> simp [TD.of] at ho
    subst ho
    split at hx
    · rename_i h l m eh el em
      split at hx
      · rename_i hc
        obtain ⟨rfl, h1, h2, h3, h4⟩ := hc
        simp at hx; subst hx
        rcases hm with ⟨_, _, rfl, rfl, rfl⟩ | ⟨_, rfl, a, cap, rfl⟩ | ⟨g, cap, ty, sz, hg, rfl, hcap, hr, hle, hgr⟩
        · obtain ⟨m', hb, hm1, hm2⟩ := run_bounds (P := P) (b := true) (cap := 0) hlo hhi hmx el eh em h1 h2 h3 h4 (by omega)
          exact ⟨_, by simp [Instr.sliceAt, Instr.slice, run_underlying hu, hb, hsz]; rfl, .inr (.inl ⟨by
            have h0 : h = 0 := by omega
            subst h0
            unfold keepGr
            split <;> simp, by omega, by
            have : h - l = 0 := by omega
            rw [this]; exact ⟨_, _, rfl⟩⟩)⟩
        · obtain ⟨m', hb, hm1, hm2⟩ := run_bounds (P := P) (b := true) (cap := cap) hlo hhi hmx el eh em h1 h2 h3 h4 (by omega)
          exact ⟨_, by simp [Instr.sliceAt, Instr.slice, run_underlying hu, hb, hsz]; rfl, .inr (.inl ⟨by
            have h0 : h = 0 := by omega
            subst h0
            unfold keepGr
            split <;> simp, by omega, by
            have : h - l = 0 := by omega
            rw [this]; exact ⟨_, _, rfl⟩⟩)⟩
        · obtain ⟨m', hb, hm1, hm2⟩ := run_bounds (P := P) (b := true) (cap := cap) hlo hhi hmx el eh em h1 h2 h3 h4 hcap
          refine ⟨_, by simp [Instr.sliceAt, Instr.slice, run_underlying hu, hb, hsz]; rfl, ?_⟩
          by_cases hz : h - l = 0
          · refine .inr (.inl ⟨?_, hz, by rw [hz]; exact ⟨_, _, rfl⟩⟩)
            unfold keepGr
            split
            · simp [aBound] at el
              subst el
              rw [if_pos (by omega)]
            · rfl
          · have hne : m' ≠ l := by omega
            refine .inr (.inr ⟨g, m' - l, ty, sz, hg, ?_, by omega, hr, ?_, ?_⟩)
            · simp [hne, addr_add]
            · have : (m' - l) * eti.size + l * eti.size ≤ cap * eti.size := by
                rw [← Nat.add_mul]; exact Nat.mul_le_mul_right _ (by omega)
              omega
            · intro e he
              unfold keepGr at he
              split at he
              · simp [aBound] at el
                subst el
                split at he
                · simp at he
                · obtain ⟨g1, g2, g3⟩ := hgr e he
                  exact ⟨g1, by omega, by omega⟩
              · simp at he
      · simp at hx
    · simp at hx
  · rename_i e' b n cs hde
    rw [hde] at ho hd
    simp [TD.elem] at hd
    subst hd
    cases d <;> simp [TD.of] at ho
    subst ho
    split at hx
    · rename_i h l m eh el em
      split at hx
      · rename_i hc
        obtain ⟨h1, h2, h3, h4⟩ := hc
        simp at hx; subst hx
        rcases hm with ⟨rfl, rfl, a, cap, rfl⟩ | ⟨g, off, cap, vs, rfl, hcap, hok, hcs, hms⟩
        · obtain ⟨m', hb, hm1, hm2⟩ := run_bounds (P := P) (b := true) (cap := cap) hlo hhi hmx el eh em h1 h2 h3 h4 (by omega)
          exact ⟨_, by simp [Instr.sliceAt, Instr.slice, run_underlying hu, hb, hsz]; rfl, .inl ⟨by omega, by simp, by
            have : h - l = 0 := by omega
            rw [this]; exact ⟨_, _, rfl⟩⟩⟩
        · obtain ⟨m', hb, hm1, hm2⟩ := run_bounds (P := P) (b := true) (cap := cap) hlo hhi hmx el eh em h1 h2 h3 h4 hcap
          refine ⟨_, by simp [Instr.sliceAt, Instr.slice, run_underlying hu, hb, hsz]; rfl, ?_⟩
          by_cases hz : h - l = 0
          · exact .inl ⟨hz, by simp [hz], by rw [hz]; exact ⟨_, _, rfl⟩⟩
          · have hne : m' ≠ l := by omega
            refine .inr ⟨g, off + l * eti.size, m' - l, _, ?_, by omega, hok, (hcs.drop _).take _, (hms.drop _).take _⟩
            simp [hne, addr_add]
      · simp at hx
    · simp at hx
  · rename_i n e' k off hde
    rw [hde] at ho hd
    simp [TD.elem] at hd
    subst hd
    cases d <;> simp [TD.of] at ho
    rename_i n0 _
    obtain ⟨rfl, rfl⟩ := ho
    split at hx
    · rename_i h l cs eh el hk
      split at hx
      · rename_i hc
        obtain ⟨h0, h1, h2, h3, h4⟩ := hc
        simp at hx; subst hx
        cases mx <;> simp at h0
        cases vmx <;> simp only [Mo] at hmx
        obtain ⟨g, hg, rfl⟩ := hm
        obtain ⟨m', hb, hm1, hm2⟩ := run_bounds (P := P) (b := false) (mx := none) (vmx := none) hlo hhi trivial el eh rfl h1 h2 (Nat.le_refl _) (by simp) (Nat.le_refl _)
        refine ⟨_, by simp [Instr.sliceAt, run_underlying hu, Instr.sureAddr, hb, hsz]; rfl, ?_⟩
        by_cases hz : h - l = 0
        · exact .inr (.inl ⟨rfl, hz, by rw [hz]; exact ⟨_, _, rfl⟩⟩)
        · have hne : m' ≠ l := by omega
          rcases hbx k cs hk with ⟨_, rfl⟩ | ⟨g', c, ty, vs, hg', hw, hl, _, hms⟩
          · exfalso
            have : n0 * eti.size ≠ 0 := Nat.mul_ne_zero (by omega) h4
            simp at h3
            omega
          · obtain rfl : g = g' := by rw [hg] at hg'; simpa using hg'
            refine .inr (.inr ⟨g, m' - l, ty, c.size, hg, by simp [hne, addr_add], by omega, by simp [rowIn, hw], ?_, by simp⟩)
            have : (m' - l) * eti.size + l * eti.size ≤ n0 * eti.size := by
              rw [← Nat.add_mul]; exact Nat.mul_le_mul_right _ (show m' - l + l ≤ n0 by omega)
            have := hms.len
            omega
      · simp at hx
    · simp at hx
  · rename_i n e' b cs hde
    rw [hde] at ho hd
    simp [TD.elem] at hd
    subst hd
    cases d <;> simp [TD.of] at ho
    obtain ⟨rfl, rfl⟩ := ho
    split at hx
    · rename_i h l eh el
      split at hx
      · rename_i hc
        obtain ⟨h0, h1, h2⟩ := hc
        simp at hx; subst hx
        cases mx <;> simp at h0
        cases vmx <;> simp only [Mo] at hmx
        obtain ⟨g, off, vs, rfl, hok, hcs, hms⟩ := hm
        obtain ⟨m', hb, hm1, hm2⟩ := run_bounds (P := P) (b := false) (mx := none) (vmx := none) hlo hhi trivial el eh rfl h1 h2 (Nat.le_refl _) (by simp) (Nat.le_refl _)
        refine ⟨_, by simp [Instr.sliceAt, run_underlying hu, Instr.sureAddr, hb, hsz]; rfl, ?_⟩
        by_cases hz : h - l = 0
        · exact .inl ⟨hz, by simp [hz], by rw [hz]; exact ⟨_, _, rfl⟩⟩
        · have hne : m' ≠ l := by omega
          exact .inr ⟨g, off + l * eti.size, m' - l, _, by simp [hne, addr_add], by omega, hok, (hcs.drop _).take _, (hms.drop _).take _⟩
      · simp at hx
    · simp at hx
  · simp at hx

/-! ### Numbers and strings -/

def binI (op : BinOp) (k : IntKind) (a b : Int) : Option Value :=
  match op with
  | .add => some (.int k (k.wrap (a + b)))
  | .sub => some (.int k (k.wrap (a - b)))
  | .mul => some (.int k (k.wrap (a * b)))
  | .quo => if b = 0 then none else some (.int k (k.wrap (a.tdiv b)))
  | .rem => if b = 0 then none else some (.int k (a.tmod b))
  | .and => some (.int k (k.wrap (BitVec.ofInt k.bits a &&& BitVec.ofInt k.bits b).toNat))
  | .or => some (.int k (k.wrap (BitVec.ofInt k.bits a ||| BitVec.ofInt k.bits b).toNat))
  | .xor => some (.int k (k.wrap (BitVec.ofInt k.bits a ^^^ BitVec.ofInt k.bits b).toNat))
  | .andNot => some (.int k (k.wrap (BitVec.ofInt k.bits a &&& ~~~ BitVec.ofInt k.bits b).toNat))
  | .eql => some (.bool (decide (a = b)))
  | .neq => some (.bool (!decide (a = b)))
  | .lss => some (.bool (decide (a < b)))
  | .leq => some (.bool (decide (a ≤ b)))
  | .gtr => some (.bool (decide (a > b)))
  | .geq => some (.bool (decide (a ≥ b)))
  | _ => none

/-- A binary operation on two numbers or two strings. -/
def aBin (op : BinOp) (x y : Value) : Option Value :=
  match op, x, y with
  | .shl, .int k a, .int _ b => if b < 0 then none else some (.int k (k.wrap (a * 2 ^ (min b.toNat k.bits))))
  | .shr, .int k a, .int _ b => if b < 0 then none else some (.int k (a.fdiv (2 ^ (min b.toNat k.bits))))
  | op, .int k a, .int k' b => if k = k' then binI op k a b else none
  | .eql, .string a, .string b => some (.bool (a.toList == b.toList))
  | .neq, .string a, .string b => some (.bool (!(a.toList == b.toList)))
  | .add, .string a, .string b => if (a.size + b.size : Int) > 9223372036854775807 then none else some (.string (a ++ b))
  | _, _, _ => none

theorem run_bin {P : Program} {w : World} {op : BinOp} {t : TypeId} {x y v : Value} (hx : aBin op x y = some v) (ox oy : Operand) :
    (do eqGuard op t ox oy x y; binOp op t x y).run P w = .ok v w := by
  cases x <;> cases y <;> (try (cases op <;> simp [aBin] at hx; done))
  · rename_i k a k' b
    cases op
    case shl =>
      simp only [aBin] at hx; split at hx
      · simp at hx
      · rename_i h; simp at hx; subst hx; simp [eqGuard, binOp, Op.shift, h]
    case shr =>
      simp only [aBin] at hx; split at hx
      · simp at hx
      · rename_i h; simp at hx; subst hx; simp [eqGuard, binOp, Op.shift, h]
    all_goals
      simp only [aBin] at hx
      split at hx
      · rename_i hk
        subst hk
        simp only [binI] at hx
        first
          | (simp at hx; subst hx; simp [eqGuard, binOp, Op.intArith, Op.intBits, Op.intCmp]; done)
          | (split at hx
             · simp at hx
             · rename_i h; simp at hx; subst hx; simp [eqGuard, binOp, Op.intDiv, h])
          | (simp at hx; subst hx; simp [eqGuard, binOp, Op.intCmp, BEq.beq, bne]; done)
          | simp at hx
      · simp at hx
  · rename_i a b
    cases op <;> simp [aBin] at hx
    · obtain ⟨h1, rfl⟩ := hx
      have h2 : ¬ ((a.size + b.size : Nat) : Int) > IntKind.i64.max := by
        have : IntKind.i64.max = 9223372036854775807 := by decide
        omega
      simp [eqGuard, binOp, Op.stringOp, IntKind.max, IntKind.signed, IntKind.bits]
      omega
    · subst hx; simp [eqGuard, binOp, Op.stringOp]
    · subst hx; simp [eqGuard, binOp, Op.stringOp]

end Go.Proofs.YtgbpgplkhifgiaaDoor

/- Equality of plain values, conversions, building of structs and arrays, lengths. No condition. -/
set_option linter.unusedVariables false
set_option linter.unusedSimpArgs false
namespace Go.Proofs.YtgbpgplkhifgiaaDoor
open Go Go.RowKit

/-! ### Equality: cell by cell where a type holds numbers, bools and strings alone -/

def eqS : AV → AV → Option Bool
  | .val (.int k a), .val (.int k' b) => if k = k' then some (decide (a = b)) else none
  | .val (.bool a), .val (.bool b) => some (a == b)
  | .val (.string a), .val (.string b) => some (a.toList == b.toList)
  | _, _ => none

def eqL : List AV → List AV → Option Bool
  | [], [] => some true
  | x :: xs, y :: ys => match eqS x y, eqL xs ys with
    | some a, some b => some (a && b)
    | _, _ => none
  | _, _ => none

def TI.one (ti : TI) : Bool :=
  ti.size == 1 && (match ti.d with | .int _ => true | .bool => true | .str => true | _ => false)

/-- The type's own number kind agrees with the cells. -/
def fits (ti : TI) : AV → Bool
  | .val (.int _ _) => match ti.d with | .int _ => true | _ => false
  | .val (.bool _) => match ti.d with | .bool => true | _ => false
  | .val (.string _) => match ti.d with | .str => true | _ => false
  | _ => false

theorem run_eqS {P : Program} {w : World} {t : TypeId} {ti : TI} (ht : TOk P t ti) {x y : AV} {u v : Value} {E : Env} {r : Bool} (d : Nat)
    (hx : M w E x u) (hy : M w E y v) (hf : fits ti x = true) (he : eqS x y = some r) : (Op.equalIn (d + 1) t u v).run P w = .ok r w := by
  obtain ⟨td, hu, ho⟩ := ht.und
  cases x <;> simp [eqS] at he
  rename_i a
  cases y <;> (try (cases a <;> simp [eqS] at he; done))
  rename_i b
  simp only [M] at hx hy
  subst hx; subst hy
  cases u <;> cases v <;> simp [eqS] at he <;> simp [fits] at hf
  · rw [← ho] at hf
    cases td <;> simp [TD.of] at hf
    subst he
    simp [Op.equalIn, run_underlying hu]
  · obtain ⟨rfl, rfl⟩ := he
    rw [← ho] at hf
    cases td <;> simp [TD.of] at hf
    simp [Op.equalIn, run_underlying hu, BEq.beq]
  · rw [← ho] at hf
    cases td <;> simp [TD.of] at hf
    subst he
    rw [run_equalIn_string w d t _ _ hu]

theorem run_partOne {P : Program} {w : World} {t : TypeId} {ti : TI} (ht : TOk P t ti) (h1 : ti.one = true) {vs : List Value} {o : Nat} {v : Value} (hv : vs[o]? = some v) :
    (part t ⟨vs⟩ o).run P w = .ok v w := by
  unfold part
  have hag : ti.d.isAgg = false := by
    unfold TI.one at h1
    cases hd : ti.d <;> simp [hd] at h1 <;> rfl
  simp [ht.run_agg, hag, hv]

theorem run_eqItems {P : Program} {w : World} {e : TypeId} {eti : TI} (he : TOk P e eti) (h1 : eti.one = true) {E : Env} (d : Nat) :
    ∀ (m i : Nat) (xs ys : List AV) (us vs : List Value) (r : Bool), Ms w E xs us → Ms w E ys vs → (xs.drop i).length = m → (ys.drop i).length = m → xs.all (fits eti) = true → eqL (xs.drop i) (ys.drop i) = some r →
      (Op.eqItems (d + 1) e 1 ⟨us⟩ ⟨vs⟩ (List.range' i m)).run P w = .ok r w
  | 0, i, xs, ys, us, vs, r, _, _, hl, hl', _, hr => by
    have h1 := List.eq_nil_of_length_eq_zero hl
    have h2 := List.eq_nil_of_length_eq_zero hl'
    rw [h1, h2] at hr
    simp [eqL] at hr
    subst hr
    simp [Op.eqItems]
  | m + 1, i, xs, ys, us, vs, r, hx, hy, hl, hl', hf, hr => by
    have hi : i < xs.length := by simp at hl; omega
    have hi' : i < ys.length := by simp at hl'; omega
    rw [List.drop_eq_getElem_cons hi, List.drop_eq_getElem_cons hi'] at hr
    simp only [eqL] at hr
    split at hr
    · rename_i a b ha hb
      obtain ⟨u, hu, hmu⟩ := hx.get (List.getElem?_eq_getElem hi)
      obtain ⟨v, hv, hmv⟩ := hy.get (List.getElem?_eq_getElem hi')
      have hfi : fits eti xs[i] = true := (List.all_eq_true.1 hf) _ (List.getElem_mem hi)
      have hq := run_eqS (P := P) he d hmu hmv hfi ha
      have ih := run_eqItems he h1 d m (i + 1) xs ys us vs b hx hy (by simp at hl ⊢; omega) (by simp at hl' ⊢; omega) hf hb
      simp only [Option.some.injEq] at hr
      subst hr
      simp only [List.range', Op.eqItems, Nat.mul_one, Sem.run_bind, run_partOne he h1 hu, run_partOne he h1 hv, hq, Result.andThen_ok]
      cases a
      · simp
      · simpa using ih
    · simp at hr

/-- What equality asks of the table of a struct's type. -/
def EqOk (P : Program) (t : TypeId) : Prop := P.stoodInHeld t = false ∧ P.eqGuardType P.depth t = false ∧ (P.fieldsOf t).toList.all (fun f => f.name != "_") = true

theorem run_eqFields {P : Program} {w : World} {E : Env} {T : TypeId → Option TI} (hT : TTab P T) (d : Nat) :
    ∀ (fs : List Field) (i : Nat) (xs ys : List AV) (us vs : List Value) (r : Bool), Ms w E xs us → Ms w E ys vs →
      (xs.drop i).length = fs.length → (ys.drop i).length = fs.length → fs.all (fun f => f.name != "_") = true →
      (∀ j f, fs[j]? = some f → f.offset = i + j ∧ ∃ fti, T f.type = some fti ∧ fti.one = true ∧ ∃ x, xs[i + j]? = some x ∧ fits fti x = true) →
      eqL (xs.drop i) (ys.drop i) = some r → (Op.eqFields (d + 1) ⟨us⟩ ⟨vs⟩ fs).run P w = .ok r w
  | [], i, xs, ys, us, vs, r, _, _, hl, hl', _, _, hr => by
    have h1 := List.eq_nil_of_length_eq_zero hl
    have h2 := List.eq_nil_of_length_eq_zero hl'
    rw [h1, h2] at hr
    simp [eqL] at hr
    subst hr
    simp [Op.eqFields]
  | f :: fs, i, xs, ys, us, vs, r, hx, hy, hl, hl', hn, hf, hr => by
    have hi : i < xs.length := by simp at hl; omega
    have hi' : i < ys.length := by simp at hl'; omega
    rw [List.drop_eq_getElem_cons hi, List.drop_eq_getElem_cons hi'] at hr
    simp only [eqL] at hr
    split at hr
    · rename_i a b ha hb
      obtain ⟨u, hu, hmu⟩ := hx.get (List.getElem?_eq_getElem hi)
      obtain ⟨v, hv, hmv⟩ := hy.get (List.getElem?_eq_getElem hi')
      obtain ⟨ho, fti, ht, h1, x, hxx, hfx⟩ := hf 0 f rfl
      simp at ho hxx
      rw [List.getElem?_eq_getElem hi] at hxx
      simp at hxx
      subst hxx
      have hq := run_eqS (P := P) (hT _ _ ht) d hmu hmv hfx ha
      have ih := run_eqFields hT d fs (i + 1) xs ys us vs b hx hy (by simp at hl ⊢; omega) (by simp at hl' ⊢; omega) (by simp at hn ⊢; exact hn.2)
        (fun j g hg => by
          have := hf (j + 1) g (by simpa using hg)
          rwa [show i + (j + 1) = i + 1 + j by omega] at this) hb
      simp only [Option.some.injEq] at hr
      subst hr
      have hnm : f.name ≠ "_" := by simp at hn; exact hn.1
      simp only [Op.eqFields, hnm, ne_eq, not_false_eq_true, if_true, Sem.run_bind, ho, run_partOne (hT _ _ ht) h1 hu, run_partOne (hT _ _ ht) h1 hv, hq, Result.andThen_ok]
      cases a
      · simp
      · simpa using ih
    · simp at hr

/-- Whether two values are equal. 'eqt': the struct types of which EqOk is known. -/
def aEql (T : TypeId → Option TI) (eqt : List TypeId) (t : TypeId) (x y : AV) : Option Bool :=
  match x, y with
  | .agg xs, .agg ys =>
    match T t with
    | some ti => match ti.d with
      | .arr n e => match T e with
        | some eti => if eqt.contains t ∧ eti.one = true ∧ xs.length = n ∧ ys.length = n ∧ xs.all (fits eti) = true then eqL xs ys else none
        | none => none
      | .st fs => if eqt.contains t ∧ xs.length = fs.length ∧ ys.length = fs.length ∧ (fs.zipIdx.all fun (f, j) => f.1 == j && (match T f.2, xs[j]? with | some fti, some x => fti.one && fits fti x | _, _ => false)) = true then eqL xs ys else none
      | _ => none
    | none => none
  | .val (.bool a), .val (.bool b) => match T t with
    | some ti => if ti.d = .bool then some (a == b) else none
    | none => none
  | _, _ => none

theorem run_aEql {P : Program} {w : World} {E : Env} {T : TypeId → Option TI} {eqt : List TypeId} (hT : TTab P T) (hE : ∀ t, eqt.contains t = true → P.eqGuardType P.depth t = false ∧ (∀ fs, P.underlying t = some (.struct fs) → EqOk P t))
    {t : TypeId} {x y : AV} {u v : Value} {r : Bool} (hx : M w E x u) (hy : M w E y v) (he : aEql T eqt t x y = some r) (ox oy : Operand) :
    (do eqGuard .eql t ox oy u v; binOp .eql t u v).run P w = .ok (.bool r) w ∧ (do eqGuard .neq t ox oy u v; binOp .neq t u v).run P w = .ok (.bool (!r)) w := by
  unfold aEql at he
  split at he
  · rename_i xs ys
    obtain ⟨us, rfl, hus⟩ := hx
    obtain ⟨vs, rfl, hvs⟩ := hy
    split at he
    · rename_i ti hti
      have ht := hT _ _ hti
      obtain ⟨td, hu, ho⟩ := ht.und
      have main : P.eqGuardType P.depth t = false ∧ (Op.equalIn 10000 t (.agg ⟨us⟩) (.agg ⟨vs⟩)).run P w = .ok r w := by
        split at he
        · rename_i n e hd
          split at he
          · rename_i eti heti
            split at he
            · rename_i hc
              obtain ⟨hc1, h1, hl, hl', hf⟩ := hc
              rw [hd] at ho
              cases td <;> simp [TD.of] at ho
              obtain ⟨rfl, rfl⟩ := ho
              have hte := hT _ _ heti
              obtain ⟨i, z, hi, hs, _⟩ := hte.info
              refine ⟨(hE t hc1).1, ?_⟩
              rw [run_equalIn_array w 9999 _ _ hu hi]
              have hsz : eti.size = 1 := by unfold TI.one at h1; simp at h1; exact h1.1
              have hsz2 := hs.trans hsz
              simp only [Program.cellsOf, hi, Option.map_some, Option.getD_some, hsz2, List.range_eq_range']
              exact run_eqItems hte h1 9998 _ 0 xs ys us vs r hus hvs (by simpa using hl) (by simpa using hl') hf (by simpa using he)
            · simp at he
          · simp at he
        · rename_i fs hd
          split at he
          · rename_i hc
            obtain ⟨hc1, hl, hl', hf⟩ := hc
            rw [hd] at ho
            cases td <;> simp [TD.of] at ho
            rename_i fields
            have hfo : P.fieldsOf t = fields := by simp [Program.fieldsOf, hu]
            obtain ⟨e1, e2, e3⟩ := (hE t hc1).2 _ hu
            refine ⟨e2, ?_⟩
            rw [run_equalIn_struct w 9999 t _ _ (by rw [hfo]; exact hu) e1, hfo]
            rw [hfo] at e3
            subst ho
            refine run_eqFields hT 9998 fields.toList 0 xs ys us vs r hus hvs (by simpa using hl) (by simpa using hl') e3 (fun j f hj => ?_) (by simpa using he)
            have := (List.all_eq_true.1 hf) ((f.offset, f.type), j) (by
              rw [List.mem_zipIdx_iff_getElem?]
              simp at hj ⊢
              simp [hj])
            simp at this
            obtain ⟨ho, hq⟩ := this
            refine ⟨by simpa using ho, ?_⟩
            split at hq
            · rename_i fti x h1 h2
              simp at hq
              exact ⟨fti, h1, hq.1, x, by simpa using h2, hq.2⟩
            · simp at hq
          · simp at he
        · simp at he
      obtain ⟨hg, hq⟩ := main
      constructor
      · simp only [Sem.run_bind, run_eqGuard_agg w .eql t ox oy _ _ hg, Result.andThen_ok, run_eql_struct, hq]
      · simp only [Sem.run_bind, run_eqGuard_agg w .neq t ox oy _ _ hg, Result.andThen_ok, run_neq_struct, hq]
    · simp at he
  · rename_i a b
    simp only [M] at hx hy
    subst hx; subst hy
    split at he
    · rename_i ti hti
      split at he
      · rename_i hd
        simp at he
        subst he
        obtain ⟨td, hu, ho⟩ := (hT _ _ hti).und
        rw [hd] at ho
        cases td <;> simp [TD.of] at ho
        have hq := run_equalIn_bool' (P := P) w 9999 t a b hu
        constructor
        · rw [eqGuard_at_bool]
          simp only [Sem.run_bind, Sem.run_pure, Result.andThen_ok]
          exact run_eql_bool w t a b hu
        · rw [eqGuard_at_bool]
          simp only [Sem.run_bind, Sem.run_pure, Result.andThen_ok, binOp, Op.equal, Op.maxDepth, hq]
      · simp at he
    · simp at he
  · simp at he

end Go.Proofs.YtgbpgplkhifgiaaDoor

/- Structs and arrays that are built; lengths; conversions; what else only computes. No condition. -/
set_option linter.unusedVariables false
set_option linter.unusedSimpArgs false
namespace Go.Proofs.YtgbpgplkhifgiaaDoor
open Go Go.RowKit

/-- A value's cells. -/
def AV.cs : AV → Option (List AV)
  | .any => none
  | .tup _ => none
  | .agg cs => some cs
  | .val (.agg _) => none
  | .val (.tuple _) => none
  | x => some [x]

theorem M.cs {w : World} {E : Env} {x : AV} {v : Value} {cs : List AV} (hm : M w E x v) (h : x.cs = some cs) : Ms w E cs v.cells.toList := by
  cases x <;> simp [AV.cs] at h
  case val u =>
    simp only [M] at hm
    subst hm
    cases v <;> simp [AV.cs] at h <;> subst h <;> simp [Value.cells, Ms, M]
  case agg =>
    subst h
    obtain ⟨vs, rfl, hms⟩ := hm
    simpa [Value.cells] using hms
  all_goals
    subst h
    refine Ms_cons.2 ⟨v, [], ?_, hm, rfl⟩
    cases v <;> simp [M] at hm <;> simp [Value.cells]

def splice (cs : List AV) (off : Nat) (vc : List AV) : List AV := cs.take off ++ vc ++ cs.drop (off + vc.length)

def aFill (place : Nat → Option (Nat × Nat)) (cells : List AV) : List (Nat × AV) → Option (List AV)
  | [] => some cells
  | (i, x) :: rest =>
    match place i, x.cs with
    | some (off, size), some vc => if vc.length = size ∧ off + vc.length ≤ cells.length then aFill place (splice cells off vc) rest else none
    | _, _ => none

/-- Parts and their values. -/
def Mp (w : World) (E : Env) : List (Nat × AV) → List (Nat × Value) → Prop
  | [], [] => True
  | (i, x) :: l, (j, v) :: m => i = j ∧ M w E x v ∧ Mp w E l m
  | _, _ => False

theorem foldl_sets (off : Nat) : ∀ (vs : List Value) (j : Nat) (cur : Array Value), off + j + vs.length ≤ cur.size →
    ((vs.zipIdx j).foldl (fun cs (x : Value × Nat) => cs.setIfInBounds (off + x.2) x.1) cur).toList = cur.toList.take (off + j) ++ vs ++ cur.toList.drop (off + j + vs.length)
  | [], j, cur, h => by simp
  | v :: vs, j, cur, h => by
    simp only [List.zipIdx_cons, List.foldl_cons]
    rw [foldl_sets off vs (j + 1) _ (by simp at h ⊢; omega)]
    have := list_seg_step cur.toList (off + j) v vs (by simp at h ⊢; omega)
    simp only [Array.toList_setIfInBounds]
    simpa [Nat.add_assoc] using this

theorem run_aFill {w : World} {E : Env} {place : Nat → Option (Nat × Nat)} : ∀ (ps : List (Nat × AV)) (qs : List (Nat × Value)) (cells : List AV) (vs : Array Value) (out : List AV),
    Mp w E ps qs → Ms w E cells vs.toList → aFill place cells ps = some out → ∃ us : Array Value, Instr.fill place vs qs = some us ∧ Ms w E out us.toList
  | [], qs, cells, vs, out, hp, hm, h => by
    cases qs <;> simp [Mp] at hp
    simp [aFill] at h
    subst h
    exact ⟨vs, rfl, hm⟩
  | (i, x) :: ps, qs, cells, vs, out, hp, hm, h => by
    cases qs with
    | nil => simp [Mp] at hp
    | cons q qs =>
      obtain ⟨j, v⟩ := q
      obtain ⟨rfl, hmx, hpr⟩ := hp
      simp only [aFill] at h
      split at h
      · rename_i off size vc h1 h2
        split at h
        · rename_i hc
          obtain ⟨hl, hle⟩ := hc
          have hv := hmx.cs h2
          have hvl := hv.len
          have hcl := hm.len
          have hvs : v.cells.size = vc.length := by simpa using hvl
          have hcs : vs.size = cells.length := by simpa using hcl
          have e := foldl_sets off v.cells.toList 0 vs (by simp; omega)
          have hm' : Ms w E (splice cells off vc) ((v.cells.zipIdx.foldl (fun cs (x : Value × Nat) => cs.setIfInBounds (off + x.2) x.1) vs)).toList := by
            have e2 : (v.cells.zipIdx.foldl (fun cs (x : Value × Nat) => cs.setIfInBounds (off + x.2) x.1) vs).toList = vs.toList.take off ++ v.cells.toList ++ vs.toList.drop (off + v.cells.size) := by
              rw [← Array.foldl_toList]
              simpa using e
            rw [e2, hvs]
            exact ((hm.take _).append hv).append (hm.drop _)
          obtain ⟨us, hu, hmu⟩ := run_aFill ps qs _ _ out hpr hm' h
          refine ⟨us, ?_, hmu⟩
          simp only [Instr.fill, h1]
          rw [if_neg (by simp only [hvs, hcs, hl, ne_eq, not_true_eq_false, decide_false, Bool.false_or, decide_eq_true_eq, Bool.not_eq_true, decide_eq_false_iff_not]; omega)]
          exact hu
        · simp at h
      · simp at h

def placesOf (T : TypeId → Option TI) : List (Nat × TypeId) → Option (List (Nat × Nat))
  | [] => some []
  | (o, t) :: fs => match T t, placesOf T fs with
    | some ti, some l => some ((o, ti.size) :: l)
    | _, _ => none

def aBuild (T : TypeId → Option TI) (t : TypeId) (ps : List (Nat × AV)) : Option AV :=
  match T t with
  | some ti => match ti.d with
    | .arr n e => match T e with
      | some eti => (aFill (fun i => some (i * eti.size, eti.size)) (ti.zero.map .val) ps).map .agg
      | none => none
    | .st fs => match placesOf T fs with
      | some pl => (aFill (fun i => pl[i]?) (ti.zero.map .val) ps).map .agg
      | none => none
    | _ => none
  | none => none

theorem run_placesOf {P : Program} {T : TypeId → Option TI} (hT : TTab P T) : ∀ (fields : List Field) (pl : List (Nat × Nat)), placesOf T (fields.map fun f => (f.offset, f.type)) = some pl →
    fields.mapM (fun f => (P.info? f.type).map fun i => (f.offset, i.size)) = some pl
  | [], pl, h => by simpa [placesOf] using h
  | f :: fields, pl, h => by
    simp only [List.map_cons, placesOf] at h
    split at h
    · rename_i ti l h1 h2
      simp at h
      subst h
      obtain ⟨i, z, hi, hs, _⟩ := (hT _ _ h1).info
      simp [List.mapM_cons, hi, hs, run_placesOf hT fields l h2]
    · simp at h

theorem run_aBuild {P : Program} {T : TypeId → Option TI} (hT : TTab P T) {w : World} {E : Env} {t : TypeId} {ps : List (Nat × AV)} {qs : Array (Nat × Value)} {av : AV}
    (hp : Mp w E ps qs.toList) (h : aBuild T t ps = some av) : ∃ v, (Instr.build t qs).run P w = .ok v w ∧ M w E av v := by
  unfold aBuild at h
  split at h
  · rename_i ti hti
    obtain ⟨i, z, hi, hs, _, hz, hzc⟩ := (hT _ _ hti).info
    obtain ⟨d, hu, ho⟩ := (hT _ _ hti).und
    have hz0 : Ms w E (ti.zero.map .val) z.cells.toList := by rw [← hzc]; exact Ms_vals _
    split at h
    · rename_i n e hd
      split at h
      · rename_i eti heti
        simp only [Option.map_eq_some_iff] at h
        obtain ⟨out, hf, rfl⟩ := h
        obtain ⟨us, hu2, hm⟩ := run_aFill ps qs.toList _ _ out hp hz0 hf
        obtain ⟨ie, ze, hie, hse, _⟩ := (hT _ _ heti).info
        rw [hd] at ho
        cases d <;> simp [TD.of] at ho
        obtain ⟨rfl, rfl⟩ := ho
        exact ⟨.agg us, run_build w t qs us (by simp [Program.built, hi, hu, hz, hie, hse, hu2]), us.toList, by simp, hm⟩
      · simp at h
    · rename_i fs hd
      split at h
      · rename_i pl hpl
        simp only [Option.map_eq_some_iff] at h
        obtain ⟨out, hf, rfl⟩ := h
        obtain ⟨us, hu2, hm⟩ := run_aFill ps qs.toList _ _ out hp hz0 hf
        rw [hd] at ho
        cases d <;> simp [TD.of] at ho
        rename_i fields
        subst ho
        have := run_placesOf hT fields.toList pl hpl
        exact ⟨.agg us, run_build w t qs us (by simp only [Program.built, hi, hu, hz, this]; simpa using hu2), us.toList, by simp, hm⟩
      · simp at h
    · simp at h
  · simp at h

/-! Lengths -/

def aLen (ti : TI) (x : AV) : Option Int :=
  match ti.d, x with
  | .str, .val (.string s) => some s.size
  | .sl _, .sl _ _ n _ _ => some n
  | .sl _, .ds _ n _ => some n
  | .sl _, .val (.slice none 0 0) => some 0
  | .arr n _, _ => some n
  | _, _ => none

theorem run_aLen {P : Program} {t : TypeId} {ti : TI} (ht : TOk P t ti) {w : World} {E : Env} {x : AV} {v : Value} {n : Int} (hm : M w E x v) (hx : aLen ti x = some n) (ts : TypeId) :
    (Builtin.len_ #[t] ts #[v]).run P w = .ok (.int .i64 n) w := by
  obtain ⟨d, hu, ho⟩ := ht.und
  unfold aLen at hx
  split at hx <;> simp at hx <;> rename_i hd <;> rw [hd] at ho <;> cases d <;> simp [TD.of] at ho
  · simp only [M] at hm; subst hm; subst hx
    simp [Builtin.len_, run_underlying hu, goInt]
  · rcases hm with ⟨_, _, rfl, _, rfl⟩ | ⟨_, rfl, a, cap, rfl⟩ | ⟨g, cap, ty, sz, hg, rfl, _⟩ <;> subst hx <;> simp [Builtin.len_, run_underlying hu, goInt]
  · rcases hm with ⟨rfl, _, a, cap, rfl⟩ | ⟨g, off, cap, vs, rfl, _⟩ <;> subst hx <;> simp [Builtin.len_, run_underlying hu, goInt]
  · simp only [M] at hm; subst hm; subst hx
    simp [Builtin.len_, run_underlying hu, goInt]
  · obtain ⟨rfl, _⟩ := ho
    subst hx
    simp [Builtin.len_, run_underlying hu, goInt]

/-- Bytes as they lie in cells. -/
def bytesOf : List AV → Option (List UInt8)
  | [] => some []
  | .val (.int .u8 b) :: l => (bytesOf l).map (UInt8.ofNat b.toNat :: ·)
  | _ => none

theorem Ms_bytes {w : World} {E : Env} : ∀ {cs : List AV} {vs : List Value} {bs : List UInt8}, Ms w E cs vs → bytesOf cs = some bs → ∃ ns : List Int, vs = ns.map (.int .u8 ·) ∧ bs = ns.map fun n => UInt8.ofNat n.toNat
  | [], vs, bs, hm, h => by simp [Ms] at hm; simp [bytesOf] at h; exact ⟨[], by simp [hm], by simp [← h]⟩
  | x :: cs, vs, bs, hm, h => by
    obtain ⟨v, vs', rfl, h1, h2⟩ := Ms_cons.1 hm
    unfold bytesOf at h
    split at h
    · rename_i heq; simp at heq
    · rename_i b l heq
      simp at heq
      obtain ⟨rfl, rfl⟩ := heq
      simp only [Option.map_eq_some_iff] at h
      obtain ⟨bs', hb, rfl⟩ := h
      obtain ⟨ns, e1, e2⟩ := Ms_bytes h2 hb
      simp only [M] at h1
      subst h1
      exact ⟨b :: ns, by simp [e1], by simp [e2]⟩
    · simp at h

end Go.Proofs.YtgbpgplkhifgiaaDoor

/- What an operation that only computes comes to, as one function of the abstract state. No condition. -/
set_option linter.unusedVariables false
set_option linter.unusedSimpArgs false
namespace Go.Proofs.YtgbpgplkhifgiaaDoor
open Go Go.RowKit

def AV.known : AV → Option AV
  | .any => none
  | x => some x

def evs (σ : St) : List Operand → List AV
  | [] => []
  | x :: l => σ.ev x :: evs σ l

def allKnown : List AV → Bool
  | [] => true
  | .any :: _ => false
  | _ :: l => allKnown l

def evp (σ : St) : List (Nat × Operand) → List (Nat × AV)
  | [] => []
  | (i, x) :: l => (i, σ.ev x) :: evp σ l

def min2 (x y : AV) : Option AV :=
  match x, y with
  | .val (.int k a), .val (.int _ b) => some (.val (.int k (if b < a then b else a)))
  | _, _ => none

def max2 (x y : AV) : Option AV :=
  match x, y with
  | .val (.int k a), .val (.int _ b) => some (.val (.int k (if b > a then b else a)))
  | _, _ => none

def aBox (σ : St) (k : Nat) : Option (List AV) := blook k σ.bx

/-- A value that is computed without a step of memory. -/
def aval (T : TypeId → Option TI) (eqt : List TypeId) (σ : St) : Op → Option AV
  | .move x => (σ.ev x).known
  | .assign x => (σ.ev x).known
  | .pick c x y => match σ.ev c with
    | .val (.bool t) => match σ.ev x, σ.ev y with
      | .val (.bool p), .val (.bool q) => some (.val (.bool (if t then p else q)))
      | _, _ => if t then (σ.ev x).known else (σ.ev y).known
    | _ => none
  | .load t x => match T t with
    | some ti => match σ.ev x with
      | .ptr k off => match aBox σ k with
        | some cs => loadC ti cs off
        | none => none
      | .dp _ cs => loadC ti cs 0
      | _ => none
    | none => none
  | .nilCheck x => match σ.ev x with
    | .ptr k o => some (.ptr k o)
    | .dp b cs => some (.dp b cs)
    | .clo f cs => some (.clo f cs)
    | .yld c cs => some (.yld c cs)
    | .val (.pointer (some a)) => some (.val (.pointer (some a)))
    | .val (.func (.func f) x y) => some (.val (.func (.func f) x y))
    | _ => none
  | .binOp op t x y _ => match σ.ev x, σ.ev y with
    | .val u, .val v => match aBin op u v with
      | some r => some (.val r)
      | none => match op with
        | .eql => (aEql T eqt t (.val u) (.val v)).map fun r => .val (.bool r)
        | .neq => (aEql T eqt t (.val u) (.val v)).map fun r => .val (.bool (!r))
        | _ => none
    | a, b => match op with
      | .eql => (aEql T eqt t a b).map fun r => .val (.bool r)
      | .neq => (aEql T eqt t a b).map fun r => .val (.bool (!r))
      | _ => none
  | .unOp op _ x => match op, σ.ev x with
    | .not, .val (.bool b) => some (.val (.bool (!b)))
    | .neg, .val (.int k n) => some (.val (.int k (k.wrap (0 - n))))
    | .xor, .val (.int k n) => (binI .xor k (if k.signed then -1 else k.max) n).map .val
    | _, _ => none
  | .convert s d x => match T s, T d, σ.ev x with
    | some si, some di, .val (.int _ n) => match di.d with
      | .int k => some (.val (.int k (k.wrap n)))
      | _ => none
    | some si, some di, .val (.string s) => match di.d with
      | .str => some (.val (.string s))
      | _ => none
    | some si, some di, x => match si.d, di.d, x with
      | .sl e, .str, .sl k off n z _ => match T e, aBox σ k with
        | some ei, some cs => if ei.d = .int .u8 ∧ z = 1 ∧ off + n ≤ cs.length then (bytesOf ((cs.drop off).take n)).map fun bs => .val (.string ⟨bs.toArray⟩) else none
        | _, _ => none
      | .sl e, .str, .ds _ n cs => match T e with
        | some ei => if ei.d = .int .u8 ∧ n ≤ cs.length then (bytesOf (cs.take n)).map fun bs => .val (.string ⟨bs.toArray⟩) else none
        | _ => none
      | _, _, _ => none
    | _, _, _ => none
  | .sliceToArrayPointer t x => match T t with
    | some ti => match ti.d, σ.ev x with
      | .arr n _, .sl k off m _ _ => if 0 < n ∧ n ≤ m then some (.ptr k off) else none
      | .arr n _, .ds b m cs => if 0 < n ∧ n ≤ m then some (.dp b cs) else none
      | _, _ => none
    | none => none
  | .makeInterface t x => match T t with
    | some ti => if ti.d = .ifc ∨ ti.d = .oth then none else (σ.ev x).known.map fun x => .ifc t x
    | none => none
  | .makeFunc (.func f) first caps => if first.size = 0 ∧ allKnown (evs σ caps.toList) = true then some (.clo f (evs σ caps.toList)) else none
  | .build t ps => aBuild T t (evp σ ps.toList)
  | .slice t x lo hi mx => match T t with
    | some ti => match ti.d.elem with
      | some e => match T e with
        | some eti => aSlice ti eti (fun k => blook k σ.bx) (σ.ev x) (lo.map σ.ev) (hi.map σ.ev) (mx.map σ.ev)
        | none => none
      | none => match ti.d, σ.ev x, lo.map σ.ev, hi.map σ.ev, mx with
        | .str, .val (.string s), l, h, none => match aBound h s.size, aBound l 0 with
          | some h, some l => if l ≤ h ∧ h ≤ s.size then some (.val (.string (s.extract l h))) else none
          | _, _ => none
        | _, _, _, _, _ => none
    | none => none
  | .fieldAddr t x i => match T t with
    | some ti => match ti.d with
      | .st fs => match fs[i]? with
        | some (off, ft) => match T ft with
          | some fti => aField (σ.ev x) fti off
          | none => none
        | none => none
      | _ => none
    | none => none
  | .field t x i => match T t with
    | some ti => match ti.d with
      | .st fs => match fs[i]? with
        | some (off, ft) => match T ft, σ.ev x with
          | some fti, .agg cs => loadC fti cs off
          | _, _ => none
        | none => none
      | _ => none
    | none => none
  | .indexAddr t x i => match T t with
    | some ti => match ti.d.elem with
      | some e => match T e, σ.ev i with
        | some eti, .val (.int _ i) => aIndex ti eti (σ.ev x) i
        | _, _ => none
      | none => none
    | none => none
  | .index t x i => match T t with
    | some ti => match ti.d, σ.ev x, σ.ev i with
      | .arr n e, .agg cs, .val (.int _ i) => match T e with
        | some eti => if 0 ≤ i ∧ i < n then loadC eti cs (i.toNat * eti.size) else none
        | none => none
      | .str, .val (.string s), .val (.int _ i) => if 0 ≤ i then (s.data.toList[i.toNat]?).map fun b => .val (.int .u8 b.toNat) else none
      | _, _, _ => none
    | none => none
  | .extract x i => match σ.ev x with
    | .tup cs => cs[i]?.bind AV.known
    | _ => none
  | .typeAssert x xt t ok => match T t with
    | some ti => if ti.d = .ifc ∨ ti.d = .oth then none else match σ.ev x with
      | .ifc u y => if u = t then (if ok then some (.tup [y, .val (.bool true)]) else y.known) else if ok then some (.tup [.any, .val (.bool false)]) else none
      | .val (.iface u y) => if u = t then (if ok then some (.tup [cav y, .val (.bool true)]) else some (cav y)) else if ok then some (.tup [.any, .val (.bool false)]) else none
      | .val .nilIface => if ok then some (.tup [.any, .val (.bool false)]) else none
      | _ => none
    | none => none
  | .call c => match c.callee with
    | .builtin .len => match c.args.toList, c.argTypes.toList with
      | [x], [t] => match T t with
        | some ti => (aLen ti (σ.ev x)).map fun n => .val (.int .i64 n)
        | none => none
      | _, _ => none
    | .builtin .min => match evs σ c.args.toList with
      | x :: rest => rest.foldlM min2 x
      | [] => none
    | .builtin .max => match evs σ c.args.toList with
      | x :: rest => rest.foldlM max2 x
      | [] => none
    | _ => none
  | _ => none

structure Tab (P : Program) (T : TypeId → Option TI) (eqt : List TypeId) : Prop where
  t : TTab P T
  e : ∀ t, eqt.contains t = true → P.eqGuardType P.depth t = false ∧ (∀ fs, P.underlying t = some (.struct fs) → EqOk P t)

theorem known_eq {x y : AV} (h : x.known = some y) : x = y := by
  cases x <;> simp [AV.known] at h <;> exact h

theorem Ms_evs {X : Nat → Prop} {w0 : World} {E : Env} {σ : St} {a : Act} {w : World} (h : Sim X w0 E σ a w) : ∀ (l : List Operand), Ms w E (evs σ l) (l.map a.eval)
  | [] => by simp [evs, Ms]
  | x :: l => Ms_cons.2 ⟨_, _, rfl, h.ev x, Ms_evs h l⟩

theorem Mp_evp {X : Nat → Prop} {w0 : World} {E : Env} {σ : St} {a : Act} {w : World} (h : Sim X w0 E σ a w) : ∀ (l : List (Nat × Operand)), Mp w E (evp σ l) (l.map fun (i, x) => (i, a.eval x))
  | [] => by simp [evp, Mp]
  | (i, x) :: l => ⟨rfl, h.ev x, Mp_evp h l⟩

theorem Mo_map {X : Nat → Prop} {w0 : World} {E : Env} {σ : St} {a : Act} {w : World} (h : Sim X w0 E σ a w) : ∀ (l : Option Operand), Mo w E (l.map σ.ev) (l.map a.eval)
  | none => trivial
  | some x => h.ev x

theorem run_minmax {P : Program} {w : World} {E : Env} : ∀ (xs : List AV) (vs : List Value) (x r : AV) (v : Value), Ms w E xs vs → M w E x v →
    (xs.foldlM min2 x = some r → ∃ u, (vs.foldlM Builtin.min2 v).run P w = .ok u w ∧ M w E r u) ∧ (xs.foldlM max2 x = some r → ∃ u, (vs.foldlM Builtin.max2 v).run P w = .ok u w ∧ M w E r u)
  | [], vs, x, r, v, hm, hx => by
    simp [Ms] at hm
    subst hm
    constructor <;> (intro h; simp at h; subst h; exact ⟨v, by simp, hx⟩)
  | y :: xs, vs, x, r, v, hm, hx => by
    obtain ⟨u, vs', rfl, h1, h2⟩ := Ms_cons.1 hm
    constructor
    · intro h
      simp only [List.foldlM_cons, Option.bind_eq_bind, Option.bind_eq_some_iff] at h
      obtain ⟨z, hz, hr⟩ := h
      unfold min2 at hz
      split at hz <;> simp at hz
      simp only [M] at hx h1
      subst hz; subst hx; subst h1
      obtain ⟨u2, e1, e2⟩ := (run_minmax (P := P) xs vs' _ r _ h2 (show M w E (.val _) _ from rfl)).1 hr
      exact ⟨u2, by simp [List.foldlM_cons, Builtin.min2, e1], e2⟩
    · intro h
      simp only [List.foldlM_cons, Option.bind_eq_bind, Option.bind_eq_some_iff] at h
      obtain ⟨z, hz, hr⟩ := h
      unfold max2 at hz
      split at hz <;> simp at hz
      simp only [M] at hx h1
      subst hz; subst hx; subst h1
      obtain ⟨u2, e1, e2⟩ := (run_minmax (P := P) xs vs' _ r _ h2 (show M w E (.val _) _ from rfl)).2 hr
      exact ⟨u2, by simp [List.foldlM_cons, Builtin.max2, e1], e2⟩

end Go.Proofs.YtgbpgplkhifgiaaDoor

/- The operations that only compute do what the abstract state says. No condition. -/
set_option linter.unusedVariables false
set_option linter.unusedSimpArgs false
namespace Go.Proofs.YtgbpgplkhifgiaaDoor
open Go Go.RowKit

section
variable {P : Program} {T : TypeId → Option TI} {eqt : List TypeId} {X : Nat → Prop} {w0 : World} {E : Env} {σ : St} {a : Act} {w : World}

def Gives (P : Program) (w : World) (E : Env) (s : Sem Next) (x : AV) : Prop := ∃ v, s.run P w = .ok (.value v) w ∧ M w E x v

theorem gives_of {s : Sem Value} {x : AV} (h : ∃ v, s.run P w = .ok v w ∧ M w E x v) : Gives P w E (do pure (.value (← s))) x := by
  obtain ⟨v, hr, hm⟩ := h
  exact ⟨v, by simp [hr], hm⟩

theorem ptr_cells (h : Sim X w0 E σ a w) {k off : Nat} {cs : List AV} (hk : aBox σ k = some cs) {v : Value} (hm : M w E (.ptr k off) v) (hne : cs ≠ []) :
    ∃ g vs, v = .pointer (some ⟨g, off, none⟩) ∧ cellsAt w g 0 vs ∧ Ms w E cs vs := by
  obtain ⟨g, hg, rfl⟩ := hm
  rcases h.bx k cs hk with ⟨_, rfl⟩ | ⟨g', c, ty, vs, hg', hw, hl, hc, hms⟩
  · exact absurd rfl hne
  · obtain rfl : g = g' := by rw [hg] at hg'; simpa using hg'
    exact ⟨g, vs, rfl, ⟨c, ty, _, hw, fun i hi => by simpa using hc i hi⟩, hms⟩

theorem loadC_ne {ti : TI} {cs : List AV} {off : Nat} {x : AV} (h : loadC ti cs off = some x) (hs : ti.d.isAgg = true → 0 < ti.size) : cs ≠ [] := by
  rintro rfl
  unfold loadC at h
  split at h
  · rename_i ha
    have := hs ha
    split at h
    · simp at *; omega
    · simp at h
  · simp at h

theorem aval_pick (h : Sim X w0 E σ a w) {c x y : Operand} {r : AV} (hv : aval T eqt σ (.pick c x y) = some r) (o : Oper) (ho : o.op = .pick c x y) : Gives P w E (execOp a.eval o) r := by
  have hc := h.ev c
  have hx := h.ev x
  have hy := h.ev y
  simp only [aval] at hv
  simp only [execOp, ho]

  split at hv
  · rename_i t e1
    rw [e1] at hc
    simp only [M] at hc
    split at hv
    · rename_i p q e2 e3
      rw [e2] at hx; rw [e3] at hy
      simp only [M] at hx hy
      simp at hv
      subst hv
      exact ⟨_, by simp [hc, asBool, hx, hy]; rfl, by cases t <;> simp [M, hx, hy]⟩
    · split at hv
      · rename_i ht
        have := known_eq hv; subst this
        exact ⟨a.eval x, by simp [hc, asBool, ht], hx⟩
      · rename_i ht
        have := known_eq hv; subst this
        exact ⟨a.eval y, by simp [hc, asBool, ht], hy⟩
  · simp at hv

theorem aval_load (hT : Tab P T eqt) (h : Sim X w0 E σ a w) {t : TypeId} {x : Operand} {r : AV} (hv : aval T eqt σ (.load t x) = some r) (o : Oper) (ho : o.op = .load t x) : Gives P w E (execOp a.eval o) r := by
  have hx := h.ev x
  simp only [aval] at hv
  simp only [execOp, ho]

  split at hv
  · rename_i ti hti
    have ht := hT.t _ _ hti
    split at hv
    · rename_i k off e1
      rw [e1] at hx
      split at hv
      · rename_i cs hk
        obtain ⟨g, hg, hp⟩ := hx
        rcases h.bx k cs hk with ⟨_, rfl⟩ | ⟨g', c, ty, vs, hg', hw, hl, hc, hms⟩
        · -- a phantom holds no cell: only a load of no cells could be meant
          unfold loadC at hv
          split at hv
          · split at hv
            · rename_i hag hle
              simp at hv hle
              subst hv
              obtain ⟨h1, h2⟩ := hle
              refine gives_of ⟨.agg #[], ?_, [], rfl, rfl⟩
              simp only [hp, Instr.loadAt, Instr.sureAddr, loadVar, Sem.run_bind, Sem.run_pure, Result.andThen_ok, ht.run_agg, hag, if_true, ht.run_size, h2]
              simp [loadCells, loadCellsFrom]
            · simp at hv
          · simp at hv
        · obtain rfl : g = g' := by rw [hg] at hg'; simpa using hg'
          have hcl : cellsAt w g 0 vs := ⟨c, ty, _, hw, fun i hi => by simpa using hc i hi⟩
          obtain ⟨v, hr, hm⟩ := run_loadC ht hcl hms hv
          refine gives_of ⟨v, ?_, hm⟩
          simp only [hp, Instr.loadAt, Instr.sureAddr, Sem.run_bind, Sem.run_pure, Result.andThen_ok]
          simpa using hr
      · simp at hv
    · rename_i b cs e1
      rw [e1] at hx
      obtain ⟨g, off, vs, hp, hok, hcl, hms⟩ := hx
      obtain ⟨v, hr, hm⟩ := run_loadC ht hcl hms hv
      refine gives_of ⟨v, ?_, hm⟩
      simp only [hp, Instr.loadAt, Instr.sureAddr, Sem.run_bind, Sem.run_pure, Result.andThen_ok]
      simpa using hr
    · simp at hv
  · simp at hv

theorem aval_nil (h : Sim X w0 E σ a w) {x : Operand} {r : AV} (hv : aval T eqt σ (.nilCheck x) = some r) (o : Oper) (ho : o.op = .nilCheck x) : Gives P w E (execOp a.eval o) r := by
  have hx := h.ev x
  simp only [aval] at hv
  simp only [execOp, ho]

  split at hv <;> simp at hv <;> rename_i e1 <;> rw [e1] at hx <;> subst hv
  · obtain ⟨g, hg, hp⟩ := hx
    exact ⟨_, by simp [hp], g, hg, rfl⟩
  · obtain ⟨g, off, vs, hp, hok, hcl, hms⟩ := hx
    exact ⟨_, by simp [hp], g, off, vs, rfl, hok, hcl, hms⟩
  · obtain ⟨vs, hp, hms⟩ := hx
    exact ⟨_, by simp [hp], vs, rfl, hms⟩
  · obtain ⟨l, r, hp, hms⟩ := hx
    exact ⟨_, by simp [hp], l, r, rfl, hms⟩
  · simp only [M] at hx
    exact ⟨_, by simp [hx], rfl⟩
  · simp only [M] at hx
    exact ⟨_, by simp [hx], rfl⟩

theorem aval_bin (hT : Tab P T eqt) (h : Sim X w0 E σ a w) {op : BinOp} {t ty : TypeId} {x y : Operand} {r : AV} (hv : aval T eqt σ (.binOp op t x y ty) = some r) (o : Oper) (ho : o.op = .binOp op t x y ty) : Gives P w E (execOp a.eval o) r := by
  have hx := h.ev x
  have hy := h.ev y
  simp only [execOp, ho]

  have eqcase : ∀ r, (match op with
      | .eql => (aEql T eqt t (σ.ev x) (σ.ev y)).map fun r => AV.val (.bool r)
      | .neq => (aEql T eqt t (σ.ev x) (σ.ev y)).map fun r => AV.val (.bool (!r))
      | _ => none) = some r → ∃ v, (do eqGuard op t x y (a.eval x) (a.eval y); binOp op t (a.eval x) (a.eval y)).run P w = .ok v w ∧ M w E r v := by
    intro r hr
    cases op <;> simp only [Option.map_eq_some_iff, reduceCtorEq] at hr
    · obtain ⟨b, hb, rfl⟩ := hr
      exact ⟨_, (run_aEql hT.t hT.e hx hy hb x y).1, rfl⟩
    · obtain ⟨b, hb, rfl⟩ := hr
      exact ⟨_, (run_aEql hT.t hT.e hx hy hb x y).2, rfl⟩
  refine gives_of ?_
  simp only [aval] at hv
  split at hv
  · rename_i u v e1 e2
    split at hv
    · rename_i q hq
      simp at hv
      subst hv
      have hx' := hx; have hy' := hy
      rw [e1] at hx'; rw [e2] at hy'
      simp only [M] at hx' hy'
      exact ⟨q, by rw [hx', hy']; exact run_bin hq x y, rfl⟩
    · rw [e1, e2] at eqcase
      exact eqcase r hv
  · exact eqcase r hv

theorem aval_un (h : Sim X w0 E σ a w) {op : UnOp} {t : TypeId} {x : Operand} {r : AV} (hv : aval T eqt σ (.unOp op t x) = some r) (o : Oper) (ho : o.op = .unOp op t x) : Gives P w E (execOp a.eval o) r := by
  have hx := h.ev x
  simp only [aval] at hv
  simp only [execOp, ho]

  split at hv
  · rename_i b e1
    simp at hv
    rw [e1] at hx
    simp only [M] at hx
    subst hv
    exact ⟨_, by simp [hx, Op.unary], rfl⟩
  · rename_i k n e1
    simp at hv
    rw [e1] at hx
    simp only [M] at hx
    subst hv
    exact ⟨_, by simp [hx, Op.unary, Op.intArith]; rfl, by simp [M]⟩
  · rename_i k n e1
    simp [binI] at hv
    rw [e1] at hx
    simp only [M] at hx
    subst hv
    exact ⟨_, by simp [hx, Op.unary, Op.intBits]; rfl, by simp [M]⟩
  · simp at hv

theorem bytes_run (hT : Tab P T eqt) {s d e : TypeId} {si di ei : TI} (hs : T s = some si) (hd : T d = some di) (he : T e = some ei) (h1 : si.d = .sl e) (h2 : di.d = .str) (h3 : ei.d = .int .u8)
    {g off n cap : Nat} {vs : List Value} {cs : List AV} {bs : List UInt8} (hcl : cellsAt w g off vs) (hm : Ms w E cs vs) (hl : cs.length = n) (hb : bytesOf cs = some bs) :
    (convert s d (.slice (some ⟨g, off, none⟩) n cap)).run P w = .ok (.string ⟨bs.toArray⟩) w := by
  obtain ⟨d1, hu1, ho1⟩ := (hT.t _ _ hs).und
  obtain ⟨d2, hu2, ho2⟩ := (hT.t _ _ hd).und
  obtain ⟨d3, hu3, ho3⟩ := (hT.t _ _ he).und
  rw [h1] at ho1; rw [h2] at ho2; rw [h3] at ho3
  cases d1 <;> simp [TD.of] at ho1
  cases d2 <;> simp [TD.of] at ho2
  cases d3 <;> simp [TD.of] at ho3
  subst ho1; subst ho3
  obtain ⟨ns, rfl, rfl⟩ := Ms_bytes hm hb
  have hlen : ns.length = n := by have := hm.len; simp at this; omega
  have := run_convert_bytes_arg (P := P) w s _ hu1 hu3 g off n cap ns hlen (fun i hi => by
    refine hcl.cell ?_
    have : i < ns.length := by omega
    simp [List.getElem?_eq_getElem this]) d hu2
  rw [this]
  rfl

theorem aval_conv (hT : Tab P T eqt) (h : Sim X w0 E σ a w) {s d : TypeId} {x : Operand} {r : AV} (hv : aval T eqt σ (.convert s d x) = some r) (o : Oper) (ho : o.op = .convert s d x) : Gives P w E (execOp a.eval o) r := by
  have hx := h.ev x
  simp only [aval] at hv
  simp only [execOp, ho]
  refine gives_of ?_
  split at hv
  · rename_i si di k n hs hd e1
    rw [e1] at hx
    simp only [M] at hx
    obtain ⟨d1, hu1, ho1⟩ := (hT.t _ _ hs).und
    obtain ⟨d2, hu2, ho2⟩ := (hT.t _ _ hd).und
    split at hv
    · rename_i k' hk
      simp at hv
      subst hv
      rw [hk] at ho2
      cases d2 <;> simp [TD.of] at ho2
      subst ho2
      exact ⟨_, by simp [hx, convert, run_underlying hu1, run_underlying hu2, Conv.intToInt], rfl⟩
    · simp at hv
  · rename_i si di s' hs hd e1
    rw [e1] at hx
    simp only [M] at hx
    obtain ⟨d1, hu1, ho1⟩ := (hT.t _ _ hs).und
    obtain ⟨d2, hu2, ho2⟩ := (hT.t _ _ hd).und
    split at hv
    · rename_i hk
      simp at hv
      subst hv
      rw [hk] at ho2
      cases d2 <;> simp [TD.of] at ho2
      exact ⟨.string s', by simp [hx, convert, run_underlying hu1, run_underlying hu2], rfl⟩
    · simp at hv
  · rename_i si di x' hs hd e1 e2
    split at hv
    · rename_i e k off n z gr h1 h2 e3
      split at hv
      · rename_i ei cs he hk
        split at hv
        · rename_i hc
          obtain ⟨h3, rfl, hle⟩ := hc
          simp only [Option.map_eq_some_iff] at hv
          obtain ⟨bs, hb, rfl⟩ := hv
          rw [e3] at hx
          have nilcase : n = 0 → ∀ a0 cap, a.eval x = .slice a0 0 cap → ∃ v, (convert s d (a.eval x)).run P w = .ok v w ∧ M w E (.val (.string ⟨bs.toArray⟩)) v := by
            intro hn a0 cap hv
            subst hn
            simp [bytesOf] at hb
            subst hb
            obtain ⟨d1, hu1, ho1⟩ := (hT.t _ _ hs).und
            obtain ⟨d2, hu2, ho2⟩ := (hT.t _ _ hd).und
            obtain ⟨d3, hu3, ho3⟩ := (hT.t _ _ he).und
            rw [h1] at ho1; rw [h2] at ho2; rw [h3] at ho3
            cases d1 <;> simp [TD.of] at ho1
            cases d2 <;> simp [TD.of] at ho2
            cases d3 <;> simp [TD.of] at ho3
            subst ho1; subst ho3
            refine ⟨.string .empty, ?_, rfl⟩
            rw [hv]
            cases a0 with
            | none => exact run_convert_bytes_nil (P := P) w s _ hu1 hu3 0 cap d hu2
            | some ad => simp [convert, run_underlying hu1, run_underlying hu2, run_underlying hu3, Conv.bytesToString, loadCells, loadCellsFrom]
          rcases hx with ⟨_, _, hn, _, hv⟩ | ⟨_, hn, a0, cap, hv⟩ | ⟨g, cap, ty0, sz, hg, hv, _⟩
          · exact nilcase hn none 0 hv
          · exact nilcase hn a0 cap hv
          · rcases h.bx k cs hk with ⟨_, rfl⟩ | ⟨g', c, ty, vs, hg', hw, hl, hcc, hms⟩
            · simp at hle
              obtain ⟨rfl, rfl⟩ := hle
              exact nilcase rfl _ cap hv
            · obtain rfl : g = g' := by rw [hg] at hg'; simpa using hg'
              have hcl : cellsAt w g 0 vs := ⟨c, ty, _, hw, fun i hi => by simpa using hcc i hi⟩
              refine ⟨_, ?_, rfl⟩
              rw [hv]
              have h1' := (hcl.drop off).take n
              simp only [Nat.zero_add] at h1'
              exact bytes_run hT hs hd he h1 h2 h3 h1' ((hms.drop off).take n) (by simp; omega) hb
        · simp at hv
      · simp at hv
    · rename_i e b n cs h1 h2 e3
      split at hv
      · rename_i ei he
        split at hv
        · rename_i hc
          obtain ⟨h3, hle⟩ := hc
          simp only [Option.map_eq_some_iff] at hv
          obtain ⟨bs, hb, rfl⟩ := hv
          rw [e3] at hx
          rcases hx with ⟨rfl, rfl, a0, cap, hv⟩ | ⟨g, off, cap, vs, hv, hcap, hok, hcl, hms⟩
          · simp [bytesOf] at hb
            subst hb
            obtain ⟨d1, hu1, ho1⟩ := (hT.t _ _ hs).und
            obtain ⟨d2, hu2, ho2⟩ := (hT.t _ _ hd).und
            obtain ⟨d3, hu3, ho3⟩ := (hT.t _ _ he).und
            rw [h1] at ho1; rw [h2] at ho2; rw [h3] at ho3
            cases d1 <;> simp [TD.of] at ho1
            cases d2 <;> simp [TD.of] at ho2
            cases d3 <;> simp [TD.of] at ho3
            subst ho1; subst ho3
            refine ⟨.string .empty, ?_, rfl⟩
            rw [hv]
            cases a0 with
            | none => exact run_convert_bytes_nil (P := P) w s _ hu1 hu3 0 cap d hu2
            | some ad => simp [convert, run_underlying hu1, run_underlying hu2, run_underlying hu3, Conv.bytesToString, loadCells, loadCellsFrom]
          · refine ⟨_, ?_, rfl⟩
            rw [hv]
            exact bytes_run hT hs hd he h1 h2 h3 (hcl.take n) (hms.take n) (by simp; omega) hb
        · simp at hv
      · simp at hv
    · simp at hv
  · simp at hv

theorem aval_s2a (hT : Tab P T eqt) (h : Sim X w0 E σ a w) {t : TypeId} {x : Operand} {r : AV} (hv : aval T eqt σ (.sliceToArrayPointer t x) = some r) (o : Oper) (ho : o.op = .sliceToArrayPointer t x) : Gives P w E (execOp a.eval o) r := by
  have hx := h.ev x
  simp only [aval] at hv
  simp only [execOp, ho]
  refine gives_of ?_
  split at hv
  · rename_i ti hti
    obtain ⟨d, hu, hod⟩ := (hT.t _ _ hti).und
    split at hv
    · rename_i n e k off m z gr hd e1
      rw [e1] at hx
      rw [hd] at hod
      cases d <;> simp [TD.of] at hod
      obtain ⟨rfl, rfl⟩ := hod
      split at hv
      · rename_i hc
        simp at hv
        subst hv
        rcases hx with ⟨_, _, rfl, _⟩ | ⟨_, rfl, _⟩ | ⟨g, cap, ty0, sz, hg, hv, _⟩
        · omega
        · omega
        · refine ⟨_, ?_, g, hg, rfl⟩
          rw [hv]
          simp [Instr.arrayAt, run_underlying hu, show ¬ m < _ from Nat.not_lt.2 hc.2]
      · simp at hv
    · rename_i n e b m cs hd e1
      rw [e1] at hx
      rw [hd] at hod
      cases d <;> simp [TD.of] at hod
      obtain ⟨rfl, rfl⟩ := hod
      split at hv
      · rename_i hc
        simp at hv
        subst hv
        rcases hx with ⟨rfl, _⟩ | ⟨g, off, cap, vs, hv, hcap, hok, hcl, hms⟩
        · omega
        · refine ⟨_, ?_, g, off, vs, rfl, hok, hcl, hms⟩
          rw [hv]
          simp [Instr.arrayAt, run_underlying hu, show ¬ m < _ from Nat.not_lt.2 hc.2]
      · simp at hv
    · simp at hv
  · simp at hv

theorem aval_mi (hT : Tab P T eqt) (h : Sim X w0 E σ a w) {t : TypeId} {x : Operand} {r : AV} (hv : aval T eqt σ (.makeInterface t x) = some r) (o : Oper) (ho : o.op = .makeInterface t x) : Gives P w E (execOp a.eval o) r := by
  have hx := h.ev x
  simp only [aval] at hv
  simp only [execOp, ho]
  refine gives_of ?_
  split at hv
  · rename_i ti hti
    obtain ⟨d, hu, hod⟩ := (hT.t _ _ hti).und
    split at hv
    · simp at hv
    · rename_i hn
      simp only [Option.map_eq_some_iff] at hv
      obtain ⟨y, hy, rfl⟩ := hv
      have := known_eq hy; subst this
      refine ⟨.iface t (a.eval x), ?_, _, rfl, hx⟩
      simp only [Instr.makeInterface, Sem.run_bind, run_underlying hu, Result.andThen_ok]
      cases d <;> first | rfl | (simp [TD.of] at hod; simp [← hod] at hn)
  · simp at hv

theorem aval_mf (h : Sim X w0 E σ a w) {f : FuncId} {first caps : Array Operand} {r : AV} (hv : aval T eqt σ (.makeFunc (.func f) first caps) = some r) (o : Oper) (ho : o.op = .makeFunc (.func f) first caps) : Gives P w E (execOp a.eval o) r := by
  simp only [aval] at hv
  simp only [execOp, ho]
  split at hv
  · rename_i hc
    simp at hv
    subst hv
    obtain ⟨h1, h2⟩ := hc
    have : first = #[] := Array.eq_empty_of_size_eq_zero h1
    subst this
    refine gives_of ⟨.func (.func f) #[] ⟨caps.toList.map a.eval⟩, ?_, _, rfl, Ms_evs h caps.toList⟩
    have e : caps.map a.eval = ⟨caps.toList.map a.eval⟩ := Array.ext' (by simp)
    simp [Instr.makeFunc, e]
  · simp at hv

theorem aval_build (hT : Tab P T eqt) (h : Sim X w0 E σ a w) {t : TypeId} {ps : Array (Nat × Operand)} {r : AV} (hv : aval T eqt σ (.build t ps) = some r) (o : Oper) (ho : o.op = .build t ps) : Gives P w E (execOp a.eval o) r := by
  simp only [aval] at hv
  simp only [execOp, ho]
  refine gives_of (run_aBuild hT.t ?_ hv)
  simpa using Mp_evp h ps.toList

theorem aval_slice (hT : Tab P T eqt) (h : Sim X w0 E σ a w) {t : TypeId} {x : Operand} {lo hi mx : Option Operand} {r : AV} (hv : aval T eqt σ (.slice t x lo hi mx) = some r) (o : Oper) (ho : o.op = .slice t x lo hi mx) : Gives P w E (execOp a.eval o) r := by
  have hx := h.ev x
  simp only [aval] at hv
  simp only [execOp, ho]
  refine gives_of ?_
  split at hv
  · rename_i ti hti
    split at hv
    · rename_i e hd
      split at hv
      · rename_i eti he
        exact run_slice (hT.t _ _ hti) (hT.t _ _ he) hd (bx := fun k => blook k σ.bx) (fun k cs hk => h.bx k cs hk) hx (Mo_map h lo) (Mo_map h hi) (Mo_map h mx) hv
      · simp at hv
    · rename_i hel
      cases mx with
      | some m =>
        split at hv
        · rename_i e2; simp at e2
        · simp at hv
      | none =>
        split at hv
        · rename_i s hd e1 _
          split at hv
          · rename_i hh ll eh el
            split at hv
            · rename_i hc
              simp at hv
              subst hv
              rw [e1] at hx
              simp only [M] at hx
              obtain ⟨d, hu, hod⟩ := (hT.t _ _ hti).und
              rw [hd] at hod
              cases d <;> simp [TD.of] at hod
              obtain ⟨m', hb, hm1, hm2⟩ := run_bounds (P := P) (b := false) (cap := s.size) (mx := none) (vmx := none) (Mo_map h lo) (Mo_map h hi) trivial el eh rfl hc.1 hc.2 (Nat.le_refl _) (by simp) (Nat.le_refl _)
              refine ⟨_, ?_, rfl⟩
              rw [hx]
              simp [Instr.sliceAt, Instr.slice, run_underlying hu, hb]
            · simp at hv
          · simp at hv
        · simp at hv
  · simp at hv

theorem aval_fa (hT : Tab P T eqt) (h : Sim X w0 E σ a w) {t : TypeId} {x : Operand} {i : Nat} {r : AV} (hv : aval T eqt σ (.fieldAddr t x i) = some r) (o : Oper) (ho : o.op = .fieldAddr t x i) : Gives P w E (execOp a.eval o) r := by
  have hx := h.ev x
  simp only [aval] at hv
  simp only [execOp, ho]
  refine gives_of ?_
  split at hv
  · rename_i ti hti
    split at hv
    · rename_i fs hd
      split at hv
      · rename_i off ft hf
        split at hv
        · rename_i fti hft
          exact run_field (hT.t _ _ hti) (hT.t _ _ hft) hd hf hx hv
        · simp at hv
      · simp at hv
    · simp at hv
  · simp at hv

theorem aval_f (hT : Tab P T eqt) (h : Sim X w0 E σ a w) {t : TypeId} {x : Operand} {i : Nat} {r : AV} (hv : aval T eqt σ (.field t x i) = some r) (o : Oper) (ho : o.op = .field t x i) : Gives P w E (execOp a.eval o) r := by
  have hx := h.ev x
  simp only [aval] at hv
  simp only [execOp, ho]
  refine gives_of ?_
  split at hv
  · rename_i ti hti
    split at hv
    · rename_i fs hd
      split at hv
      · rename_i off ft hf
        split at hv
        · rename_i fti cs hft e1
          rw [e1] at hx
          exact run_fieldV (hT.t _ _ hti) (hT.t _ _ hft) hd hf hx hv
        · simp at hv
      · simp at hv
    · simp at hv
  · simp at hv

theorem aval_ia (hT : Tab P T eqt) (h : Sim X w0 E σ a w) {t : TypeId} {x i : Operand} {r : AV} (hv : aval T eqt σ (.indexAddr t x i) = some r) (o : Oper) (ho : o.op = .indexAddr t x i) : Gives P w E (execOp a.eval o) r := by
  have hx := h.ev x
  have hi := h.ev i
  simp only [aval] at hv
  simp only [execOp, ho]
  refine gives_of ?_
  split at hv
  · rename_i ti hti
    split at hv
    · rename_i e hd
      split at hv
      · rename_i eti k n he e1
        rw [e1] at hi
        simp only [M] at hi
        rw [hi]
        exact run_index (hT.t _ _ hti) (hT.t _ _ he) hd hx hv
      · simp at hv
    · simp at hv
  · simp at hv

theorem aval_i (hT : Tab P T eqt) (h : Sim X w0 E σ a w) {t : TypeId} {x i : Operand} {r : AV} (hv : aval T eqt σ (.index t x i) = some r) (o : Oper) (ho : o.op = .index t x i) : Gives P w E (execOp a.eval o) r := by
  have hx := h.ev x
  have hi := h.ev i
  simp only [aval] at hv
  simp only [execOp, ho]
  refine gives_of ?_
  split at hv
  · rename_i ti hti
    split at hv
    · rename_i n e cs k j hd e1 e2
      rw [e1] at hx; rw [e2] at hi
      simp only [M] at hi
      rw [hi]
      split at hv
      · rename_i eti he
        split at hv
        · rename_i hc
          exact run_indexV (hT.t _ _ hti) (hT.t _ _ he) hd hx hc hv
        · simp at hv
      · simp at hv
    · rename_i s k j hd e1 e2
      rw [e1] at hx; rw [e2] at hi
      simp only [M] at hi hx
      rw [hi, hx]
      split at hv
      · rename_i h0
        simp only [Option.map_eq_some_iff] at hv
        obtain ⟨b, hb, rfl⟩ := hv
        exact ⟨_, run_indexS (hT.t _ _ hti) hd h0 hb, rfl⟩
      · simp at hv
    · simp at hv
  · simp at hv

theorem aval_ex (h : Sim X w0 E σ a w) {x : Operand} {i : Nat} {r : AV} (hv : aval T eqt σ (.extract x i) = some r) (o : Oper) (ho : o.op = .extract x i) : Gives P w E (execOp a.eval o) r := by
  have hx := h.ev x
  simp only [aval] at hv
  simp only [execOp, ho]
  refine gives_of ?_
  split at hv
  · rename_i cs e1
    rw [e1] at hx
    obtain ⟨vs, hp, hms⟩ := hx
    simp only [Option.bind_eq_some_iff] at hv
    obtain ⟨y, hy, hk⟩ := hv
    have := known_eq hk; subst this
    obtain ⟨v, hv', hmv⟩ := hms.get hy
    exact ⟨v, by rw [hp]; simp [Instr.extract, hv'], hmv⟩
  · simp at hv

theorem aval_ta (hT : Tab P T eqt) (h : Sim X w0 E σ a w) {x : Operand} {xt t : TypeId} {ok : Bool} {r : AV} (hv : aval T eqt σ (.typeAssert x xt t ok) = some r) (o : Oper) (ho : o.op = .typeAssert x xt t ok) : Gives P w E (execOp a.eval o) r := by
  have hx := h.ev x
  simp only [aval] at hv
  simp only [execOp, ho]
  refine gives_of ?_
  split at hv
  · rename_i ti hti
    obtain ⟨d, hu, hod⟩ := (hT.t _ _ hti).und
    obtain ⟨z, hz, _⟩ := (hT.t _ _ hti).run_zero (P := P) w
    split at hv
    · simp at hv
    · rename_i hn
      have hni : ∀ ms, d ≠ .interface ms := by
        intro ms hd
        subst hd
        simp [TD.of] at hod
        simp [← hod] at hn
      have conc : ∀ v, a.eval x = v → ∀ (u : TypeId) (y : Value), v = .iface u y → (Instr.typeAssert (a.eval x) xt t ok).run P w = (if u = t then .ok (if ok then .tuple #[y, .bool true] else y) w else (Instr.typeAssert (a.eval x) xt t ok).run P w) ∧ (ok = true → u ≠ t → (Instr.typeAssert (a.eval x) xt t ok).run P w = .ok (.tuple #[z, .bool false]) w) := by
        intro v hv u y hy
        subst hy
        rw [hv]
        constructor
        · split
          · rename_i hut
            subst hut
            simp only [Instr.typeAssert, Sem.run_bind, run_underlying hu, Result.andThen_ok]
            cases d <;> first | (exact absurd rfl (hni _)) | simp
          · rfl
        · intro hok hut
          subst hok
          simp only [Instr.typeAssert, Sem.run_bind, run_underlying hu, Result.andThen_ok]
          cases d <;> first | (exact absurd rfl (hni _)) | simp [hut, hz]
      split at hv
      · rename_i u y e1
        rw [e1] at hx
        obtain ⟨uv, hp, hmy⟩ := hx
        have hc := conc _ rfl u uv hp
        split at hv
        · rename_i hut
          rw [if_pos hut] at hc
          split at hv
          · rename_i hok
            simp at hv
            subst hv
            exact ⟨_, by rw [hc.1, if_pos hok], _, rfl, Ms_cons.2 ⟨_, _, rfl, hmy, Ms_cons.2 ⟨_, _, rfl, rfl, rfl⟩⟩⟩
          · rename_i hok
            have := known_eq hv; subst this
            exact ⟨uv, by rw [hc.1, if_neg hok], hmy⟩
        · rename_i hut
          split at hv
          · rename_i hok
            simp at hv
            subst hv
            exact ⟨_, hc.2 hok hut, _, rfl, Ms_cons.2 ⟨_, _, rfl, trivial, Ms_cons.2 ⟨_, _, rfl, rfl, rfl⟩⟩⟩
          · simp at hv
      · rename_i u y e1
        rw [e1] at hx
        simp only [M] at hx
        have hc := conc _ rfl u y hx
        split at hv
        · rename_i hut
          rw [if_pos hut] at hc
          split at hv
          · rename_i hok
            simp at hv
            subst hv
            exact ⟨_, by rw [hc.1, if_pos hok], _, rfl, Ms_cons.2 ⟨_, _, rfl, M_cav y, Ms_cons.2 ⟨_, _, rfl, rfl, rfl⟩⟩⟩
          · rename_i hok
            simp at hv
            subst hv
            exact ⟨y, by rw [hc.1, if_neg hok], M_cav y⟩
        · rename_i hut
          split at hv
          · rename_i hok
            simp at hv
            subst hv
            exact ⟨_, hc.2 hok hut, _, rfl, Ms_cons.2 ⟨_, _, rfl, trivial, Ms_cons.2 ⟨_, _, rfl, rfl, rfl⟩⟩⟩
          · simp at hv
      · rename_i e1
        rw [e1] at hx
        simp only [M] at hx
        split at hv
        · rename_i hok
          simp at hv
          subst hv
          refine ⟨.tuple #[z, .bool false], ?_, _, rfl, Ms_cons.2 ⟨_, _, rfl, trivial, Ms_cons.2 ⟨_, _, rfl, rfl, rfl⟩⟩⟩
          rw [hx]
          subst hok
          simp only [Instr.typeAssert, Sem.run_bind, run_underlying hu, Result.andThen_ok]
          cases d <;> first | (exact absurd rfl (hni _)) | simp [hz]
        · simp at hv
      · simp at hv
  · simp at hv

theorem aval_call (hT : Tab P T eqt) (h : Sim X w0 E σ a w) {c : Call} {r : AV} (hv : aval T eqt σ (.call c) = some r) (o : Oper) (ho : o.op = .call c) : Gives P w E (execOp a.eval o) r := by
  simp only [aval] at hv
  simp only [execOp, ho]
  obtain ⟨callee, args, argTypes⟩ := c
  simp only at hv ⊢
  have hms := Ms_evs h args.toList
  have hargs : args.map a.eval = ⟨args.toList.map a.eval⟩ := Array.ext' (by simp)
  split at hv
  · split at hv
    · rename_i x t e1 e2
      split at hv
      · rename_i ti hti
        simp only [Option.map_eq_some_iff] at hv
        obtain ⟨n, hn, rfl⟩ := hv
        have hx := h.ev x
        have hl := run_aLen (hT.t _ _ hti) hx hn o.type
        have ea : argTypes = #[t] := Array.ext' (by simp [e2])
        refine ⟨_, ?_, rfl⟩
        simp only [resolve, hargs, e1, List.map_cons, List.map_nil, Sem.run_bind, Sem.run_pure, Result.andThen_ok, invoke, builtin, ea, hl]
      · simp at hv
    · simp at hv
  · split at hv
    · rename_i x rest e1
      rw [e1] at hms
      obtain ⟨v, vs, ev, h1, h2⟩ := Ms_cons.1 hms
      obtain ⟨u, hr, hm⟩ := (run_minmax (P := P) rest vs x r v h2 h1).1 hv
      refine ⟨u, ?_, hm⟩
      simp only [resolve, hargs, ev, Sem.run_bind, Sem.run_pure, Result.andThen_ok, invoke, builtin, Builtin.min_, hr]
    · simp at hv
  · split at hv
    · rename_i x rest e1
      rw [e1] at hms
      obtain ⟨v, vs, ev, h1, h2⟩ := Ms_cons.1 hms
      obtain ⟨u, hr, hm⟩ := (run_minmax (P := P) rest vs x r v h2 h1).2 hv
      refine ⟨u, ?_, hm⟩
      simp only [resolve, hargs, ev, Sem.run_bind, Sem.run_pure, Result.andThen_ok, invoke, builtin, Builtin.max_, hr]
    · simp at hv
  · simp at hv

/-- Whatever is only computed. -/
theorem aval_run (hT : Tab P T eqt) (h : Sim X w0 E σ a w) (o : Oper) {r : AV} (hv : aval T eqt σ o.op = some r) : Gives P w E (execOp a.eval o) r := by
  generalize ho : o.op = op at hv
  cases op
  case move x => simp only [aval] at hv; have := known_eq hv; subst this; exact ⟨_, by simp only [execOp, ho]; rfl, h.ev x⟩
  case assign x => simp only [aval] at hv; have := known_eq hv; subst this; exact ⟨_, by simp only [execOp, ho]; rfl, h.ev x⟩
  case pick => exact aval_pick h hv o ho
  case load => exact aval_load hT h hv o ho
  case nilCheck => exact aval_nil h hv o ho
  case binOp => exact aval_bin hT h hv o ho
  case unOp => exact aval_un h hv o ho
  case convert => exact aval_conv hT h hv o ho
  case sliceToArrayPointer => exact aval_s2a hT h hv o ho
  case makeInterface => exact aval_mi hT h hv o ho
  case makeFunc fn first caps =>
    cases fn <;> first | exact aval_mf h hv o ho | (simp only [aval] at hv; exact absurd hv (by simp))
  case build => exact aval_build hT h hv o ho
  case slice => exact aval_slice hT h hv o ho
  case fieldAddr => exact aval_fa hT h hv o ho
  case field => exact aval_f hT h hv o ho
  case indexAddr => exact aval_ia hT h hv o ho
  case index => exact aval_i hT h hv o ho
  case extract => exact aval_ex h hv o ho
  case typeAssert => exact aval_ta hT h hv o ho
  case call => exact aval_call hT h hv o ho
  all_goals (simp only [aval] at hv; exact absurd hv (by simp))

end
end Go.Proofs.YtgbpgplkhifgiaaDoor

/- What append, copy and a store do to memory, with the blocks that turn named. No condition. -/
set_option linter.unusedVariables false
set_option linter.unusedSimpArgs false
namespace Go.Proofs.YtgbpgplkhifgiaaDoor
open Go Go.RowKit

section
variable {P : Program} {w : World}

/-- What append takes its new cells from. -/
structure Src (P : Program) (w : World) (size m : Nat) (x : Value) (news : List Value) : Prop where
  len : ∀ w', (Builtin.lenOf x).run P w' = .ok m w'
  upto : ∀ w' n, n ≤ m → w'.heap = w.heap → (Builtin.firstCells size n x).run P w' = .ok ⟨news.take (n * size)⟩ w'
  size : news.length = m * size
  one : ∀ u ∈ news, u.oneCell' = true

theorem Src.cells {size m : Nat} {x : Value} {news : List Value} (h : Src P w size m x news) (w' : World) (hw : w'.heap = w.heap) : (Builtin.firstCells size m x).run P w' = .ok ⟨news⟩ w' := by
  have := h.upto w' m (Nat.le_refl _) hw
  rwa [List.take_of_length_le (by rw [h.size]; exact Nat.le_refl _)] at this

theorem no_int (d : TypeDesc) (h : ∀ k, d ≠ .int k) : (match d with | .int _ => true | _ => false) = false := by cases d <;> first | rfl | exact absurd rfl (h _)

/-- n elements at the beginning of a block of one's own, which may hold more than the slice's room. -/
def ownsR (w : World) (e : TypeId) (size : Nat) (v : Value) (n : Nat) (xs : List Value) : Prop :=
  xs.length = n * size ∧ ((v = .slice none 0 0 ∧ n = 0) ∨ ∃ g cap cur, v = .slice (some ⟨g, 0, none⟩) n cap ∧ w.heap[g]? = some (.cells cur e) ∧ n ≤ cap ∧ cap ≤ maxLen ∧ cap * size ≤ cur.size ∧ cur.toList.take (n * size) = xs)

theorem ownsR_nil (w : World) (e : TypeId) (size : Nat) : ownsR w e size (.slice none 0 0) 0 [] := ⟨by simp, .inl ⟨rfl, rfl⟩⟩

theorem ownsR.cells {e : TypeId} {size n g cap : Nat} {xs : List Value} (h : ownsR w e size (.slice (some ⟨g, 0, none⟩) n cap) n xs) : ∀ (j : Nat) (u : Value), xs[j]? = some u → w.cell? ((⟨g, 0, none⟩ : Addr).add j) = some u := by
  intro j u hu
  rcases h.2 with ⟨h1, _⟩ | ⟨g', cap', cur, h1, hgg, _, _, _, htake⟩
  · simp at h1
  · simp at h1
    obtain ⟨rfl, rfl⟩ := h1
    rw [addr_add, Nat.zero_add]
    have : cur[j]? = some u := by
      rw [← htake, List.getElem?_take] at hu
      split at hu
      · simpa using hu
      · simp at hu
    simp [World.cell?, hgg, this]

/-- Append to a row of one's own: in place, or into a new block. -/
theorem run_app {t u ty e : TypeId} {i : TypeInfo} {z : Value} (ht : P.underlying t = some (.slice e)) (hu : ∃ d, P.underlying u = some d ∧ (∀ k, d ≠ .int k)) (hi : P.info? e = some i) (hz : i.zero = some z)
    (hzs : z.cells.size = i.size) {v x : Value} {n m : Nat} {xs news : List Value} (hown : ownsR w e i.size v n xs) (hs : Src P w i.size m x news)
    (h63 : n + m ≤ maxLen) (hbytes : (n + m) * i.bytes ≤ 140737488355328) :
    ∃ v' w', (Builtin.append_ #[t, u] ty #[v, x]).run P w = .ok v' w' ∧ ownsR w' e i.size v' (n + m) (xs ++ news) ∧
      ((v = .slice none 0 0 ∧ m = 0 ∧ v' = .slice none 0 0 ∧ w' = w) ∨
       (∃ cap c, v' = .slice (some ⟨w.heap.size, 0, none⟩) (n + m) cap ∧ w' = w.drew.alloc (.cells c e)) ∨
       (∃ g cap c c0, v = .slice (some ⟨g, 0, none⟩) n cap ∧ v' = .slice (some ⟨g, 0, none⟩) (n + m) cap ∧ w' = w.setRow g c ∧ w.heap[g]? = some (.cells c0 e) ∧ c.size = c0.size)) := by
  obtain ⟨d, hud, hnint⟩ := hu
  have hsmall : n + m ≤ 9223372036854775807 := by simp only [maxLen] at h63; omega
  have hlen : (xs ++ news).length = (n + m) * i.size := by rw [List.length_append, hown.1, hs.size, Nat.add_mul]
  have hzeros := no_int d hnint
  have hl := hs.len w
  have grown : ∀ (old : Nat), old < n + m →
      ownsR (w.drew.alloc (.cells (⟨xs⟩ ++ ⟨news⟩ ++ Builtin.zeroCells z.cells (grownCap w (n + m) old e - (n + m))) e)) e i.size
        (.slice (some ⟨w.heap.size, 0, none⟩) (n + m) (grownCap w (n + m) old e)) (n + m) (xs ++ news) := by
    intro old ho
    have hge := grownCap_ge w (n + m) old e
    have hcm : grownCap w (n + m) old e ≤ maxLen := grownCap_le_maxLen w (n + m) old e h63
    refine ⟨hlen, .inr ⟨w.heap.size, _, _, rfl, heap_alloc_new w.drew _, hge, hcm, Nat.le_of_eq ?_, ?_⟩⟩
    · simp only [Array.size_append, List.size_toArray, size_zeroCells, hzs, hown.1, hs.size, ← Nat.add_mul]
      congr 1
      omega
    · simp only [Array.toList_append, List.append_assoc]
      rw [← List.append_assoc, ← hlen]
      exact List.take_left
  rcases hown.2 with ⟨rfl, rfl⟩ | ⟨g, cap, cur, rfl, hg, hnc, hcm, hcs, htake⟩
  · have hx : xs = [] := List.eq_nil_of_length_eq_zero (by simpa using hown.1)
    subst hx
    by_cases hm : m = 0
    · subst hm
      have hn : news = [] := List.eq_nil_of_length_eq_zero (by simpa using hs.size)
      subst hn
      refine ⟨.slice none 0 0, w, ?_, ownsR_nil w e i.size, .inl ⟨rfl, rfl, rfl, rfl⟩⟩
      have hf := hs.cells w rfl
      simp [Builtin.append_, run_underlying ht, run_underlying hud, sizeOf, typeInfo, hi, hl, hf, hzeros]
    · have hfit : Builtin.nextslicecap m 0 * i.bytes ≤ 281474976710656 := growslice_fits (by omega) (by simpa using hbytes)
      have hf := hs.cells w.drew rfl
      refine ⟨_, _, ?_, grown 0 (by omega), .inr (.inl ⟨_, _, rfl, rfl⟩)⟩
      have h1 : ¬ (281474976710656 < Builtin.nextslicecap m 0 * i.bytes) := by omega
      have h2 : ¬ (9223372036854775807 < (m : Int)) := by omega
      have h0 : ∀ w', (Builtin.firstCells i.size 0 (.slice none 0 0)).run P w' = .ok #[] w' := fun w' => by simp [Builtin.firstCells]
      simp [Builtin.append_, run_underlying ht, run_underlying hud, sizeOf, typeInfo, zeroValue, hi, hz, hl, hf, hzeros, hm, h1, h2, Question.forced, newRow, grownCap, h0]
  · have hold : ∀ w', w'.heap = w.heap → (Builtin.firstCells i.size n (.slice (some ⟨g, 0, none⟩) n cap)).run P w' = .ok ⟨xs⟩ w' := by
      intro w' hw
      refine run_firstCells_some (P := P) w' i.size n ⟨g, 0, none⟩ n cap xs hown.1 (fun j u hu => ?_)
      have := hown.cells j u hu
      simpa [World.cell?, hw] using this
    by_cases hroom : n + m ≤ cap
    · have hfit : n * i.size + news.length ≤ cur.size := by rw [hs.size, ← Nat.add_mul]; exact Nat.le_trans (Nat.mul_le_mul_right _ hroom) hcs
      have hst := run_storeCells_at P g (n * i.size) e news 0 cur w hg (by simpa using hfit) hs.one
      simp only [Nat.add_zero] at hst
      have hf := hs.cells w rfl
      refine ⟨_, w.setRow g (cur.toList.take (n * i.size) ++ news ++ cur.toList.drop (n * i.size + news.length)).toArray, ?_,
        ⟨hlen, .inr ⟨g, cap, _, rfl, setRow_heap w g cur _ e _ hg, hroom, hcm, ?_, ?_⟩⟩, .inr (.inr ⟨g, cap, _, cur, rfl, rfl, rfl, hg, ?_⟩)⟩
      · simp [Builtin.append_, run_underlying ht, run_underlying hud, sizeOf, typeInfo, hi, hl, hroom, hf, hzeros, Addr.add_lit, hst]
      · simp only [List.size_toArray, List.length_append, List.length_take, List.length_drop, Array.length_toList]
        omega
      · rw [htake, ← hlen]
        exact List.take_left
      · simp only [List.size_toArray, List.length_append, List.length_take, List.length_drop, Array.length_toList]
        omega
    · have hfit : Builtin.nextslicecap (n + m) cap * i.bytes ≤ 281474976710656 := growslice_fits (by omega) hbytes
      have hf := hs.cells w.drew rfl
      have ho := hold w.drew rfl
      refine ⟨_, _, ?_, grown cap (by omega), .inr (.inl ⟨_, _, rfl, rfl⟩)⟩
      have h1 : ¬ (281474976710656 < Builtin.nextslicecap (n + m) cap * i.bytes) := by omega
      have h2 : ¬ (9223372036854775807 < (n : Int) + (m : Int)) := by omega
      simp [Builtin.append_, run_underlying ht, run_underlying hud, sizeOf, typeInfo, zeroValue, hi, hz, hl, hf, ho, hzeros, hroom, h1, h2, Question.forced, newRow, grownCap]
      congr 2
      apply Array.ext'
      simp [List.append_assoc]

end

def AV.cell : AV → Bool
  | .any => false
  | .agg _ => false
  | .tup _ => false
  | .val (.agg _) => false
  | .val (.tuple _) => false
  | _ => true

theorem M.cell {w : World} {E : Env} {x : AV} {v : Value} (hm : M w E x v) (h : x.cell = true) : v.oneCell' = true := by
  cases x <;> simp [AV.cell] at h
  case val u =>
    simp only [M] at hm
    subst hm
    cases v <;> simp [AV.cell] at h <;> rfl
  case ptr => obtain ⟨g, _, rfl⟩ := hm; rfl
  case sl => rcases hm with ⟨_, _, _, _, rfl⟩ | ⟨_, _, a, cap, rfl⟩ | ⟨g, cap, ty, sz, _, rfl, _⟩ <;> rfl
  case ds => rcases hm with ⟨_, _, a, cap, rfl⟩ | ⟨g, off, cap, vs, rfl, _⟩ <;> rfl
  case dp => obtain ⟨g, off, vs, rfl, _⟩ := hm; rfl
  case clo => obtain ⟨vs, rfl, _⟩ := hm; rfl
  case ifc => obtain ⟨u, rfl, _⟩ := hm; rfl
  case yld => obtain ⟨l, r, rfl, _⟩ := hm; rfl

theorem Ms.cells {w : World} {E : Env} : ∀ {cs : List AV} {vs : List Value}, Ms w E cs vs → cs.all AV.cell = true → ∀ v ∈ vs, v.oneCell' = true
  | [], vs, h, _, v, hv => by simp [Ms] at h; simp [h] at hv
  | x :: cs, vs, h, hc, v, hv => by
    obtain ⟨u, vs', rfl, h1, h2⟩ := Ms_cons.1 h
    simp at hc hv
    rcases hv with rfl | hv
    · exact h1.cell hc.1
    · exact Ms.cells h2 (by simpa using hc.2) v hv

end Go.Proofs.YtgbpgplkhifgiaaDoor

/- The abstract state's step over an operation that makes or writes memory. No condition. -/
set_option linter.unusedVariables false
set_option linter.unusedSimpArgs false
namespace Go.Proofs.YtgbpgplkhifgiaaDoor
open Go Go.RowKit

/-- What an operation does to the abstract state: the value of its slot, and the boxes that turn. -/
structure Eff where
  dst : AV
  bxs : List (Nat × Option (List AV))

def tput (d : Option Tmp) (x : AV) (l : List (Nat × AV)) : List (Nat × AV) :=
  match d with
  | some t => (t, x) :: l
  | none => l

def St.app (σ : St) (nx : Nat) (d : Option Tmp) (e : Eff) : St :=
  { σ with nx := nx, tm := tput d e.dst σ.tm, bx := e.bxs ++ σ.bx }

structure Grow (w0 : World) (E E' : Env) : Prop where
  bl : ∀ k g, E.bl k = some g → E'.bl k = some g
  ph : ∀ k, E.ph k → E'.ph k
  S : ∀ g, E.S g → E'.S g
  T : ∀ g, E'.T g ↔ E.T g
  new : ∀ g, E'.S g → E.S g ∨ w0.heap.size ≤ g
  ro : E'.ro = E.ro

theorem Grow.refl (w0 : World) (E : Env) : Grow w0 E E := ⟨fun _ _ h => h, fun _ h => h, fun _ h => h, fun _ => Iff.rfl, fun _ h => .inl h, rfl⟩
theorem Grow.trans {w0 : World} {E E' E'' : Env} (h : Grow w0 E E') (k : Grow w0 E' E'') : Grow w0 E E'' :=
  ⟨fun _ _ x => k.bl _ _ (h.bl _ _ x), fun _ x => k.ph _ (h.ph _ x), fun _ x => k.S _ (h.S _ x), fun g => (k.T g).trans (h.T g), fun g x => (k.new g x).elim (fun y => h.new g y) .inr, k.ro.trans h.ro⟩

theorem blook_app (k : Nat) : ∀ (l m : List (Nat × Option (List AV))), blook k (l ++ m) = if (l.any fun x => k == x.1) = true then blook k l else blook k m
  | [], m => by simp
  | (s, c) :: l, m => by
    simp only [List.cons_append, blook]
    by_cases h : k = s
    · simp [h]
    · have hks : (k == s) = false := by simpa using h
      simp only [h, if_false, blook_app k l m, List.any_cons, hks, Bool.false_or]

/-- The blocks of deferred calls have not turned. -/
def KeepsD (w w' : World) : Prop := ∀ (g : Nat), w.heap[g]? = some (.deferred (some [])) → w'.heap[g]? = some (.deferred (some []))

theorem KeepsD.old {w w' : World} (h : ∀ g, g < w.heap.size → w'.heap[g]? = w.heap[g]?) : KeepsD w w' := fun g hg => (h g (Array.getElem?_eq_some_iff.1 hg).1).trans hg

theorem Md.stays {w0 w w' : World} {E E' : Env} (h : Stays w E w' E') (hk : KeepsD w w' ∧ E'.ro = E.ro) : ∀ {ds : List Deferred} {l : List (FuncId × List AV)}, Md w0 w E l ds → Md w0 w' E' l ds
  | [], _, hm => hm
  | _ :: _, _, .inl ⟨ho, ⟨r, e, h1, h2⟩, hn, hr⟩ => .inl ⟨hk.2.trans ho, ⟨r, e, hk.1 r h1, h2⟩, hn, Md.stays h hk hr⟩
  | _ :: _, _, .inr ⟨f, caps, l', vs, e1, e2, hm, hr⟩ => .inr ⟨f, caps, l', vs, e1, e2, Ms.stays h _ _ hm, Md.stays h hk hr⟩

/-- With no deferred closure the names do not matter. -/
theorem Md.nil_env {w0 w : World} {E E' : Env} (hro : E'.ro = E.ro) : ∀ {ds : List Deferred}, Md w0 w E [] ds → Md w0 w E' [] ds
  | [], hm => hm
  | _ :: _, .inl ⟨ho, h1, hn, hr⟩ => .inl ⟨hro.trans ho, h1, hn, Md.nil_env hro hr⟩
  | _ :: _, .inr ⟨_, _, _, _, e1, _⟩ => by simp at e1

section
variable {X : Nat → Prop} {w0 : World} {E E' : Env} {σ : St} {a : Act} {w w' : World}

theorem boxAt.stays_other (hst : Stays w E w' E') {k : Nat} {cs : List AV} (h : boxAt w E k cs) (hne : ∀ g, E.bl k = some g → w'.heap[g]? = w.heap[g]?) : boxAt w' E' k cs := by
  rcases h with ⟨h1, h2⟩ | ⟨g, c, ty, vs, h1, h2, h3, h4, h5⟩
  · exact .inl ⟨hst.ph _ h1, h2⟩
  · exact .inr ⟨g, c, ty, vs, hst.bl _ _ h1, (hne g h1).trans h2, h3, h4, Ms.stays hst _ _ h5⟩

theorem alook_put (h : ∀ t, M w' E' (alook t σ.tm) (a.tmps.getD t undef)) (hn : a.tmps.size = σ.nt) {d : Option Tmp} {x : AV} {v : Value} (hd : ∀ t, d = some t → t < σ.nt) (hx : M w' E' x v) :
    ∀ t, M w' E' (alook t (tput d x σ.tm)) ((a.put d v).tmps.getD t undef) := by
  intro t
  cases d with
  | none => exact h t
  | some s =>
    have hs := hd s rfl
    simp only [tput, alook, Act.put]
    split
    · rename_i hts
      subst hts
      have : (a.tmps.setIfInBounds t v).getD t undef = v := by simp [Array.getD_eq_getD_getElem?, hn, hs]
      rw [this]
      exact hx
    · rename_i hts
      have : (a.tmps.setIfInBounds s v).getD t undef = a.tmps.getD t undef := by
        simp [Array.getD_eq_getD_getElem?, Array.getElem?_setIfInBounds, Ne.symm hts]
      rw [this]
      exact h t

/-- The state's step, whatever was done. -/
theorem Sim.step (h : Sim X w0 E σ a w) (hst : Stays w E w' E') (hkd : KeepsD w w' ∧ E'.ro = E.ro) {d : Option Tmp} {x : AV} {v : Value} {bxs : List (Nat × Option (List AV))} {nx : Nat}
    (hd : ∀ t, d = some t → t < σ.nt) (hx : M w' E' x v)
    (hb : ∀ k cs, blook k (bxs ++ σ.bx) = some cs → boxAt w' E' k cs)
    (ho : ∀ k g, (blook k (bxs ++ σ.bx)).isSome → E'.bl k = some g → ¬ E'.S g ∧ ¬ E'.T g ∧ (w0.heap.size ≤ g ∨ X g))
    (hi : ∀ k k' g, (blook k (bxs ++ σ.bx)).isSome → (blook k' (bxs ++ σ.bx)).isSome → E'.bl k = some g → E'.bl k' = some g → k = k')
    (hl : ∀ g, E'.S g ∨ E'.T g → g < w'.heap.size) (hk : Keeps X w0 w') (hf : ∀ k, nx ≤ k → E'.bl k = none ∧ ¬ E'.ph k) (hp : ∀ k, E'.ph k → E'.bl k = none) :
    Sim X w0 E' (σ.app nx d ⟨x, bxs⟩) (a.put d v) w' := by
  refine ⟨?_, ?_, fun g => M.stays hst _ _ (h.gl g), hb, ho, hi, hl, hk, fun g i h0 => hst.sz g i (h.rw g i h0), hf, hp, ?_⟩
  · cases d <;> simp [Act.put, h.nt, St.app]
  · exact alook_put (fun t => M.stays hst _ _ (h.tm t)) h.nt hd hx
  · cases d <;> exact Md.stays hst hkd h.df

/-- Only a slot turns. -/
theorem Sim.val (h : Sim X w0 E σ a w) {d : Option Tmp} {x : AV} {v : Value} {nx : Nat} (hd : ∀ t, d = some t → t < σ.nt) (hx : M w E x v) (hn : σ.nx ≤ nx) :
    Sim X w0 E (σ.app nx d ⟨x, []⟩) (a.put d v) w :=
  h.step ⟨fun _ _ h => h, fun _ h => h, fun _ h => h, fun _ h => h, fun _ _ h => h, fun _ _ => rfl⟩ ⟨fun _ h => h, rfl⟩ hd hx h.bx h.own h.inj h.lim h.keep (fun k hk => h.fr k (Nat.le_trans hn hk)) h.px

theorem Sim.live_lt (h : Sim X w0 E σ a w) {k g : Nat} (hk : (blook k σ.bx).isSome) (hg : E.bl k = some g) : g < w.heap.size := by
  obtain ⟨cs, hcs⟩ := Option.isSome_iff_exists.1 hk
  rcases h.bx k cs hcs with ⟨hp, _⟩ | ⟨g', c, ty, vs, h1, h2, _⟩
  · rw [h.px k hp] at hg; simp at hg
  · obtain rfl : g = g' := by rw [hg] at h1; simpa using h1
    exact (Array.getElem?_eq_some_iff.1 h2).1

theorem rowIn_old {w w' : World} {g : Nat} {i : TypeId × Nat} (h : ∀ g, g < w.heap.size → w'.heap[g]? = w.heap[g]?) (hr : rowIn w g = some i) : rowIn w' g = some i := by
  unfold rowIn at hr ⊢
  have : g < w.heap.size := by
    rcases Nat.lt_or_ge g w.heap.size with hl | hl
    · exact hl
    · simp [Array.getElem?_eq_none hl] at hr
  rw [h g this]; exact hr

def Env.with (E : Env) (b g : Nat) : Env := { E with bl := fun k => if k = b then some g else E.bl k }

/-- A new block, named b. -/
theorem Sim.new (h : Sim X w0 E σ a w) {d : Option Tmp} {x : AV} {v : Value} {b nx : Nat} {cs : List AV} {vs : List Value} {c : Array Value} {ty : TypeId} (wd : World) (hwd : wd.heap = w.heap) (hwo : wd.os = w.os) (hwt : wd.tape = w.tape) (hwp : wd.output = w.output)
    (hd : ∀ t, d = some t → t < σ.nt) (hb : E.bl b = none) (hb' : ¬ E.ph b) (hnx : b < nx) (hn : ∀ k, nx ≤ k → E.bl k = none ∧ ¬ E.ph k) (hm : Ms w E cs vs) (hvl : vs.length ≤ c.size) (hvc : ∀ i, i < vs.length → c[i]? = vs[i]?)
    (hx : M (wd.alloc (.cells c ty)) (E.with b w.heap.size) x v) (bxs : List (Nat × Option (List AV))) (hbx : ∀ k, k ≠ b → (blook k (bxs ++ σ.bx)).isSome → blook k (bxs ++ σ.bx) = blook k σ.bx) (hbb : ∀ cs', blook b (bxs ++ σ.bx) = some cs' → cs' = cs) :
    Stays w E (wd.alloc (.cells c ty)) (E.with b w.heap.size) ∧ Grow w0 E (E.with b w.heap.size) ∧ Sim X w0 (E.with b w.heap.size) (σ.app nx d ⟨x, bxs⟩) (a.put d v) (wd.alloc (.cells c ty)) := by
  have hold : ∀ g, g < w.heap.size → (wd.alloc (.cells c ty)).heap[g]? = w.heap[g]? := by
    intro g hg
    have := heap_alloc_old wd (.cells c ty) g (by rw [hwd]; exact hg)
    rw [this, hwd]
  have hnew : (wd.alloc (.cells c ty)).heap[w.heap.size]? = some (.cells c ty) := by
    have := heap_alloc_new wd (.cells c ty)
    rwa [hwd] at this
  have hsz : (wd.alloc (.cells c ty)).heap.size = w.heap.size + 1 := by
    show (wd.heap.push _).size = _
    simp [hwd]
  have hst : Stays w E (wd.alloc (.cells c ty)) (E.with b w.heap.size) := by
    refine ⟨fun k g hk => ?_, fun k hk => hk, fun _ h => h, fun _ h => h, fun g i hi => rowIn_old hold hi, fun g hg => hold g (h.lim g hg)⟩
    simp only [Env.with]
    rw [if_neg (by rintro rfl; rw [hb] at hk; simp at hk)]
    exact hk
  refine ⟨hst, ⟨hst.bl, fun _ h => h, fun _ h => h, fun _ => Iff.rfl, fun _ h => .inl h, rfl⟩, h.step hst ⟨.old hold, rfl⟩ hd hx ?_ ?_ ?_ ?_ ?_ ?_ ?_⟩
  · intro k cs' hk
    by_cases hkb : k = b
    · subst hkb
      have := hbb cs' hk
      subst this
      exact .inr ⟨w.heap.size, c, ty, vs, by simp [Env.with], hnew, hvl, hvc, Ms.stays hst _ _ hm⟩
    · have e := hbx k hkb (by rw [hk]; rfl)
      rw [e] at hk
      refine (h.bx k cs' hk).stays_other hst (fun g hg => hold g (h.live_lt (by rw [hk]; rfl) hg))
  · intro k g hk hg
    by_cases hkb : k = b
    · subst hkb
      simp [Env.with] at hg
      subst hg
      refine ⟨fun hS => ?_, fun hT => ?_, .inl h.keep.size⟩
      · exact absurd (h.lim _ (.inl hS)) (Nat.lt_irrefl _)
      · exact absurd (h.lim _ (.inr hT)) (Nat.lt_irrefl _)
    · have e := hbx k hkb hk
      rw [e] at hk
      simp [Env.with, hkb] at hg
      exact h.own k g hk hg
  · intro k k' g hk hk' hg hg'
    have one : ∀ k, (blook k (bxs ++ σ.bx)).isSome → (E.with b w.heap.size).bl k = some w.heap.size → k = b := by
      intro k hk hg
      by_cases hkb : k = b
      · exact hkb
      · have e := hbx k hkb hk
        rw [e] at hk
        simp [Env.with, hkb] at hg
        exact absurd (h.live_lt hk hg) (Nat.lt_irrefl _)
    by_cases hkb : k = b
    · subst hkb
      simp [Env.with] at hg
      subst hg
      exact (one k' hk' hg').symm
    · by_cases hkb' : k' = b
      · subst hkb'
        simp [Env.with] at hg'
        subst hg'
        exact one k hk hg
      · have e := hbx k hkb hk
        have e' := hbx k' hkb' hk'
        rw [e] at hk; rw [e'] at hk'
        simp [Env.with, hkb] at hg
        simp [Env.with, hkb'] at hg'
        exact h.inj k k' g hk hk' hg hg'
  · intro g hg
    have := h.lim g hg
    omega
  · refine h.keep.trans ⟨hwo, hwt, hwp, by omega, fun g hg _ => hold g hg⟩
  · intro k hk
    refine ⟨?_, (hn k hk).2⟩
    simp only [Env.with]
    rw [if_neg (by omega)]
    exact (hn k hk).1
  · intro k hk
    simp only [Env.with]
    rw [if_neg (by rintro rfl; exact hb' hk)]
    exact h.px k hk

theorem Stays.setRow (h : Sim X w0 E σ a w) {k g : Nat} (hk : (blook k σ.bx).isSome) (hg : E.bl k = some g) {c c' : Array Value} {ty : TypeId} (hw : w.heap[g]? = some (.cells c ty (0, 0))) (hsz : c'.size = c.size) :
    Stays w E (w.setRow g c') E := by
  refine ⟨fun _ _ h => h, fun _ h => h, fun _ h => h, fun _ h => h, fun g' i hi => ?_, fun g' hg' => setRow_other w g g' c' ?_⟩
  · by_cases he : g' = g
    · subst he
      unfold rowIn at hi ⊢
      rw [setRow_heap w g' c c' ty _ hw]
      rw [hw] at hi
      simpa [hsz] using hi
    · unfold rowIn at hi ⊢
      rw [setRow_other w g g' c' he]
      exact hi
  · rintro rfl
    have := h.own k g' hk hg
    exact hg'.elim this.1 this.2.1

theorem KeepsD.setRow {g : Nat} {c c' : Array Value} {ty : TypeId} {fr : Nat × Nat} (hw : w.heap[g]? = some (.cells c ty fr)) : KeepsD w (w.setRow g c') := by
  intro g' hg'
  rw [setRow_other w g g' c' (by rintro rfl; rw [hw] at hg'; simp at hg')]
  exact hg'

/-- A box of the frame's own is written. -/
theorem Sim.set (h : Sim X w0 E σ a w) {d : Option Tmp} {x : AV} {v : Value} {k g nx : Nat} {cs : List AV} {vs : List Value} {c c' : Array Value} {ty : TypeId}
    (hd : ∀ t, d = some t → t < σ.nt) (hk : (blook k σ.bx).isSome) (hg : E.bl k = some g) (hw : w.heap[g]? = some (.cells c ty (0, 0))) (hsz : c'.size = c.size) (hnx : σ.nx ≤ nx)
    (hm : Ms w E cs vs) (hvl : vs.length ≤ c.size) (hvc : ∀ i, i < vs.length → c'[i]? = vs[i]?) (hx : M (w.setRow g c') E x v) :
    Sim X w0 E (σ.app nx d ⟨x, [(k, some cs)]⟩) (a.put d v) (w.setRow g c') := by
  have hst := Stays.setRow h hk hg hw hsz
  have bk : ∀ k', blook k' ([(k, some cs)] ++ σ.bx) = if k' = k then some cs else blook k' σ.bx := fun k' => rfl
  have live : ∀ k', (blook k' ([(k, some cs)] ++ σ.bx)).isSome → (blook k' σ.bx).isSome := by
    intro k' h'
    rw [bk] at h'
    split at h'
    · rename_i e; subst e; exact hk
    · exact h'
  refine h.step hst ⟨.setRow hw, rfl⟩ hd hx ?_ (fun k' g' hk' hg' => h.own k' g' (live k' hk') hg') (fun k1 k2 g' h1 h2 => h.inj k1 k2 g' (live k1 h1) (live k2 h2)) ?_ ?_ (fun k' hk' => h.fr k' (Nat.le_trans hnx hk')) h.px
  · intro k' cs' hk'
    rw [bk] at hk'
    split at hk'
    · rename_i e
      subst e
      simp at hk'
      subst hk'
      exact .inr ⟨g, c', ty, vs, hg, setRow_heap w g c c' ty _ hw, by omega, hvc, Ms.stays hst _ _ hm⟩
    · rename_i hne
      refine (h.bx k' cs' hk').stays_other hst (fun g' hg' => setRow_other w g g' c' ?_)
      rintro rfl
      exact hne (h.inj k' k g' (by rw [hk']; rfl) hk hg' hg)
  · intro g' hg'
    have := h.lim g' hg'
    simpa using this
  · refine ⟨h.keep.os, h.keep.tape, h.keep.output, by simpa using h.keep.size, fun g' hl hX => (setRow_other w g g' c' ?_).trans (h.keep.block g' hl hX)⟩
    rintro rfl
    rcases (h.own k g' hk hg).2.2 with h1 | h1
    · omega
    · exact hX h1

/-- A box of the frame's own is written and takes the new name b. -/
theorem Sim.setAs (h : Sim X w0 E σ a w) {d : Option Tmp} {x : AV} {v : Value} {k b g nx : Nat} {cs : List AV} {vs : List Value} {c c' : Array Value} {ty : TypeId}
    (hd : ∀ t, d = some t → t < σ.nt) (hk : (blook k σ.bx).isSome) (hg : E.bl k = some g) (hw : w.heap[g]? = some (.cells c ty (0, 0))) (hsz : c'.size = c.size)
    (hb : E.bl b = none) (hb' : ¬ E.ph b) (hnx : b < nx) (hn : ∀ k, nx ≤ k → E.bl k = none ∧ ¬ E.ph k)
    (hm : Ms w E cs vs) (hvl : vs.length ≤ c.size) (hvc : ∀ i, i < vs.length → c'[i]? = vs[i]?) (hx : M (w.setRow g c') (E.with b g) x v) :
    Grow w0 E (E.with b g) ∧ Sim X w0 (E.with b g) (σ.app nx d ⟨x, [(b, some cs), (k, none)]⟩) (a.put d v) (w.setRow g c') := by
  have hst0 := Stays.setRow h hk hg hw hsz
  have hbk : b ≠ k := by rintro rfl; rw [hb] at hg; simp at hg
  have hext : ∀ k' g', E.bl k' = some g' → (E.with b g).bl k' = some g' := by
    intro k' g' hk'
    simp only [Env.with]
    rw [if_neg (by rintro rfl; rw [hb] at hk'; simp at hk')]
    exact hk'
  have hst : Stays w E (w.setRow g c') (E.with b g) := ⟨hext, fun _ h => h, fun _ h => h, fun _ h => h, hst0.sz, hst0.blk⟩
  have bk : ∀ k', blook k' ([(b, some cs), (k, none)] ++ σ.bx) = if k' = b then some cs else if k' = k then none else blook k' σ.bx := fun k' => rfl
  have other : ∀ k', k' ≠ b → (blook k' ([(b, some cs), (k, none)] ++ σ.bx)).isSome → k' ≠ k ∧ (blook k' σ.bx).isSome := by
    intro k' hne h'
    rw [bk, if_neg hne] at h'
    split at h'
    · simp at h'
    · exact ⟨‹_›, h'⟩
  have noth : ∀ k' g', k' ≠ b → (E.with b g).bl k' = some g' → E.bl k' = some g' := by
    intro k' g' hne h'
    simpa [Env.with, hne] using h'
  refine ⟨⟨hext, fun _ h => h, fun _ h => h, fun _ => Iff.rfl, fun _ h => .inl h, rfl⟩, h.step hst ⟨.setRow hw, rfl⟩ hd hx ?_ ?_ ?_ ?_ ?_ ?_ ?_⟩
  · intro k' cs' hk'
    by_cases hkb : k' = b
    · subst hkb
      rw [bk, if_pos rfl] at hk'
      simp at hk'
      subst hk'
      exact .inr ⟨g, c', ty, vs, by simp [Env.with], setRow_heap w g c c' ty _ hw, by omega, hvc, Ms.stays hst _ _ hm⟩
    · obtain ⟨h1, h2⟩ := other k' hkb (by rw [hk']; rfl)
      rw [bk, if_neg hkb, if_neg h1] at hk'
      refine (h.bx k' cs' hk').stays_other hst (fun g' hg' => setRow_other w g g' c' ?_)
      rintro rfl
      exact h1 (h.inj k' k g' h2 hk hg' hg)
  · intro k' g' hk' hg'
    by_cases hkb : k' = b
    · subst hkb
      simp [Env.with] at hg'
      subst hg'
      exact h.own k g hk hg
    · exact h.own k' g' (other k' hkb hk').2 (noth k' g' hkb hg')
  · have one : ∀ k1, (blook k1 ([(b, some cs), (k, none)] ++ σ.bx)).isSome → (E.with b g).bl k1 = some g → k1 = b := by
      intro k1 hk1 hg1
      by_cases hkb : k1 = b
      · exact hkb
      · obtain ⟨h1, h2⟩ := other k1 hkb hk1
        exact absurd (h.inj k1 k g h2 hk (noth k1 g hkb hg1) hg) h1
    intro k1 k2 g' h1 h2 hg1 hg2
    by_cases hkb : k1 = b
    · subst hkb
      simp [Env.with] at hg1
      subst hg1
      exact (one k2 h2 hg2).symm
    · by_cases hkb' : k2 = b
      · subst hkb'
        simp [Env.with] at hg2
        subst hg2
        exact one k1 h1 hg1
      · exact h.inj k1 k2 g' (other k1 hkb h1).2 (other k2 hkb' h2).2 (noth k1 g' hkb hg1) (noth k2 g' hkb' hg2)
  · intro g' hg'
    have := h.lim g' hg'
    simpa using this
  · refine ⟨h.keep.os, h.keep.tape, h.keep.output, by simpa using h.keep.size, fun g' hl hX => (setRow_other w g g' c' ?_).trans (h.keep.block g' hl hX)⟩
    rintro rfl
    rcases (h.own k g' hk hg).2.2 with h1 | h1
    · omega
    · exact hX h1
  · intro k' hk'
    refine ⟨?_, (hn k' hk').2⟩
    simp only [Env.with]
    rw [if_neg (by omega)]
    exact (hn k' hk').1
  · intro k' hk'
    simp only [Env.with]
    rw [if_neg (by rintro rfl; exact hb' hk')]
    exact h.px k' hk'

/-- An empty box that lies nowhere: the nil slice that is going to be appended to. -/
theorem Sim.phantom (h : Sim X w0 E σ a w) {d : Option Tmp} {x : AV} {v : Value} {b nx : Nat} (bxs : List (Nat × Option (List AV)))
    (hd : ∀ t, d = some t → t < σ.nt) (hb : E.bl b = none) (hb' : ¬ E.ph b) (hnx : b < nx) (hn : ∀ k, nx ≤ k → E.bl k = none ∧ ¬ E.ph k)
    (hbx : ∀ k, k ≠ b → (blook k (bxs ++ σ.bx)).isSome → blook k (bxs ++ σ.bx) = blook k σ.bx) (hbb : ∀ cs', blook b (bxs ++ σ.bx) = some cs' → cs' = [])
    (hx : M w { E with ph := fun k => k = b ∨ E.ph k } x v) :
    Grow w0 E { E with ph := fun k => k = b ∨ E.ph k } ∧ Sim X w0 { E with ph := fun k => k = b ∨ E.ph k } (σ.app nx d ⟨x, bxs⟩) (a.put d v) w := by
  have hst : Stays w E w { E with ph := fun k => k = b ∨ E.ph k } := ⟨fun _ _ h => h, fun _ h => .inr h, fun _ h => h, fun _ h => h, fun _ _ h => h, fun _ _ => rfl⟩
  refine ⟨⟨fun _ _ h => h, fun _ h => .inr h, fun _ h => h, fun _ => Iff.rfl, fun _ h => .inl h, rfl⟩, h.step hst ⟨fun _ h => h, rfl⟩ hd hx ?_ ?_ ?_ h.lim h.keep ?_ ?_⟩
  · intro k cs hk
    by_cases hkb : k = b
    · subst hkb
      exact .inl ⟨.inl rfl, hbb cs hk⟩
    · have e := hbx k hkb (by rw [hk]; rfl)
      rw [e] at hk
      exact (h.bx k cs hk).stays_other hst (fun _ _ => rfl)
  · intro k g hk hg
    by_cases hkb : k = b
    · subst hkb
      exact absurd hg (by rw [hb]; simp)
    · have e := hbx k hkb hk
      rw [e] at hk
      exact h.own k g hk hg
  · intro k k' g hk hk' hg hg'
    have ne : ∀ k, E.bl k = some g → k ≠ b := by rintro k h' rfl; rw [hb] at h'; simp at h'
    have e := hbx k (ne k hg) hk
    have e' := hbx k' (ne k' hg') hk'
    rw [e] at hk; rw [e'] at hk'
    exact h.inj k k' g hk hk' hg hg'
  · intro k hk
    refine ⟨(hn k hk).1, fun h' => ?_⟩
    rcases h' with rfl | h'
    · omega
    · exact (hn k hk).2 h'
  · intro k hk
    rcases hk with rfl | hk
    · exact hb
    · exact h.px k hk

/-- New memory that is only read from now on. -/
theorem Sim.stable (h : Sim X w0 E σ a w) {d : Option Tmp} {x : AV} {v : Value} {nx : Nat} (hwo : w'.os = w.os) (hwt : w'.tape = w.tape) (hwp : w'.output = w.output)
    (hold : ∀ g, g < w.heap.size → w'.heap[g]? = w.heap[g]?) (hsz : w'.heap.size = w.heap.size + 1)
    (hd : ∀ t, d = some t → t < σ.nt) (hnx : σ.nx ≤ nx) (hx : M w' { E with S := fun g => g = w.heap.size ∨ E.S g } x v) :
    Grow w0 E { E with S := fun g => g = w.heap.size ∨ E.S g } ∧ Sim X w0 { E with S := fun g => g = w.heap.size ∨ E.S g } (σ.app nx d ⟨x, []⟩) (a.put d v) w' := by
  have hst : Stays w E w' { E with S := fun g => g = w.heap.size ∨ E.S g } := ⟨fun _ _ h => h, fun _ h => h, fun _ h => .inr h, fun _ h => h, fun _ _ hi => rowIn_old hold hi, fun g hg => hold g (h.lim g hg)⟩
  refine ⟨⟨fun _ _ h => h, fun _ h => h, fun _ h => .inr h, fun _ => Iff.rfl, fun g hg => ?_, rfl⟩, h.step hst ⟨.old hold, rfl⟩ hd hx ?_ ?_ h.inj ?_ ?_ (fun k hk => h.fr k (Nat.le_trans hnx hk)) h.px⟩
  · rcases hg with rfl | hg
    · exact .inr h.keep.size
    · exact .inl hg
  · intro k cs hk
    exact (h.bx k cs hk).stays_other hst (fun g hg => hold g (h.live_lt (by rw [show blook k σ.bx = some cs from hk]; rfl) hg))
  · intro k g hk hg
    obtain ⟨h1, h2, h3⟩ := h.own k g hk hg
    refine ⟨fun h' => ?_, h2, h3⟩
    rcases h' with rfl | h'
    · exact absurd (h.live_lt hk hg) (Nat.lt_irrefl _)
    · exact h1 h'
  · intro g hg
    rcases hg with (rfl | hg) | hg
    · omega
    · have := h.lim g (.inl hg); omega
    · have := h.lim g (.inr hg); omega
  · exact h.keep.trans ⟨hwo, hwt, hwp, by omega, fun g hg _ => hold g hg⟩

end
end Go.Proofs.YtgbpgplkhifgiaaDoor

/- What an operation that makes or writes memory comes to, as one function of the abstract state. No condition. -/
set_option linter.unusedVariables false
set_option linter.unusedSimpArgs false
namespace Go.Proofs.YtgbpgplkhifgiaaDoor
open Go Go.RowKit

def u8 (b : UInt8) : AV := .val (.int .u8 b.toNat)

/-- What append and copy read: how many elements, and their cells. -/
def srcOf (σ : St) (size : Nat) : AV → Option (Nat × List AV)
  | .sl k off n z _ => match aBox σ k with
    | some cs => if z = size ∧ off + n * z ≤ cs.length then some (n, (cs.drop off).take (n * z)) else none
    | none => none
  | .ds _ n cs => if n * size ≤ cs.length then some (n, cs.take (n * size)) else none
  | .val (.slice none 0 0) => some (0, [])
  | .val (.string s) => if size = 1 then some (s.size, s.data.toList.map u8) else none
  | _ => none

/-- n times the cells of a zero value. -/
def replZ (n : Nat) (zero : List Value) : List AV := (List.replicate n (zero.map AV.val)).flatten

def spl (cs : List AV) (off : Nat) (vc : List AV) : List AV :=
  match vc with
  | [x] => cs.set off x
  | vc => splice cs off vc

/-- Where append goes on: the box, how many elements, their cells. -/
def dstOf (σ : St) (e : TypeId) (size : Nat) : AV → Option (Option Nat × Nat × List AV)
  | .sl k off n z gr => match aBox σ k with
    | some cs => if z = size ∧ off = 0 ∧ gr = some e ∧ n * z = cs.length then some (some k, n, cs) else none
    | none => none
  | .val (.slice none 0 0) => some (none, 0, [])
  | _ => none

def killK : Option Nat → List (Nat × Option (List AV))
  | some k => [(k, none)]
  | none => []

def aeff (T : TypeId → Option TI) (b : Nat) (σ : St) (o : Oper) : Option Eff :=
  match o.op with
  | .move (.const (.slice none 0 0)) => match T o.type with
    | some ti => match ti.d with
      | .sl e => match T e with
        | some eti => some ⟨.sl b 0 0 eti.size (some e), [(b, some [])]⟩
        | none => none
      | _ => none
    | none => none
  | .assign (.const (.slice none 0 0)) => match T o.type with
    | some ti => match ti.d with
      | .sl e => match T e with
        | some eti => some ⟨.sl b 0 0 eti.size (some e), [(b, some [])]⟩
        | none => none
      | _ => none
    | none => none
  | .alloc t => match T t with
    | some ti => some ⟨.ptr b 0, [(b, some (ti.zero.map .val))]⟩
    | none => none
  | .box t x => match (σ.ev x).cs with
    | some cs => some ⟨.ptr b 0, [(b, some cs)]⟩
    | none => none
  | .buildSlice t len ps => match T t with
    | some ti => match ti.d with
      | .sl e => match T e with
        | some eti => match aFill (fun i => some (i * eti.size, eti.size)) (replZ len eti.zero) (evp σ ps.toList) with
          | some cs => if eti.zero.length = eti.size ∧ len * eti.size ≤ 16777216 ∧ 0 < eti.size ∧ cs.length = len * eti.size then some ⟨.sl b 0 len eti.size (some e), [(b, some cs)]⟩ else none
          | none => none
        | none => none
      | _ => none
    | none => none
  | .makeSlice t l c => match T t with
    | some ti => match ti.d, σ.ev l, σ.ev c with
      | .sl e, .val (.int _ n), .val (.int _ m) => match T e with
        | some eti => if eti.zero.length = eti.size ∧ 0 < eti.size ∧ 0 ≤ n ∧ n ≤ m ∧ m ≤ 4294967296 ∧ eti.bytes ≤ 1024 then some ⟨.sl b 0 n.toNat eti.size (some e), [(b, some (replZ n.toNat eti.zero))]⟩ else none
        | none => none
      | _, _, _ => none
    | none => none
  | .store t x y => match T t, σ.ev x, (σ.ev y).cs with
    | some ti, .ptr k off, some vc => match aBox σ k with
      | some cs => if vc.length = ti.size ∧ off + ti.size ≤ cs.length ∧ vc.all AV.cell = true then some ⟨.any, [(k, some (spl cs off vc))]⟩ else none
      | none => none
    | _, _, _ => none
  | .convert s d x => match T s, T d, σ.ev x with
    | some si, some di, .val (.string str) => match di.d with
      | .sl e => match T e with
        | some eti => if eti.d = .int .u8 then some ⟨.ds true str.size (str.data.toList.map u8), []⟩ else none
        | none => none
      | _ => none
    | _, _, _ => none
  | .call c => match c.callee with
    | .builtin .append => match c.args.toList, c.argTypes.toList with
      | [s, x], [t, u] => match T t, T u with
        | some ti, some ui => match ti.d with
          | .sl e => match T e with
            | some eti => match dstOf σ e eti.size (σ.ev s), srcOf σ eti.size (σ.ev x) with
              | some (k, n, cs), some (m, news) =>
                if eti.zero.length = eti.size ∧ 0 < eti.size ∧ news.all AV.cell = true ∧ news.length = m * eti.size ∧ n + m ≤ 4294967296 ∧ eti.bytes ≤ 1024 ∧ ui.d.isInt = false then
                  some ⟨.sl b 0 (n + m) eti.size (some e), (b, some (cs ++ news)) :: killK k⟩
                else none
              | _, _ => none
            | none => none
          | _ => none
        | _, _ => none
      | _, _ => none
    | .builtin .copy => match c.args.toList, c.argTypes.toList with
      | [s, x], [t, u] => match T t with
        | some ti => match ti.d with
          | .sl e => match T e, σ.ev s with
            | some eti, .sl k off n z _ => match aBox σ k, srcOf σ eti.size (σ.ev x) with
              | some cs, some (m, news) =>
                if z = eti.size ∧ news.all AV.cell = true ∧ news.length = m * eti.size ∧ off + n * z ≤ cs.length ∧ 0 < eti.size then
                  some ⟨.val (.int .i64 (min m n : Nat)), [(k, some (splice cs off (news.take (min m n * eti.size))))]⟩
                else none
              | _, _ => none
            | _, _ => none
          | _ => none
        | none => none
      | _, _ => none
    | _ => none
  | _ => none

end Go.Proofs.YtgbpgplkhifgiaaDoor

/- The operations that make or write memory do what the abstract state says. No condition. -/
set_option linter.unusedVariables false
set_option linter.unusedSimpArgs false
namespace Go.Proofs.YtgbpgplkhifgiaaDoor
open Go Go.RowKit

section
variable {P : Program} {T : TypeId → Option TI} {eqt : List TypeId} {X : Nat → Prop} {w0 : World} {E : Env} {σ : St} {a : Act} {w : World}

/-- No name but those from b to b + 7 has turned. -/
def Near (b : Nat) (E E' : Env) : Prop := ∀ k, k < b ∨ b + 8 ≤ k → E'.bl k = E.bl k ∧ (E'.ph k ↔ E.ph k)

theorem near_refl (b : Nat) (E : Env) : Near b E E := fun _ _ => ⟨rfl, Iff.rfl⟩
theorem near_with (b g : Nat) (E : Env) : Near b E (E.with b g) := fun k hk => ⟨by simp only [Env.with]; rw [if_neg (by omega)], Iff.rfl⟩
theorem near_ph (b : Nat) (E : Env) : Near b E { E with ph := fun k => k = b ∨ E.ph k } := fun k hk => ⟨rfl, by
  constructor
  · rintro (h | h)
    · omega
    · exact h
  · exact .inr⟩

/-- The operation runs and the state goes on. -/
def Went (P : Program) (X : Nat → Prop) (w0 : World) (E : Env) (σ : St) (a : Act) (w : World) (b nx : Nat) (dst : Option Tmp) (e : Eff) (s : Sem Next) : Prop :=
  ∃ r w' E' v, Near b E E' ∧ s.run P w = .ok r w' ∧ (r = .value v ∨ (r = .skip ∧ v = undef)) ∧ Grow w0 E E' ∧ Sim X w0 E' (σ.app nx dst e) (a.put dst v) w'

theorem went_of {b nx : Nat} {dst : Option Tmp} {e : Eff} {s : Sem Value} (h : ∃ v w' E', Near b E E' ∧ s.run P w = .ok v w' ∧ Grow w0 E E' ∧ Sim X w0 E' (σ.app nx dst e) (a.put dst v) w') :
    Went P X w0 E σ a w b nx dst e (do pure (.value (← s))) := by
  obtain ⟨v, w', E', hn, hr, hg, hs⟩ := h
  exact ⟨.value v, w', E', v, hn, by simp [hr], .inl rfl, hg, hs⟩

theorem Ms_u8 {w : World} {E : Env} : ∀ (l : List UInt8), Ms w E (l.map u8) (l.map fun b => .int .u8 b.toNat)
  | [] => by simp [Ms]
  | b :: l => Ms_cons.2 ⟨_, _, rfl, rfl, Ms_u8 l⟩

theorem box_vals (h : Sim X w0 E σ a w) {k : Nat} {cs : List AV} (hk : aBox σ k = some cs) :
    (cs = [] ∧ E.ph k) ∨ ∃ g c ty vs, E.bl k = some g ∧ w.heap[g]? = some (.cells c ty (0, 0)) ∧ vs.length ≤ c.size ∧ (∀ i, i < vs.length → c[i]? = vs[i]?) ∧ Ms w E cs vs := by
  rcases h.bx k cs hk with ⟨h1, h2⟩ | h1
  · exact .inl ⟨h2, h1⟩
  · exact .inr h1

theorem src_nil {size : Nat} {x : Value} (hx : ∃ ad cap, x = .slice ad 0 cap) : Src P w size 0 x [] := by
  obtain ⟨ad, cap, rfl⟩ := hx
  refine ⟨fun w' => by simp [Builtin.lenOf], fun w' n hn _ => ?_, by simp, by simp⟩
  obtain rfl : n = 0 := by omega
  cases ad with
  | none => simp [Builtin.firstCells]
  | some ad => simp [Builtin.firstCells, loadCells, loadCellsFrom]

theorem src_cells {size m g off cap : Nat} {vs : List Value} (hc : cellsAt w g off vs) (hl : vs.length = m * size) (h1 : ∀ u ∈ vs, u.oneCell' = true) :
    Src P w size m (.slice (some ⟨g, off, none⟩) m cap) vs := by
  refine ⟨fun w' => by simp [Builtin.lenOf], fun w' n hn hw => ?_, hl, h1⟩
  have hle : n * size ≤ m * size := Nat.mul_le_mul_right _ hn
  refine run_firstCells_some (P := P) w' size n ⟨g, off, none⟩ m cap (vs.take (n * size)) (by simp; omega) (fun j u hu => ?_)
  rw [addr_add]
  have := (hc.take (n * size)).cell hu
  simpa [World.cell?, hw] using this

theorem srcOf_run (h : Sim X w0 E σ a w) {size m : Nat} {x : AV} {v : Value} {cs : List AV} (hm : M w E x v) (hx : srcOf σ size x = some (m, cs)) (hl : cs.length = m * size) (hc : cs.all AV.cell = true) :
    ∃ news, Src P w size m v news ∧ Ms w E cs news := by
  unfold srcOf at hx
  split at hx
  · rename_i k off n z gr
    split at hx
    · rename_i bcs hk
      split at hx
      · rename_i hcond
        obtain ⟨rfl, hle⟩ := hcond
        simp at hx
        obtain ⟨rfl, rfl⟩ := hx
        rcases hm with ⟨_, _, rfl, rfl, rfl⟩ | ⟨_, rfl, ad, cap, rfl⟩ | ⟨g, cap, ty, sz, hg, rfl, _⟩
        · exact ⟨[], by simpa using src_nil ⟨_, _, rfl⟩, by simp [Ms]⟩
        · exact ⟨[], by simpa using src_nil ⟨_, _, rfl⟩, by simp [Ms]⟩
        · rcases box_vals h hk with ⟨rfl, _⟩ | ⟨g', c, ty', vs, hg', hw, hvl, hvc, hms⟩
          · simp at hle hl
            have hz : n * z = 0 := by omega
            refine ⟨[], ⟨fun w' => by simp [Builtin.lenOf], fun w' n' hn' _ => ?_, by simp [hz], by simp⟩, by simp [hz, Ms]⟩
            have hz' : n' * z = 0 := by have := Nat.mul_le_mul_right z hn'; omega
            simp [Builtin.firstCells, hz', loadCells, loadCellsFrom]
          · obtain rfl : g = g' := by rw [hg] at hg'; simpa using hg'
            have hcl : cellsAt w g 0 vs := ⟨c, ty', _, hw, fun i hi => by simpa using hvc i hi⟩
            have h1 := (hcl.drop off).take (n * z)
            simp only [Nat.zero_add] at h1
            have h2 := (hms.drop off).take (n * z)
            exact ⟨_, src_cells h1 (by rw [h2.len]; exact hl) (h2.cells hc), h2⟩
      · simp at hx
    · simp at hx
  · rename_i b n bcs
    split at hx
    · rename_i hle
      simp at hx
      obtain ⟨rfl, rfl⟩ := hx
      rcases hm with ⟨rfl, rfl, ad, cap, rfl⟩ | ⟨g, off, cap, vs, rfl, hcap, hok, hcl, hms⟩
      · exact ⟨[], by simpa using src_nil ⟨_, _, rfl⟩, by simp [Ms]⟩
      · have h2 := hms.take (n * size)
        exact ⟨_, src_cells (hcl.take _) (by rw [h2.len]; exact hl) (h2.cells hc), h2⟩
    · simp at hx
  · simp only [M] at hm
    subst hm
    simp at hx
    obtain ⟨rfl, rfl⟩ := hx
    exact ⟨[], src_nil ⟨_, _, rfl⟩, by simp [Ms]⟩
  · rename_i s
    split at hx
    · rename_i h1
      subst h1
      simp at hx
      obtain ⟨rfl, rfl⟩ := hx
      simp only [M] at hm
      subst hm
      refine ⟨s.data.toList.map fun b => .int .u8 b.toNat, ⟨fun w' => by simp [Builtin.lenOf], fun w' n' hn' _ => ?_, by simp, ?_⟩, Ms_u8 _⟩
      · simp only [Builtin.firstCells, Sem.run_pure]
        congr 1
        apply Array.ext'
        simp [ByteArray.data_extract, List.extract_eq_take_drop]
      · intro u hu
        simp at hu
        obtain ⟨b, _, rfl⟩ := hu
        rfl
    · simp at hx
  · simp at hx

theorem replZ_run {n size : Nat} {zero : Array Value} (hz : zero.size = size) (hs : 0 < size) : (Array.range (n * size)).map (fun i => zero[i % zero.size]!) = ⟨(List.replicate n zero.toList).flatten⟩ := by
  apply Array.ext'
  apply List.ext_getElem?
  intro i
  induction n generalizing i with
  | zero => simp
  | succ n ih =>
    simp only [List.replicate_succ, List.flatten_cons]
    by_cases hi : i < size
    · rw [List.getElem?_append_left (by simp [hz, hi])]
      have h1 : i < (n + 1) * size := by rw [Nat.add_mul]; omega
      have h2 : i % zero.size = i := Nat.mod_eq_of_lt (by omega)
      simp only [Array.toList_map, Array.toList_range, List.getElem?_map, List.getElem?_range h1, Option.map_some, h2]
      simp [hz, hi]
    · rw [List.getElem?_append_right (by simp [hz]; omega)]
      have := ih (i - size)
      simp only [Array.length_toList, hz]
      rw [← this]
      simp only [Array.toList_map, Array.toList_range, List.getElem?_map]
      by_cases h1 : i < (n + 1) * size
      · have h2 : i - size < n * size := by rw [Nat.add_mul] at h1; omega
        have h3 : i % size = (i - size) % size := by rw [Nat.mod_eq_sub_mod (by omega)]
        simp [h1, h2, hz, h3]
      · have h2 : ¬ i - size < n * size := by rw [Nat.add_mul] at h1; omega
        simp [h1, h2]

theorem Ms_replZ {w : World} {E : Env} (n : Nat) (zero : List Value) : Ms w E (replZ n zero) (List.replicate n zero).flatten := by
  unfold replZ
  induction n with
  | zero => simp [Ms]
  | succ n ih => simp only [List.replicate_succ, List.flatten_cons]; exact (Ms_vals zero).append ih

theorem spl_vals {w : World} {E : Env} {cs vc : List AV} {vs us : List Value} {off : Nat} (hm : Ms w E cs vs) (hu : Ms w E vc us) (hl : off + vc.length ≤ cs.length) :
    Ms w E (spl cs off vc) (vs.take off ++ us ++ vs.drop (off + us.length)) := by
  have hlen := hu.len
  unfold spl
  split
  · rename_i x
    obtain ⟨v, us', rfl, h1, h2⟩ := Ms_cons.1 hu
    simp [Ms] at h2
    subst h2
    have := hm.set off h1
    have hvs := hm.len
    rw [List.set_eq_take_append_cons_drop (l := vs), if_pos (by simp at hl; omega)] at this
    simpa using this
  · rw [hlen]
    exact ((hm.take _).append hu).append (hm.drop _)

end
end Go.Proofs.YtgbpgplkhifgiaaDoor

/- The operations that make or write memory do what the abstract state says, case by case. No condition. -/
set_option linter.unusedVariables false
set_option linter.unusedSimpArgs false
namespace Go.Proofs.YtgbpgplkhifgiaaDoor
open Go Go.RowKit

section
variable {P : Program} {T : TypeId → Option TI} {eqt : List TypeId} {X : Nat → Prop} {w0 : World} {E : Env} {σ : St} {a : Act} {w : World}

/-- The names from b on are free. -/
structure Free (E : Env) (σ : St) (b nx : Nat) : Prop where
  a : E.bl b = none
  p : ¬ E.ph b
  lt : b < nx
  le : σ.nx ≤ nx
  n : ∀ k, nx ≤ k → E.bl k = none ∧ ¬ E.ph k

theorem one_bx {b : Nat} {cs : List AV} {σ : St} : (∀ k, k ≠ b → (blook k ([(b, some cs)] ++ σ.bx)).isSome → blook k ([(b, some cs)] ++ σ.bx) = blook k σ.bx) ∧ (∀ cs', blook b ([(b, some cs)] ++ σ.bx) = some cs' → cs' = cs) := by
  refine ⟨fun k hk _ => ?_, fun cs' h => ?_⟩
  · simp [blook, hk]
  · simp [blook] at h; exact h.symm

theorem sl_new {w wd : World} {E : Env} {b n z sz cap : Nat} {e : TypeId} {c : Array Value} (hwd : wd.heap = w.heap) (hn : n ≤ cap) (hs : cap * z ≤ c.size) (hm : cap ≤ maxLen) :
    M (wd.alloc (.cells c e)) (E.with b w.heap.size) (.sl b 0 n z (some e)) (.slice (some ⟨w.heap.size, 0, none⟩) n cap) := by
  refine .inr (.inr ⟨w.heap.size, cap, e, c.size, by simp [Env.with], rfl, hn, ?_, by omega, fun e' he => ?_⟩)
  · have := heap_alloc_new wd (.cells c e)
    rw [hwd] at this
    simp [rowIn, this]
  · simp at he
    exact ⟨he, rfl, hm⟩

theorem aeff_nil (h : Sim X w0 E σ a w) {b nx : Nat} (hf : Free E σ b nx) (dst : Option Tmp) (hd : ∀ t, dst = some t → t < σ.nt) (z : Nat) (e : TypeId) {s : Sem Next} (hs : s = pure (.value (.slice none 0 0))) :
    Went P X w0 E σ a w b nx dst ⟨.sl b 0 0 z (some e), [(b, some [])]⟩ s := by
  subst hs
  obtain ⟨hg, hs⟩ := h.phantom (d := dst) (x := .sl b 0 0 z (some e)) (v := .slice none 0 0) (b := b) (nx := nx) [(b, some [])] hd hf.a hf.p hf.lt hf.n one_bx.1 one_bx.2
    (.inl ⟨rfl, .inl rfl, rfl, rfl, rfl⟩)
  exact ⟨_, w, _, _, near_ph b E, rfl, .inl rfl, hg, hs⟩

theorem aeff_alloc (hT : TTab P T) (h : Sim X w0 E σ a w) {b nx : Nat} (hf : Free E σ b nx) {t : TypeId} {e : Eff} (o : Oper) (hd : ∀ t, o.dst = some t → t < σ.nt) (ho : o.op = .alloc t) (hv : aeff T b σ o = some e) :
    Went P X w0 E σ a w b nx o.dst e (execOp a.eval o) := by
  simp only [aeff, ho] at hv
  simp only [execOp, ho]
  split at hv
  · rename_i ti hti
    simp at hv
    subst hv
    obtain ⟨z, hz, hc⟩ := (hT _ _ hti).run_zero (P := P) w
    refine went_of ⟨.pointer (some ⟨w.heap.size, 0, none⟩), w.alloc (.cells z.cells t), E.with b w.heap.size, near_with _ _ _, ?_, ?_⟩
    · simp [Instr.alloc, hz, newVar, newRow]
    · have hm : Ms w E (ti.zero.map .val) z.cells.toList := by rw [← hc]; exact Ms_vals _
      have := h.new (d := o.dst) (x := .ptr b 0) (v := .pointer (some ⟨w.heap.size, 0, none⟩)) (b := b) (nx := nx) w rfl rfl rfl rfl hd hf.a hf.p hf.lt hf.n (c := z.cells) (ty := t) hm (by simp) (by simp)
        ⟨w.heap.size, by simp [Env.with], rfl⟩ [(b, some (ti.zero.map .val))] one_bx.1 one_bx.2
      exact this.2
  · simp at hv

theorem aeff_box (h : Sim X w0 E σ a w) {b nx : Nat} (hf : Free E σ b nx) {t : TypeId} {x : Operand} {e : Eff} (o : Oper) (hd : ∀ t, o.dst = some t → t < σ.nt) (ho : o.op = .box t x) (hv : aeff T b σ o = some e) :
    Went P X w0 E σ a w b nx o.dst e (execOp a.eval o) := by
  have hx := h.ev x
  simp only [aeff, ho] at hv
  simp only [execOp, ho]
  split at hv
  · rename_i cs hcs
    simp at hv
    subst hv
    have hm := hx.cs hcs
    refine went_of ⟨.pointer (some ⟨w.heap.size, 0, none⟩), w.alloc (.cells (a.eval x).cells t), E.with b w.heap.size, near_with _ _ _, ?_, ?_⟩
    · simp [Instr.box, newVar, newRow]
    · have := h.new (d := o.dst) (x := .ptr b 0) (v := .pointer (some ⟨w.heap.size, 0, none⟩)) (b := b) (nx := nx) w rfl rfl rfl rfl hd hf.a hf.p hf.lt hf.n (c := (a.eval x).cells) (ty := t) hm (by simp) (by simp)
        ⟨w.heap.size, by simp [Env.with], rfl⟩ [(b, some cs)] one_bx.1 one_bx.2
      exact this.2
  · simp at hv

theorem aeff_bs (hT : TTab P T) (h : Sim X w0 E σ a w) {b nx : Nat} (hf : Free E σ b nx) {t : TypeId} {len : Nat} {ps : Array (Nat × Operand)} {e : Eff} (o : Oper) (hd : ∀ t, o.dst = some t → t < σ.nt) (ho : o.op = .buildSlice t len ps) (hv : aeff T b σ o = some e) :
    Went P X w0 E σ a w b nx o.dst e (execOp a.eval o) := by
  simp only [aeff, ho] at hv
  simp only [execOp, ho]
  split at hv
  · rename_i ti hti
    obtain ⟨d, hu, hod⟩ := (hT _ _ hti).und
    split at hv
    · rename_i el hdl
      rw [hdl] at hod
      cases d <;> simp [TD.of] at hod
      rw [hod] at hu
      split at hv
      · rename_i eti het
        split at hv
        · rename_i cs hcs
          split at hv
          · rename_i hc
            obtain ⟨h1, h2, h3, h4⟩ := hc
            simp at hv
            subst hv
            have hsz := (hT _ _ het).run_size (P := P) w
            obtain ⟨z, hz, hzc⟩ := (hT _ _ het).run_zero (P := P) w
            have hzs : z.cells.size = eti.size := by rw [← h1, ← hzc]; simp
            have hr0 := replZ_run (n := len) hzs h3
            have hm0 : Ms w E (replZ len eti.zero) (List.replicate len z.cells.toList).flatten := by rw [hzc]; exact Ms_replZ len eti.zero
            obtain ⟨us, hfill, hms⟩ := run_aFill (w := w) (E := E) (evp σ ps.toList) (ps.toList.map fun (i, x) => (i, a.eval x)) _ ⟨_⟩ cs (Mp_evp h ps.toList) hm0 hcs
            have hus : us.size = len * eti.size := by have := hms.len; simp at this; omega
            refine went_of ⟨.slice (some ⟨w.heap.size, 0, none⟩) len len, w.alloc (.cells us el), E.with b w.heap.size, near_with _ _ _, ?_, ?_⟩
            · have h5 : ¬ (len * eti.size > 2 ^ 24) := by omega
              simp only [Instr.buildSlice, Sem.run_bind, run_underlying hu, Result.andThen_ok, hsz]
              rw [if_neg h5]
              by_cases h0 : len * eti.size = 0
              · have hl0 : len = 0 := by rcases Nat.mul_eq_zero.1 h0 with h | h <;> omega
                subst hl0
                simp at hfill
                have hr00 : Array.range 0 = #[] := rfl
                have hfill' : Instr.fill (fun i => some (i * eti.size, eti.size)) #[] (ps.toList.map fun x => (x.1, a.eval x.2)) = some us := hfill
                simp [hr00, hfill', newRow]
              · simp only [h0, if_false, Sem.run_bind, hz, Result.andThen_ok, Sem.run_pure, hr0]
                have : (ps.map fun (x : Nat × Operand) => (x.1, a.eval x.2)).toList = ps.toList.map fun (i, x) => (i, a.eval x) := by simp
                simp [hfill, newRow]
            · have := h.new (d := o.dst) (x := .sl b 0 len eti.size (some el)) (v := .slice (some ⟨w.heap.size, 0, none⟩) len len) (b := b) (nx := nx) w rfl rfl rfl rfl hd hf.a hf.p hf.lt hf.n (c := us) (ty := el) hms (by simp) (by simp)
                (sl_new (sz := 0) rfl (Nat.le_refl _) (Nat.le_of_eq hus.symm) (by have : len ≤ len * eti.size := Nat.le_mul_of_pos_right _ h3; unfold maxLen; omega)) [(b, some cs)] one_bx.1 one_bx.2
              exact this.2
          · simp at hv
        · simp at hv
      · simp at hv
    · simp at hv
  · simp at hv

theorem aeff_ms (hT : TTab P T) (h : Sim X w0 E σ a w) {b nx : Nat} (hf : Free E σ b nx) {t : TypeId} {l c : Operand} {e : Eff} (o : Oper) (hd : ∀ t, o.dst = some t → t < σ.nt) (ho : o.op = .makeSlice t l c) (hv : aeff T b σ o = some e) :
    Went P X w0 E σ a w b nx o.dst e (execOp a.eval o) := by
  have hl := h.ev l
  have hcc := h.ev c
  simp only [aeff, ho] at hv
  simp only [execOp, ho]
  split at hv
  · rename_i ti hti
    obtain ⟨d, hu, hod⟩ := (hT _ _ hti).und
    split at hv
    · rename_i el k n k' m hdl e1 e2
      rw [e1] at hl; rw [e2] at hcc
      simp only [M] at hl hcc
      rw [hdl] at hod
      cases d <;> simp [TD.of] at hod
      rw [hod] at hu
      split at hv
      · rename_i eti het
        split at hv
        · rename_i hc
          obtain ⟨h1, h2, h3, h4, h5, h6⟩ := hc
          simp at hv
          subst hv
          obtain ⟨i, zz, hi, his, hib, hiz, hizc⟩ := (hT _ _ het).info
          have hsz := (hT _ _ het).run_size (P := P) w
          obtain ⟨z, hz, hzc⟩ := (hT _ _ het).run_zero (P := P) w
          have hzs : z.cells.size = eti.size := by rw [← h1, ← hzc]; simp
          have hr0 := replZ_run (n := m.toNat) hzs h2
          have hwn : IntKind.i64.wrap n = n := by
            simp only [IntKind.wrap, IntKind.signed, IntKind.bits]; simp; omega
          have hwm : IntKind.i64.wrap m = m := by
            simp only [IntKind.wrap, IntKind.signed, IntKind.bits]; simp; omega
          have hbm : (i.bytes : Int) * m ≤ 2 ^ 48 := by
            have h7 : (i.bytes : Int) ≤ 1024 := by omega
            have : (i.bytes : Int) * m ≤ 1024 * 4294967296 := Int.mul_le_mul h7 h5 (by omega) (by omega)
            omega
          refine went_of ⟨.slice (some ⟨w.heap.size, 0, none⟩) n.toNat m.toNat, w.alloc (.cells ⟨(List.replicate m.toNat z.cells.toList).flatten⟩ el), E.with b w.heap.size, near_with _ _ _, ?_, ?_⟩
          · have hti2 : (typeInfo el).run P w = .ok i w := by simp [typeInfo, hi]
            have hroom : (askRoom (m.toNat * i.bytes)).run P w = .ok () w := by
              unfold askRoom; split <;> simp [mark, Sem.run]
            have c1 : ¬ ((decide (m < 0) || decide ((i.bytes : Int) * m > 2 ^ 48) || decide (n < 0) || decide (n > m)) = true) := by
              simp; omega
            simp only [Instr.makeSlice, Sem.run_bind, run_underlying hu, Result.andThen_ok, hl, hcc, asInt, asIntOf, Sem.run_pure, hti2, hwn, hwm]
            rw [if_neg c1]
            by_cases h0 : m.toNat * eti.size = 0
            · have hm0 : m.toNat = 0 := by rcases Nat.mul_eq_zero.1 h0 with h | h <;> omega
              have hr00 : Array.range 0 = #[] := rfl
              simp [hroom, hsz, hm0, newRow, hr00]
            · simp only [hroom, hsz, h0, if_false, hz, hr0, Sem.run_bind, Result.andThen_ok, Sem.run_pure]
              simp [newRow]
          · have hm0 : Ms w E (replZ n.toNat eti.zero) (List.replicate n.toNat z.cells.toList).flatten := by rw [hzc]; exact Ms_replZ _ _
            have lenf : ∀ q : Nat, (List.replicate q z.cells.toList).flatten.length = q * eti.size := by intro q; simp [hzs]
            have pre : ∀ i, i < (List.replicate n.toNat z.cells.toList).flatten.length → (List.replicate m.toNat z.cells.toList).flatten[i]? = (List.replicate n.toNat z.cells.toList).flatten[i]? := by
              intro i hi
              have : m.toNat = n.toNat + (m.toNat - n.toNat) := by omega
              rw [this, ← List.replicate_append_replicate, List.flatten_append, List.getElem?_append_left hi]
            have hle : n.toNat * eti.size ≤ m.toNat * eti.size := Nat.mul_le_mul_right _ (by omega)
            have := h.new (d := o.dst) (x := .sl b 0 n.toNat eti.size (some el)) (v := .slice (some ⟨w.heap.size, 0, none⟩) n.toNat m.toNat) (b := b) (nx := nx) w rfl rfl rfl rfl hd hf.a hf.p hf.lt hf.n (c := ⟨(List.replicate m.toNat z.cells.toList).flatten⟩) (ty := el) hm0 (by simp only [List.size_toArray, lenf]; exact hle) (fun i hi => by simpa using pre i hi)
              (sl_new (sz := 0) rfl (by omega) (by simp [hzs]) (by unfold maxLen; omega)) [(b, some (replZ n.toNat eti.zero))] one_bx.1 one_bx.2
            exact this.2
        · simp at hv
      · simp at hv
    · simp at hv
  · simp at hv

theorem vals_prefix {c : Array Value} {vs ns : List Value} {off : Nat} (hvl : vs.length ≤ c.size) (hvc : ∀ i, i < vs.length → c[i]? = vs[i]?) (hn : off + ns.length ≤ vs.length) :
    (c.toList.take off ++ ns ++ c.toList.drop (off + ns.length)).toArray.size = c.size ∧
    ∀ i, i < (vs.take off ++ ns ++ vs.drop (off + ns.length)).length → (c.toList.take off ++ ns ++ c.toList.drop (off + ns.length)).toArray[i]? = (vs.take off ++ ns ++ vs.drop (off + ns.length))[i]? := by
  constructor
  · simp; omega
  · intro i hi
    have hlen : (vs.take off ++ ns ++ vs.drop (off + ns.length)).length = vs.length := by simp; omega
    rw [hlen] at hi
    have hci : c.toList[i]? = vs[i]? := by simpa using hvc i hi
    have m1 : min off c.toList.length = off := by simp; omega
    have m2 : min off vs.length = off := by omega
    simp only [List.getElem?_toArray, List.getElem?_append, List.length_append, List.length_take, m1, m2, List.getElem?_take, List.getElem?_drop]
    by_cases h1 : i < off + ns.length
    · simp only [h1, if_true]
      by_cases h2 : i < off
      · simp only [h2, if_true, hci]
      · simp only [h2, if_false]
    · simp only [h1, if_false]
      rw [show off + ns.length + (i - (off + ns.length)) = i by omega]
      exact hci

theorem aeff_store (hT : TTab P T) (h : Sim X w0 E σ a w) {b nx : Nat} (hf : Free E σ b nx) {t : TypeId} {x y : Operand} {e : Eff} (o : Oper) (hd : ∀ t, o.dst = some t → t < σ.nt) (ho : o.op = .store t x y) (hv : aeff T b σ o = some e) :
    Went P X w0 E σ a w b nx o.dst e (execOp a.eval o) := by
  have hx := h.ev x
  have hy := h.ev y
  simp only [aeff, ho] at hv
  simp only [execOp, ho]
  split at hv
  · rename_i ti k off vc hti e1 e2
    split at hv
    · rename_i cs hk
      split at hv
      · rename_i hc
        obtain ⟨h1, h2, h3⟩ := hc
        simp at hv
        subst hv
        rw [e1] at hx
        obtain ⟨g, hg, hp⟩ := hx
        have hmy := hy.cs e2
        have hly := hmy.len
        have hone := hmy.cells h3
        have hsz := (hT _ _ hti).run_size (P := P) w
        have hvs : (a.eval y).cells.size = ti.size := by simp at hly; omega
        rcases box_vals h hk with ⟨rfl, hph⟩ | ⟨g', c, ty, vs, hg', hw, hvl, hvc, hms⟩
        · rw [h.px k hph] at hg; simp at hg
        · obtain rfl : g = g' := by rw [hg] at hg'; simpa using hg'
          have hml := hms.len
          have hst := run_storeCells_at P g off ty (a.eval y).cells.toList 0 c w hw (by simp at hly ⊢; omega) hone
          simp only [Nat.add_zero] at hst
          obtain ⟨p1, p2⟩ := vals_prefix (ns := (a.eval y).cells.toList) (off := off) hvl hvc (by simp at hly ⊢; omega)
          have hs := h.set (d := o.dst) (x := .any) (v := undef) (nx := nx) hd (by unfold aBox at hk; rw [hk]; rfl) hg hw p1 hf.le (spl_vals hms hmy (by omega)) (by simp at hly ⊢; omega) p2 trivial
          refine ⟨.skip, _, E, undef, near_refl _ _, ?_, .inr ⟨rfl, rfl⟩, Grow.refl _ _, hs⟩
          have hne : ¬ ((a.eval y).cells.size ≠ ti.size) := by omega
          simp only [hp, Instr.storeAt, Instr.sureAddr, storeVar, Sem.run_bind, Sem.run_pure, Result.andThen_ok, hsz]
          rw [if_neg hne]
          simp only [hst, Result.andThen_ok, Sem.run_pure]
      · simp at hv
    · simp at hv
  · simp at hv

theorem aeff_conv (hT : TTab P T) (h : Sim X w0 E σ a w) {b nx : Nat} (hf : Free E σ b nx) {s d : TypeId} {x : Operand} {e : Eff} (o : Oper) (hd : ∀ t, o.dst = some t → t < σ.nt) (ho : o.op = .convert s d x) (hv : aeff T b σ o = some e) :
    Went P X w0 E σ a w b nx o.dst e (execOp a.eval o) := by
  have hx := h.ev x
  simp only [aeff, ho] at hv
  simp only [execOp, ho]
  split at hv
  · rename_i si di str hs hdd e1
    split at hv
    · rename_i el hdl
      split at hv
      · rename_i eti het
        split at hv
        · rename_i hk
          simp at hv
          subst hv
          rw [e1] at hx
          simp only [M] at hx
          obtain ⟨d1, hu1, ho1⟩ := (hT _ _ hs).und
          obtain ⟨d2, hu2, ho2⟩ := (hT _ _ hdd).und
          obtain ⟨d3, hu3, ho3⟩ := (hT _ _ het).und
          rw [hdl] at ho2; rw [hk] at ho3
          cases d2 <;> simp [TD.of] at ho2
          rw [ho2] at hu2
          cases d3 <;> simp [TD.of] at ho3
          rw [ho3] at hu3
          have hr := Lib.run_convert_string_bytes (P := P) w s d el str hu1 hu2 hu3
          have hcap := grownCap_ge w str.size 0 el
          have hcell : cellsAt (Lib.bytesWorld w el str) w.heap.size 0 (str.data.toList.map fun b => Value.int .u8 b.toNat) := by
            refine ⟨_, _, _, Lib.bytesWorld_at_new w el str, fun i hi => ?_⟩
            have hi' : i < str.data.size := by simpa using hi
            have hi2 : i < str.size := hi'
            simp [Lib.bytesCells, Array.getElem?_append, hi', hi2, Nat.not_le.2 hi2]
          obtain ⟨hg, hs'⟩ := h.stable (d := o.dst) (x := .ds true str.size (str.data.toList.map u8)) (v := .slice (some ⟨w.heap.size, 0, none⟩) str.size (grownCap w str.size 0 el)) (nx := nx) (w' := Lib.bytesWorld w el str) rfl rfl rfl
            (fun g hg => Lib.bytesWorld_at_old w el str g hg) (Lib.bytesWorld_size w el str) hd hf.le
            (.inr ⟨w.heap.size, 0, _, _, rfl, hcap, .inl (.inl rfl), hcell, Ms_u8 _⟩)
          refine went_of ⟨_, _, { E with S := fun g => g = w.heap.size ∨ E.S g }, fun _ _ => ⟨rfl, Iff.rfl⟩, ?_, hg, hs'⟩
          rw [hx, hr]
        · simp at hv
      · simp at hv
    · simp at hv
  · simp at hv

theorem dstOf_run (h : Sim X w0 E σ a w) {e : TypeId} {size n : Nat} {k : Option Nat} {x : AV} {v : Value} {cs : List AV} (hm : M w E x v) (hx : dstOf σ e size x = some (k, n, cs)) :
    ∃ vs, ownsR w e size v n vs ∧ Ms w E cs vs ∧ ((∀ k', k = some k' → (blook k' σ.bx).isSome)) ∧
      (v = .slice none 0 0 ∨ ∃ g cap c ty k', k = some k' ∧ v = .slice (some ⟨g, 0, none⟩) n cap ∧ E.bl k' = some g ∧ w.heap[g]? = some (.cells c ty (0, 0)) ∧ vs.length ≤ c.size) := by
  unfold dstOf at hx
  split at hx
  · rename_i k' off n' z gr
    split at hx
    · rename_i bcs hk
      split at hx
      · rename_i hc
        obtain ⟨rfl, rfl, rfl, hl⟩ := hc
        simp at hx
        obtain ⟨rfl, rfl, rfl⟩ := hx
        have hlive : (blook k' σ.bx).isSome := by unfold aBox at hk; rw [hk]; rfl
        rcases hm with ⟨_, hph, rfl, _, rfl⟩ | ⟨hgr, _⟩ | ⟨g, cap, ty, sz, hg, rfl, hcap, hri, hle, hgr⟩
        · have : bcs = [] := List.eq_nil_of_length_eq_zero (by omega)
          subst this
          exact ⟨[], ownsR_nil w e z, by simp [Ms], fun k'' hk'' => by simp at hk''; subst hk''; exact hlive, .inl rfl⟩
        · simp at hgr
        · obtain ⟨rfl, _, hcm⟩ := hgr e rfl
          rcases box_vals h hk with ⟨rfl, hph⟩ | ⟨g', c, ty', vs, hg', hw, hvl, hvc, hms⟩
          · rw [h.px k' hph] at hg; simp at hg
          · obtain rfl : g = g' := by rw [hg] at hg'; simpa using hg'
            have hml := hms.len
            have hti : ty' = ty ∧ c.size = sz := by
              unfold rowIn at hri; rw [hw] at hri; simpa using hri
            obtain ⟨rfl, hcs⟩ := hti
            refine ⟨vs, ⟨by omega, .inr ⟨g, cap, c, rfl, hw, hcap, hcm, by omega, ?_⟩⟩, hms, fun k'' hk'' => by simp at hk''; subst hk''; exact hlive, .inr ⟨g, cap, c, ty', k', rfl, rfl, hg, hw, hvl⟩⟩
            apply List.ext_getElem?
            intro i
            rw [List.getElem?_take]
            split
            · have := hvc i (by omega)
              simpa using this
            · rw [List.getElem?_eq_none (by omega)]
      · simp at hx
    · simp at hx
  · simp only [M] at hm
    subst hm
    simp at hx
    obtain ⟨rfl, rfl, rfl⟩ := hx
    exact ⟨[], ownsR_nil w e size, by simp [Ms], by simp, .inl rfl⟩
  · simp at hx

theorem app_bx {b : Nat} {k : Option Nat} {cs : List AV} {σ : St} : (∀ q, q ≠ b → (blook q (((b, some cs) :: killK k) ++ σ.bx)).isSome → blook q (((b, some cs) :: killK k) ++ σ.bx) = blook q σ.bx) ∧
    (∀ cs', blook b (((b, some cs) :: killK k) ++ σ.bx) = some cs' → cs' = cs) := by
  refine ⟨fun q hq hs => ?_, fun cs' h => ?_⟩
  · cases k with
    | none => simp [killK, blook, hq]
    | some k =>
      simp [killK, blook, hq] at hs ⊢
      intro hqk
      subst hqk
      simp at hs
  · cases k <;> (simp [killK, blook] at h; exact h.symm)

theorem aeff_append (hT : TTab P T) (h : Sim X w0 E σ a w) {b nx : Nat} (hf : Free E σ b nx) {args : Array Operand} {argTypes : Array TypeId} {e : Eff} (o : Oper) (hd : ∀ t, o.dst = some t → t < σ.nt) (ho : o.op = .call ⟨.builtin .append, args, argTypes⟩) (hv : aeff T b σ o = some e) :
    Went P X w0 E σ a w b nx o.dst e (execOp a.eval o) := by
  simp only [aeff, ho] at hv
  split at hv
  · rename_i s x t u e1 e2
    split at hv
    · rename_i ti ui hti hui
      split at hv
      · rename_i el hdl
        split at hv
        · rename_i eti het
          split at hv
          · rename_i k n cs m news hds hsr
            split at hv
            · rename_i hc
              obtain ⟨h1, h2, h3, h4, h5, h6, h7⟩ := hc
              simp only [Option.some.injEq] at hv
              subst hv
              obtain ⟨d, hu, hod⟩ := (hT _ _ hti).und
              rw [hdl] at hod
              cases d <;> simp [TD.of] at hod
              rw [hod] at hu
              obtain ⟨d2, hu2, hod2⟩ := (hT _ _ hui).und
              have hni : ∀ k, d2 ≠ .int k := by
                intro k hk; subst hk; simp [TD.of] at hod2; rw [← hod2] at h7; simp [TD.isInt] at h7
              obtain ⟨i, z, hi, his, hib, hiz, hizc⟩ := (hT _ _ het).info
              have hzs : z.cells.size = i.size := by rw [his, ← h1, ← hizc]; simp
              obtain ⟨vs, hown, hms, hlive, hvv⟩ := dstOf_run h (h.ev s) hds
              obtain ⟨ns, hsrc, hmn⟩ := srcOf_run (P := P) h (h.ev x) hsr h4 h3
              rw [← his] at hown hsrc
              have hmx : n + m ≤ maxLen := by unfold maxLen; omega
              have hby : (n + m) * i.bytes ≤ 140737488355328 := by
                have : (n + m) * i.bytes ≤ 4294967296 * 1024 := Nat.mul_le_mul h5 (by omega)
                omega
              obtain ⟨v', w', hr, hown', hcase⟩ := run_app (P := P) (ty := o.type) hu ⟨d2, hu2, hni⟩ hi hiz hzs hown hsrc hmx hby
              have hrun : (execOp a.eval o).run P w = .ok (.value v') w' := by
                have ea : args = #[s, x] := Array.ext' (by simp [e1])
                have et : argTypes = #[t, u] := Array.ext' (by simp [e2])
                subst ea; subst et
                simp only [execOp, ho, resolve, invoke, builtin, Sem.run_bind, Sem.run_pure, Result.andThen_ok, List.map_toArray, List.map_cons, List.map_nil, hr]
              have hmall := hms.append hmn
              have hlen : (vs ++ ns).length = (n + m) * i.size := hown'.1
              rcases hcase with ⟨hv0, hm0, hv', hw'⟩ | ⟨cap, c, hv', hw'⟩ | ⟨g, cap, c, c1, hv0, hv', hw', hw1, hsz1⟩
              · subst hv'; subst hw'
                have hn0 : n = 0 := by
                  rcases hown.2 with ⟨_, h8⟩ | ⟨g, cap, cur, h8, _⟩
                  · exact h8
                  · rw [hv0] at h8; simp at h8
                subst hm0; subst hn0
                have hz : (vs ++ ns) = [] := List.eq_nil_of_length_eq_zero (by simpa using hlen)
                have hcs0 : cs ++ news = [] := List.eq_nil_of_length_eq_zero (by rw [← hmall.len, hz]; rfl)
                obtain ⟨hg, hs⟩ := h.phantom (d := o.dst) (x := .sl b 0 0 eti.size (some el)) (v := .slice none 0 0) (b := b) (nx := nx) ((b, some (cs ++ news)) :: killK k) hd hf.a hf.p hf.lt hf.n app_bx.1
                  (fun cs' hcs' => by rw [app_bx.2 cs' hcs', hcs0]) (.inl ⟨rfl, .inl rfl, rfl, rfl, rfl⟩)
                exact ⟨_, _, _, _, near_ph b E, hrun, .inl rfl, hg, hs⟩
              · subst hv'; subst hw'
                rcases hown'.2 with ⟨h8, _⟩ | ⟨g', cap', cur, h8, hgg, hnc, hcm, hcs, htk⟩
                · simp at h8
                · simp at h8
                  obtain ⟨rfl, rfl⟩ := h8
                  have hnew : (w.drew.alloc (.cells c el)).heap[w.heap.size]? = some (.cells c el) := heap_alloc_new w.drew _
                  rw [hnew] at hgg
                  simp at hgg
                  obtain rfl := hgg
                  have hpre : ∀ i, i < (vs ++ ns).length → c[i]? = (vs ++ ns)[i]? := by
                    intro j hj
                    rw [← htk, List.getElem?_take, if_pos (by omega)]
                    simp
                  have := h.new (d := o.dst) (x := .sl b 0 (n + m) eti.size (some el)) (v := .slice (some ⟨w.heap.size, 0, none⟩) (n + m) cap) (b := b) (nx := nx) w.drew rfl rfl rfl rfl hd hf.a hf.p hf.lt hf.n (c := c) (ty := el) hmall (by rw [hlen]; exact Nat.le_trans (Nat.mul_le_mul_right _ hnc) hcs) hpre
                    (sl_new (sz := 0) rfl hnc (by rw [← his]; exact hcs) hcm) ((b, some (cs ++ news)) :: killK k) app_bx.1 app_bx.2
                  exact ⟨_, _, _, _, near_with _ _ _, hrun, .inl rfl, this.2⟩
              · subst hw'
                rcases hvv with h9 | ⟨g', cap', c0, ty, k', rfl, h9, hbl, hw0, hvl0⟩
                · rw [h9] at hv0; simp at hv0
                · rw [hv0] at h9
                  simp at h9
                  obtain ⟨rfl, rfl⟩ := h9
                  subst hv'
                  rcases hown.2 with ⟨h8, _⟩ | ⟨g1, cap1, cur1, h8, hgg1, _, _, hcs1, _⟩
                  · rw [hv0] at h8; simp at h8
                  · rw [hv0] at h8
                    simp at h8
                    obtain ⟨rfl, rfl⟩ := h8
                    rw [hw0] at hgg1
                    simp at hgg1
                    obtain ⟨rfl, rfl⟩ := hgg1
                    rcases hown'.2 with ⟨h8, _⟩ | ⟨g2, cap2, cur2, h8, hgg2, hnc, hcm, hcs2, htk⟩
                    · simp at h8
                    · simp at h8
                      obtain ⟨rfl, rfl⟩ := h8
                      rw [setRow_heap w g c0 c ty _ hw0] at hgg2
                      simp at hgg2
                      obtain rfl := hgg2
                      have hsz : c.size = c0.size := by
                        rw [hw0] at hw1
                        simp at hw1
                        rw [hsz1, hw1]
                      have hpre : ∀ i, i < (vs ++ ns).length → c[i]? = (vs ++ ns)[i]? := by
                        intro j hj
                        rw [← htk, List.getElem?_take, if_pos (by omega)]
                        simp
                      have := h.setAs (d := o.dst) (x := .sl b 0 (n + m) eti.size (some ty)) (v := .slice (some ⟨g, 0, none⟩) (n + m) cap) (k := k') (b := b) (nx := nx) (c' := c) hd (hlive k' rfl) hbl hw0 hsz hf.a hf.p hf.lt hf.n hmall
                        (by rw [hlen, ← hsz]; exact Nat.le_trans (Nat.mul_le_mul_right _ hnc) hcs2) hpre
                        (.inr (.inr ⟨g, cap, ty, c.size, by simp [Env.with], rfl, hnc, by simp [rowIn, setRow_heap w g c0 c ty _ hw0], by rw [← his]; omega, fun e' he' => by
                          simp at he'
                          exact ⟨he', rfl, hcm⟩⟩))
                      exact ⟨_, _, _, _, near_with _ _ _, hrun, .inl rfl, this⟩
            · simp at hv
          · simp at hv
        · simp at hv
      · simp at hv
    · simp at hv
  · simp at hv

theorem aeff_copy (hT : TTab P T) (h : Sim X w0 E σ a w) {b nx : Nat} (hf : Free E σ b nx) {args : Array Operand} {argTypes : Array TypeId} {e : Eff} (o : Oper) (hd : ∀ t, o.dst = some t → t < σ.nt) (ho : o.op = .call ⟨.builtin .copy, args, argTypes⟩) (hv : aeff T b σ o = some e) :
    Went P X w0 E σ a w b nx o.dst e (execOp a.eval o) := by
  simp only [aeff, ho] at hv
  split at hv
  · rename_i s x t u e1 e2
    split at hv
    · rename_i ti hti
      split at hv
      · rename_i el hdl
        split at hv
        · rename_i eti k off n z gr het es
          split at hv
          · rename_i cs m news hk hsr
            split at hv
            · rename_i hc
              obtain ⟨rfl, h3, h4, h5, h6⟩ := hc
              simp only [Option.some.injEq] at hv
              subst hv
              obtain ⟨d, hu, hod⟩ := (hT _ _ hti).und
              rw [hdl] at hod
              cases d <;> simp [TD.of] at hod
              rw [hod] at hu
              have hsz := (hT _ _ het).run_size (P := P) w
              obtain ⟨ns, hsrc, hmn⟩ := srcOf_run (P := P) h (h.ev x) hsr h4 h3
              have hdst := h.ev s
              rw [es] at hdst
              have hnl := hmn.len
              have hlen := hsrc.len w
              have hcut := hsrc.upto w (min m n) (Nat.min_le_left _ _) rfl
              have hmt := hmn.take (min m n * eti.size)
              have hcut' : (Builtin.firstCells eti.size (m.min n) (a.eval x)).run P w = .ok ⟨ns.take (min m n * eti.size)⟩ w := hcut
              have htl : (ns.take (min m n * eti.size)).length = min m n * eti.size := by
                have : min m n * eti.size ≤ m * eti.size := Nat.mul_le_mul_right _ (Nat.min_le_left _ _)
                simp; omega
              have hone : ∀ u ∈ ns.take (min m n * eti.size), u.oneCell' = true := fun u hu => hsrc.one u (List.mem_of_mem_take hu)
              have hnm : min m n * eti.size ≤ n * eti.size := Nat.mul_le_mul_right _ (Nat.min_le_right _ _)
              have ea : args = #[s, x] := Array.ext' (by simp [e1])
              have et : argTypes = #[t, u] := Array.ext' (by simp [e2])
              subst ea; subst et
              have zero : ∀ ad cap, n = 0 → a.eval s = .slice ad 0 cap → (execOp a.eval o).run P w = .ok (.value (.int .i64 (min m n : Nat))) w := by
                intro ad cap hn hs
                subst hn
                have h0 : ns.take (min m 0 * eti.size) = [] := by simp
                rw [h0] at hcut'
                have hcut0 : (Builtin.firstCells eti.size 0 (a.eval x)).run P w = .ok #[] w := by
                  have : m.min 0 = 0 := Nat.min_zero m
                  rw [this] at hcut'; exact hcut'
                simp only [execOp, ho, resolve, invoke, builtin, Sem.run_bind, Sem.run_pure, Result.andThen_ok, List.map_toArray, List.map_cons, List.map_nil]
                rw [hs]
                cases ad <;> simp [Builtin.copy_, run_underlying hu, hlen, hsz, hcut0, storeCells, goInt]
              have keepbox : min m n * eti.size = 0 → splice cs off (news.take (min m n * eti.size)) = cs := by
                intro h0; simp [h0, splice]
              have hlive : (blook k σ.bx).isSome := by unfold aBox at hk; rw [hk]; rfl
              have same : ∀ x', n = 0 → (execOp a.eval o).run P w = .ok (.value x') w → M w E (.val (.int .i64 (min m n : Nat))) x' → Went P X w0 E σ a w b nx o.dst ⟨.val (.int .i64 (min m n : Nat)), [(k, some (splice cs off (news.take (min m n * eti.size))))]⟩ (execOp a.eval o) := by
                intro x' hn hr hm
                rw [keepbox (by simp [hn])]
                have bk : ∀ k', blook k' ([(k, some cs)] ++ σ.bx) = blook k' σ.bx := by
                  intro k'
                  simp only [List.cons_append, List.nil_append, blook]
                  split
                  · rename_i e; subst e; exact hk.symm
                  · rfl
                refine ⟨_, _, E, x', near_refl _ _, hr, .inl rfl, Grow.refl _ _, ?_⟩
                exact h.step ⟨fun _ _ h => h, fun _ h => h, fun _ h => h, fun _ h => h, fun _ _ h => h, fun _ _ => rfl⟩ ⟨fun _ h => h, rfl⟩ hd hm (fun k' cs' hk' => h.bx k' cs' (by rw [← bk]; exact hk')) (fun k' g' hk' => h.own k' g' (by rw [← bk]; exact hk')) (fun k1 k2 g' h1 h2 => h.inj k1 k2 g' (by rw [← bk]; exact h1) (by rw [← bk]; exact h2)) h.lim h.keep (fun k hk => h.fr k (Nat.le_trans hf.le hk)) h.px
              rcases hdst with ⟨_, _, hn, _, hs⟩ | ⟨_, hn, ad, cap, hs⟩ | ⟨g, cap, ty, sz, hg, hs, hcap, hri, hle, _⟩
              · exact same _ hn (zero none 0 hn hs) rfl
              · exact same _ hn (zero ad cap hn hs) rfl
              · rcases box_vals h hk with ⟨rfl, hph⟩ | ⟨g', c, ty', vs, hg', hw, hvl, hvc, hms⟩
                · rw [h.px k hph] at hg; simp at hg
                · obtain rfl : g = g' := by rw [hg] at hg'; simpa using hg'
                  have hml := hms.len
                  have hfit : off + 0 + (ns.take (min m n * eti.size)).length ≤ c.size := by rw [htl]; omega
                  have hst := run_storeCells_at P g off ty' (ns.take (min m n * eti.size)) 0 c w hw hfit hone
                  simp only [Nat.add_zero] at hst
                  obtain ⟨p1, p2⟩ := vals_prefix (ns := ns.take (min m n * eti.size)) (off := off) hvl hvc (by rw [htl]; omega)
                  have hsp : Ms w E (splice cs off (news.take (min m n * eti.size))) (vs.take off ++ ns.take (min m n * eti.size) ++ vs.drop (off + (ns.take (min m n * eti.size)).length)) := by
                    unfold splice
                    rw [← hmt.len]
                    exact ((hms.take _).append hmt).append (hms.drop _)
                  have hs' := h.set (d := o.dst) (x := .val (.int .i64 (min m n : Nat))) (v := .int .i64 (min m n : Nat)) (nx := nx) hd hlive hg hw p1 hf.le hsp (by simp only [List.length_append, List.length_take, List.length_drop]; omega) p2 rfl
                  refine ⟨_, _, E, _, near_refl _ _, ?_, .inl rfl, Grow.refl _ _, hs'⟩
                  simp only [execOp, ho, resolve, invoke, builtin, Sem.run_bind, Sem.run_pure, Result.andThen_ok, List.map_toArray, List.map_cons, List.map_nil]
                  rw [hs]
                  simp [Builtin.copy_, run_underlying hu, hlen, hsz, hcut', hst, goInt]
            · simp at hv
          · simp at hv
        · simp at hv
      · simp at hv
    · simp at hv
  · simp at hv

/-- Whatever makes or writes memory. -/
theorem aeff_run (hT : TTab P T) (h : Sim X w0 E σ a w) {b nx : Nat} (hf : Free E σ b nx) {e : Eff} (o : Oper) (hd : ∀ t, o.dst = some t → t < σ.nt) (hv : aeff T b σ o = some e) :
    Went P X w0 E σ a w b nx o.dst e (execOp a.eval o) := by
  have hv0 := hv
  generalize ho : o.op = op at hv
  cases op
  case alloc => exact aeff_alloc hT h hf o hd ho hv0
  case box => exact aeff_box h hf o hd ho hv0
  case buildSlice => exact aeff_bs hT h hf o hd ho hv0
  case makeSlice => exact aeff_ms hT h hf o hd ho hv0
  case store => exact aeff_store hT h hf o hd ho hv0
  case convert => exact aeff_conv hT h hf o hd ho hv0
  case move x =>
    have key : x = .const (.slice none 0 0) := by
      cases x with
      | const u =>
        cases u with
        | slice ad n c =>
          cases ad with
          | none =>
            cases n with
            | zero =>
              cases c with
              | zero => rfl
              | succ c => simp [aeff, ho] at hv0
            | succ n => simp [aeff, ho] at hv0
          | some ad => simp [aeff, ho] at hv0
        | _ => simp [aeff, ho] at hv0
      | _ => simp [aeff, ho] at hv0
    subst key
    simp only [aeff, ho] at hv0
    split at hv0
    · split at hv0
      · split at hv0
        · simp at hv0; subst hv0
          exact aeff_nil h hf o.dst hd _ _ (by simp only [execOp, ho]; rfl)
        · simp at hv0
      · simp at hv0
    · simp at hv0
  case assign x =>
    have key : x = .const (.slice none 0 0) := by
      cases x with
      | const u =>
        cases u with
        | slice ad n c =>
          cases ad with
          | none =>
            cases n with
            | zero =>
              cases c with
              | zero => rfl
              | succ c => simp [aeff, ho] at hv0
            | succ n => simp [aeff, ho] at hv0
          | some ad => simp [aeff, ho] at hv0
        | _ => simp [aeff, ho] at hv0
      | _ => simp [aeff, ho] at hv0
    subst key
    simp only [aeff, ho] at hv0
    split at hv0
    · split at hv0
      · split at hv0
        · simp at hv0; subst hv0
          exact aeff_nil h hf o.dst hd _ _ (by simp only [execOp, ho]; rfl)
        · simp at hv0
      · simp at hv0
    · simp at hv0
  case call c =>
    obtain ⟨callee, args, argTypes⟩ := c
    cases callee
    case builtin bi =>
      cases bi
      case append => exact aeff_append hT h hf o hd ho hv0
      case copy => exact aeff_copy hT h hf o hd ho hv0
      all_goals (simp only [aeff, ho] at hv0; exact absurd hv0 (by simp))
    all_goals (simp only [aeff, ho] at hv0; exact absurd hv0 (by simp))
  all_goals (simp only [aeff, ho] at hv0; exact absurd hv0 (by simp))

end
end Go.Proofs.YtgbpgplkhifgiaaDoor
