/- The abstract values of the walk: what a slot or a cell holds, seen without memory. No condition. -/
import Derived.Calls
import Derived.Below
set_option linter.unusedVariables false
namespace Go.Proofs.Ytdnmnafadondkaa
open Go Go.RowKit

/-- An abstract value. 'val': just this value (it holds no address of the frame's own). 'ptr k o': the address of cell o of box k. 'sl k o n z': n elements of z cells each, from cell o of box k on. 'ds b n cs': a slice that is only read (b: it may be kept). 'dp b cs': an address of cells that are only read. -/
inductive AV where
  | any
  | val (v : Value)
  | ptr (k off : Nat)
  | sl (k off n esz : Nat) (gr : Option TypeId)
  | ds (b : Bool) (n : Nat) (cells : List AV)
  | dp (b : Bool) (cells : List AV)
  | agg (cells : List AV)
  | tup (cells : List AV)
  | clo (f : FuncId) (caps : List AV)
  | ifc (t : TypeId) (x : AV)
  deriving Inhabited

structure Env where
  bl : Nat → Option Nat
  ph : Nat → Prop
  S : Nat → Prop
  T : Nat → Prop

def Env.ok (E : Env) (b : Bool) (g : Nat) : Prop := E.S g ∨ (b = false ∧ E.T g)

def rowIn (w : World) (g : Nat) : Option (TypeId × Nat) :=
  match w.heap[g]? with
  | some (.cells c ty _) => some (ty, c.size)
  | _ => none

/-- The cells of block g from 'off' on are 'vs'. -/
def cellsAt (w : World) (g off : Nat) (vs : List Value) : Prop :=
  ∃ c ty fr, w.heap[g]? = some (.cells c ty fr) ∧ ∀ i, i < vs.length → c[off + i]? = vs[i]?

mutual
def M (w : World) (E : Env) : AV → Value → Prop
  | .any, _ => True
  | .val x, v => v = x
  | .ptr k off, v => ∃ g, E.bl k = some g ∧ v = .pointer (some ⟨g, off, none⟩)
  | .sl k off n esz gr, v =>
    (gr.isSome = true ∧ E.ph k ∧ n = 0 ∧ off = 0 ∧ v = .slice none 0 0) ∨
    (gr = none ∧ n = 0 ∧ ∃ a cap, v = .slice a 0 cap) ∨
    ∃ g cap ty sz, E.bl k = some g ∧ v = .slice (some ⟨g, off, none⟩) n cap ∧ n ≤ cap ∧ rowIn w g = some (ty, sz) ∧ off + cap * esz ≤ sz ∧ (∀ e, gr = some e → ty = e ∧ off = 0 ∧ sz = cap * esz ∧ cap ≤ maxLen)
  | .ds b n cells, v =>
    (n = 0 ∧ cells = [] ∧ ∃ a cap, v = .slice a 0 cap) ∨
    ∃ g off cap vs, v = .slice (some ⟨g, off, none⟩) n cap ∧ n ≤ cap ∧ E.ok b g ∧ cellsAt w g off vs ∧ Ms w E cells vs
  | .dp b cells, v => ∃ g off vs, v = .pointer (some ⟨g, off, none⟩) ∧ E.ok b g ∧ cellsAt w g off vs ∧ Ms w E cells vs
  | .agg cells, v => ∃ vs, v = .agg ⟨vs⟩ ∧ Ms w E cells vs
  | .tup cells, v => ∃ vs, v = .tuple ⟨vs⟩ ∧ Ms w E cells vs
  | .clo f caps, v => ∃ vs, v = .func (.func f) #[] ⟨vs⟩ ∧ Ms w E caps vs
  | .ifc t x, v => ∃ u, v = .iface t u ∧ M w E x u
def Ms (w : World) (E : Env) : List AV → List Value → Prop
  | [], vs => vs = []
  | a :: as, vs => ∃ v vs', vs = v :: vs' ∧ M w E a v ∧ Ms w E as vs'
end

theorem Ms_cons {w : World} {E : Env} {a : AV} {as : List AV} {vs : List Value} : Ms w E (a :: as) vs ↔ ∃ v vs', vs = v :: vs' ∧ M w E a v ∧ Ms w E as vs' := by simp [Ms]
theorem Ms_nil {w : World} {E : Env} {vs : List Value} : Ms w E [] vs ↔ vs = [] := by simp [Ms]

theorem Ms.len {w : World} {E : Env} : ∀ {as : List AV} {vs : List Value}, Ms w E as vs → vs.length = as.length
  | [], vs, h => by simp [Ms] at h; simp [h]
  | a :: as, vs, h => by
    obtain ⟨v, vs', rfl, _, h2⟩ := Ms_cons.1 h
    simp [Ms.len h2]

theorem Ms.get {w : World} {E : Env} : ∀ {as : List AV} {vs : List Value} {i : Nat} {a : AV}, Ms w E as vs → as[i]? = some a → ∃ v, vs[i]? = some v ∧ M w E a v
  | [], vs, i, a, _, ha => by simp at ha
  | x :: as, vs, i, a, h, ha => by
    obtain ⟨v, vs', rfl, h1, h2⟩ := Ms_cons.1 h
    cases i with
    | zero => simp at ha; subst ha; exact ⟨v, rfl, h1⟩
    | succ i => simp at ha; obtain ⟨u, hu, hm⟩ := Ms.get h2 ha; exact ⟨u, by simpa using hu, hm⟩

theorem Ms.append {w : World} {E : Env} : ∀ {as bs : List AV} {vs us : List Value}, Ms w E as vs → Ms w E bs us → Ms w E (as ++ bs) (vs ++ us)
  | [], bs, vs, us, h, h' => by simp [Ms] at h; simpa [h] using h'
  | a :: as, bs, vs, us, h, h' => by
    obtain ⟨v, vs', rfl, h1, h2⟩ := Ms_cons.1 h
    exact Ms_cons.2 ⟨v, vs' ++ us, rfl, h1, Ms.append h2 h'⟩

theorem Ms.take {w : World} {E : Env} : ∀ {as : List AV} {vs : List Value} (n : Nat), Ms w E as vs → Ms w E (as.take n) (vs.take n)
  | [], vs, n, h => by simp [Ms] at h; simp [h, Ms]
  | a :: as, vs, 0, _ => by simp [Ms]
  | a :: as, vs, n + 1, h => by
    obtain ⟨v, vs', rfl, h1, h2⟩ := Ms_cons.1 h
    exact Ms_cons.2 ⟨v, vs'.take n, rfl, h1, Ms.take n h2⟩

theorem Ms.drop {w : World} {E : Env} : ∀ {as : List AV} {vs : List Value} (n : Nat), Ms w E as vs → Ms w E (as.drop n) (vs.drop n)
  | [], vs, n, h => by simp [Ms] at h; simp [h, Ms]
  | a :: as, vs, 0, h => by simpa using h
  | a :: as, vs, n + 1, h => by
    obtain ⟨v, vs', rfl, _, h2⟩ := Ms_cons.1 h
    exact Ms.drop n h2

theorem Ms.set {w : World} {E : Env} : ∀ {as : List AV} {vs : List Value} (n : Nat) {a : AV} {v : Value}, Ms w E as vs → M w E a v → Ms w E (as.set n a) (vs.set n v)
  | [], vs, n, _, _, h, _ => by simp [Ms] at h; simp [h, Ms]
  | x :: as, vs, 0, a, v, h, hm => by
    obtain ⟨u, vs', rfl, _, h2⟩ := Ms_cons.1 h
    exact Ms_cons.2 ⟨v, vs', rfl, hm, h2⟩
  | x :: as, vs, n + 1, a, v, h, hm => by
    obtain ⟨u, vs', rfl, h1, h2⟩ := Ms_cons.1 h
    exact Ms_cons.2 ⟨u, vs'.set n v, rfl, h1, Ms.set n h2 hm⟩

/-- What of the world an abstract value hangs on has not turned. -/
structure Stays (w : World) (E : Env) (w' : World) (E' : Env) : Prop where
  bl : ∀ k g, E.bl k = some g → E'.bl k = some g
  ph : ∀ k, E.ph k → E'.ph k
  S : ∀ g, E.S g → E'.S g
  T : ∀ g, E.T g → E'.T g
  sz : ∀ g i, rowIn w g = some i → rowIn w' g = some i
  blk : ∀ g, E.S g ∨ E.T g → w'.heap[g]? = w.heap[g]?

theorem Env.ok.stays {w w' : World} {E E' : Env} (h : Stays w E w' E') {b : Bool} {g : Nat} (ho : E.ok b g) : E'.ok b g :=
  ho.imp (h.S g) (fun ⟨x, y⟩ => ⟨x, h.T g y⟩)

theorem Env.ok.or {E : Env} {b : Bool} {g : Nat} (ho : E.ok b g) : E.S g ∨ E.T g := ho.imp id (·.2)

mutual
theorem M.stays {w w' : World} {E E' : Env} (h : Stays w E w' E') : ∀ (a : AV) (v : Value), M w E a v → M w' E' a v
  | .any, _, _ => trivial
  | .val _, _, hm => hm
  | .ptr _ _, _, ⟨g, hg, hv⟩ => ⟨g, h.bl _ _ hg, hv⟩
  | .sl _ _ _ _ _, _, hm => hm.elim (fun ⟨c, a, b⟩ => .inl ⟨c, h.ph _ a, b⟩) (fun hm => .inr (hm.elim .inl (fun ⟨g, cap, ty, sz, h1, h2, h3, h4, h5⟩ => .inr ⟨g, cap, ty, sz, h.bl _ _ h1, h2, h3, h.sz _ _ h4, h5⟩)))
  | .ds _ _ cells, _, hm => hm.elim .inl (fun ⟨g, off, cap, vs, h1, h2, h3, ⟨c, ty, fr, h4, h5⟩, h6⟩ => .inr ⟨g, off, cap, vs, h1, h2, h3.stays h, ⟨c, ty, fr, (h.blk g h3.or).trans h4, h5⟩, Ms.stays h cells vs h6⟩)
  | .dp _ cells, _, ⟨g, off, vs, h1, h3, ⟨c, ty, fr, h4, h5⟩, h6⟩ => ⟨g, off, vs, h1, h3.stays h, ⟨c, ty, fr, (h.blk g h3.or).trans h4, h5⟩, Ms.stays h cells vs h6⟩
  | .agg cells, _, ⟨vs, hv, hm⟩ => ⟨vs, hv, Ms.stays h cells vs hm⟩
  | .tup cells, _, ⟨vs, hv, hm⟩ => ⟨vs, hv, Ms.stays h cells vs hm⟩
  | .clo _ caps, _, ⟨vs, hv, hm⟩ => ⟨vs, hv, Ms.stays h caps vs hm⟩
  | .ifc _ x, _, ⟨u, hv, hm⟩ => ⟨u, hv, M.stays h x u hm⟩
theorem Ms.stays {w w' : World} {E E' : Env} (h : Stays w E w' E') : ∀ (as : List AV) (vs : List Value), Ms w E as vs → Ms w' E' as vs
  | [], _, hm => hm
  | a :: as, _, ⟨v, vs', hv, h1, h2⟩ => ⟨v, vs', hv, M.stays h a v h1, Ms.stays h as vs' h2⟩
end

end Go.Proofs.Ytdnmnafadondkaa
