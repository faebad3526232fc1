/- What an operation that only computes comes to, as one function of the abstract state. No condition. -/
import Derived.Test.YtdnmnafadondkaaAw5
import Derived.Laws.BytesArg
set_option linter.unusedVariables false
set_option linter.unusedSimpArgs false
namespace Go.Proofs.Ytdnmnafadondkaa
open Go Go.RowKit

def AV.known : AV → Option AV
  | .any => none
  | x => some x

def evs (σ : St) : List Operand → List AV
  | [] => []
  | x :: l => σ.ev x :: evs σ l

def allKnown : List AV → Bool
  | [] => true
  | .any :: _ => false
  | _ :: l => allKnown l

def evp (σ : St) : List (Nat × Operand) → List (Nat × AV)
  | [] => []
  | (i, x) :: l => (i, σ.ev x) :: evp σ l

def min2 (x y : AV) : Option AV :=
  match x, y with
  | .val (.int k a), .val (.int _ b) => some (.val (.int k (if b < a then b else a)))
  | _, _ => none

def max2 (x y : AV) : Option AV :=
  match x, y with
  | .val (.int k a), .val (.int _ b) => some (.val (.int k (if b > a then b else a)))
  | _, _ => none

def aBox (σ : St) (k : Nat) : Option (List AV) := blook k σ.bx

/-- A value that is computed without a step of memory. -/
def aval (T : TypeId → Option TI) (eqt : List TypeId) (σ : St) : Op → Option AV
  | .move x => (σ.ev x).known
  | .assign x => (σ.ev x).known
  | .pick c x y => match σ.ev c with
    | .val (.bool t) => match σ.ev x, σ.ev y with
      | .val (.bool p), .val (.bool q) => some (.val (.bool (if t then p else q)))
      | _, _ => if t then (σ.ev x).known else (σ.ev y).known
    | _ => none
  | .load t x => match T t with
    | some ti => match σ.ev x with
      | .ptr k off => match aBox σ k with
        | some cs => loadC ti cs off
        | none => none
      | .dp _ cs => loadC ti cs 0
      | _ => none
    | none => none
  | .nilCheck x => match σ.ev x with
    | .ptr k o => some (.ptr k o)
    | .dp b cs => some (.dp b cs)
    | .clo f cs => some (.clo f cs)
    | .val (.pointer (some a)) => some (.val (.pointer (some a)))
    | .val (.func (.func f) x y) => some (.val (.func (.func f) x y))
    | _ => none
  | .binOp op t x y _ => match σ.ev x, σ.ev y with
    | .val u, .val v => match aBin op u v with
      | some r => some (.val r)
      | none => match op with
        | .eql => (aEql T eqt t (.val u) (.val v)).map fun r => .val (.bool r)
        | .neq => (aEql T eqt t (.val u) (.val v)).map fun r => .val (.bool (!r))
        | _ => none
    | a, b => match op with
      | .eql => (aEql T eqt t a b).map fun r => .val (.bool r)
      | .neq => (aEql T eqt t a b).map fun r => .val (.bool (!r))
      | _ => none
  | .unOp op _ x => match op, σ.ev x with
    | .not, .val (.bool b) => some (.val (.bool (!b)))
    | .neg, .val (.int k n) => some (.val (.int k (k.wrap (0 - n))))
    | .xor, .val (.int k n) => (binI .xor k (if k.signed then -1 else k.max) n).map .val
    | _, _ => none
  | .convert s d x => match T s, T d, σ.ev x with
    | some si, some di, .val (.int _ n) => match di.d with
      | .int k => some (.val (.int k (k.wrap n)))
      | _ => none
    | some si, some di, .val (.string s) => match di.d with
      | .str => some (.val (.string s))
      | _ => none
    | some si, some di, x => match si.d, di.d, x with
      | .sl e, .str, .sl k off n z _ => match T e, aBox σ k with
        | some ei, some cs => if ei.d = .int .u8 ∧ z = 1 ∧ off + n ≤ cs.length then (bytesOf ((cs.drop off).take n)).map fun bs => .val (.string ⟨bs.toArray⟩) else none
        | _, _ => none
      | .sl e, .str, .ds _ n cs => match T e with
        | some ei => if ei.d = .int .u8 ∧ n ≤ cs.length then (bytesOf (cs.take n)).map fun bs => .val (.string ⟨bs.toArray⟩) else none
        | _ => none
      | _, _, _ => none
    | _, _, _ => none
  | .sliceToArrayPointer t x => match T t with
    | some ti => match ti.d, σ.ev x with
      | .arr n _, .sl k off m _ _ => if 0 < n ∧ n ≤ m then some (.ptr k off) else none
      | .arr n _, .ds b m cs => if 0 < n ∧ n ≤ m then some (.dp b cs) else none
      | _, _ => none
    | none => none
  | .makeInterface t x => match T t with
    | some ti => if ti.d = .ifc ∨ ti.d = .oth then none else (σ.ev x).known.map fun x => .ifc t x
    | none => none
  | .makeFunc (.func f) first caps => if first.size = 0 ∧ allKnown (evs σ caps.toList) = true then some (.clo f (evs σ caps.toList)) else none
  | .build t ps => aBuild T t (evp σ ps.toList)
  | .slice t x lo hi mx => match T t with
    | some ti => match ti.d.elem with
      | some e => match T e with
        | some eti => aSlice ti eti (fun k => blook k σ.bx) (σ.ev x) (lo.map σ.ev) (hi.map σ.ev) (mx.map σ.ev)
        | none => none
      | none => match ti.d, σ.ev x, lo.map σ.ev, hi.map σ.ev, mx with
        | .str, .val (.string s), l, h, none => match aBound h s.size, aBound l 0 with
          | some h, some l => if l ≤ h ∧ h ≤ s.size then some (.val (.string (s.extract l h))) else none
          | _, _ => none
        | _, _, _, _, _ => none
    | none => none
  | .fieldAddr t x i => match T t with
    | some ti => match ti.d with
      | .st fs => match fs[i]? with
        | some (off, ft) => match T ft with
          | some fti => aField (σ.ev x) fti off
          | none => none
        | none => none
      | _ => none
    | none => none
  | .field t x i => match T t with
    | some ti => match ti.d with
      | .st fs => match fs[i]? with
        | some (off, ft) => match T ft, σ.ev x with
          | some fti, .agg cs => loadC fti cs off
          | _, _ => none
        | none => none
      | _ => none
    | none => none
  | .indexAddr t x i => match T t with
    | some ti => match ti.d.elem with
      | some e => match T e, σ.ev i with
        | some eti, .val (.int _ i) => aIndex ti eti (σ.ev x) i
        | _, _ => none
      | none => none
    | none => none
  | .index t x i => match T t with
    | some ti => match ti.d, σ.ev x, σ.ev i with
      | .arr n e, .agg cs, .val (.int _ i) => match T e with
        | some eti => if 0 ≤ i ∧ i < n then loadC eti cs (i.toNat * eti.size) else none
        | none => none
      | .str, .val (.string s), .val (.int _ i) => if 0 ≤ i then (s.data.toList[i.toNat]?).map fun b => .val (.int .u8 b.toNat) else none
      | _, _, _ => none
    | none => none
  | .extract x i => match σ.ev x with
    | .tup cs => cs[i]?.bind AV.known
    | _ => none
  | .typeAssert x xt t ok => match T t with
    | some ti => if ti.d = .ifc ∨ ti.d = .oth then none else match σ.ev x with
      | .ifc u y => if u = t then (if ok then some (.tup [y, .val (.bool true)]) else y.known) else if ok then some (.tup [.any, .val (.bool false)]) else none
      | .val (.iface u y) => if u = t then (if ok then some (.tup [cav y, .val (.bool true)]) else some (cav y)) else if ok then some (.tup [.any, .val (.bool false)]) else none
      | .val .nilIface => if ok then some (.tup [.any, .val (.bool false)]) else none
      | _ => none
    | none => none
  | .call c => match c.callee with
    | .builtin .len => match c.args.toList, c.argTypes.toList with
      | [x], [t] => match T t with
        | some ti => (aLen ti (σ.ev x)).map fun n => .val (.int .i64 n)
        | none => none
      | _, _ => none
    | .builtin .min => match evs σ c.args.toList with
      | x :: rest => rest.foldlM min2 x
      | [] => none
    | .builtin .max => match evs σ c.args.toList with
      | x :: rest => rest.foldlM max2 x
      | [] => none
    | _ => none
  | _ => none

structure Tab (P : Program) (T : TypeId → Option TI) (eqt : List TypeId) : Prop where
  t : TTab P T
  e : ∀ t, eqt.contains t = true → P.eqGuardType P.depth t = false ∧ (∀ fs, P.underlying t = some (.struct fs) → EqOk P t)

theorem known_eq {x y : AV} (h : x.known = some y) : x = y := by
  cases x <;> simp [AV.known] at h <;> exact h

theorem Ms_evs {X : Nat → Prop} {w0 : World} {E : Env} {σ : St} {a : Act} {w : World} (h : Sim X w0 E σ a w) : ∀ (l : List Operand), Ms w E (evs σ l) (l.map a.eval)
  | [] => by simp [evs, Ms]
  | x :: l => Ms_cons.2 ⟨_, _, rfl, h.ev x, Ms_evs h l⟩

theorem Mp_evp {X : Nat → Prop} {w0 : World} {E : Env} {σ : St} {a : Act} {w : World} (h : Sim X w0 E σ a w) : ∀ (l : List (Nat × Operand)), Mp w E (evp σ l) (l.map fun (i, x) => (i, a.eval x))
  | [] => by simp [evp, Mp]
  | (i, x) :: l => ⟨rfl, h.ev x, Mp_evp h l⟩

theorem Mo_map {X : Nat → Prop} {w0 : World} {E : Env} {σ : St} {a : Act} {w : World} (h : Sim X w0 E σ a w) : ∀ (l : Option Operand), Mo w E (l.map σ.ev) (l.map a.eval)
  | none => trivial
  | some x => h.ev x

theorem run_minmax {P : Program} {w : World} {E : Env} : ∀ (xs : List AV) (vs : List Value) (x r : AV) (v : Value), Ms w E xs vs → M w E x v →
    (xs.foldlM min2 x = some r → ∃ u, (vs.foldlM Builtin.min2 v).run P w = .ok u w ∧ M w E r u) ∧ (xs.foldlM max2 x = some r → ∃ u, (vs.foldlM Builtin.max2 v).run P w = .ok u w ∧ M w E r u)
  | [], vs, x, r, v, hm, hx => by
    simp [Ms] at hm
    subst hm
    constructor <;> (intro h; simp at h; subst h; exact ⟨v, by simp, hx⟩)
  | y :: xs, vs, x, r, v, hm, hx => by
    obtain ⟨u, vs', rfl, h1, h2⟩ := Ms_cons.1 hm
    constructor
    · intro h
      simp only [List.foldlM_cons, Option.bind_eq_bind, Option.bind_eq_some_iff] at h
      obtain ⟨z, hz, hr⟩ := h
      unfold min2 at hz
      split at hz <;> simp at hz
      simp only [M] at hx h1
      subst hz; subst hx; subst h1
      obtain ⟨u2, e1, e2⟩ := (run_minmax (P := P) xs vs' _ r _ h2 (show M w E (.val _) _ from rfl)).1 hr
      exact ⟨u2, by simp [List.foldlM_cons, Builtin.min2, e1], e2⟩
    · intro h
      simp only [List.foldlM_cons, Option.bind_eq_bind, Option.bind_eq_some_iff] at h
      obtain ⟨z, hz, hr⟩ := h
      unfold max2 at hz
      split at hz <;> simp at hz
      simp only [M] at hx h1
      subst hz; subst hx; subst h1
      obtain ⟨u2, e1, e2⟩ := (run_minmax (P := P) xs vs' _ r _ h2 (show M w E (.val _) _ from rfl)).2 hr
      exact ⟨u2, by simp [List.foldlM_cons, Builtin.max2, e1], e2⟩

end Go.Proofs.Ytdnmnafadondkaa
