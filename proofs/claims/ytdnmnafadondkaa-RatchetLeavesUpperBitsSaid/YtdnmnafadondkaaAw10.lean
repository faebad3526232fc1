/- What an operation that makes or writes memory comes to, as one function of the abstract state. No condition. -/
import Derived.Test.YtdnmnafadondkaaAw9
set_option linter.unusedVariables false
set_option linter.unusedSimpArgs false
namespace Go.Proofs.Ytdnmnafadondkaa
open Go Go.RowKit

def u8 (b : UInt8) : AV := .val (.int .u8 b.toNat)

/-- What append and copy read: how many elements, and their cells. -/
def srcOf (σ : St) (size : Nat) : AV → Option (Nat × List AV)
  | .sl k off n z _ => match aBox σ k with
    | some cs => if z = size ∧ off + n * z ≤ cs.length then some (n, (cs.drop off).take (n * z)) else none
    | none => none
  | .ds _ n cs => if n * size ≤ cs.length then some (n, cs.take (n * size)) else none
  | .val (.slice none 0 0) => some (0, [])
  | .val (.string s) => if size = 1 then some (s.size, s.data.toList.map u8) else none
  | _ => none

/-- n times the cells of a zero value. -/
def replZ (n : Nat) (zero : List Value) : List AV := (List.replicate n (zero.map AV.val)).flatten

def spl (cs : List AV) (off : Nat) (vc : List AV) : List AV :=
  match vc with
  | [x] => cs.set off x
  | vc => splice cs off vc

/-- Where append goes on: the box, how many elements, their cells. -/
def dstOf (σ : St) (e : TypeId) (size : Nat) : AV → Option (Option Nat × Nat × List AV)
  | .sl k off n z gr => match aBox σ k with
    | some cs => if z = size ∧ off = 0 ∧ gr = some e ∧ n * z = cs.length then some (some k, n, cs) else none
    | none => none
  | .val (.slice none 0 0) => some (none, 0, [])
  | _ => none

def killK : Option Nat → List (Nat × Option (List AV))
  | some k => [(k, none)]
  | none => []

def aeff (T : TypeId → Option TI) (b : Nat) (σ : St) (o : Oper) : Option Eff :=
  match o.op with
  | .move (.const (.slice none 0 0)) => match T o.type with
    | some ti => match ti.d with
      | .sl e => match T e with
        | some eti => some ⟨.sl b 0 0 eti.size (some e), [(b, some [])]⟩
        | none => none
      | _ => none
    | none => none
  | .assign (.const (.slice none 0 0)) => match T o.type with
    | some ti => match ti.d with
      | .sl e => match T e with
        | some eti => some ⟨.sl b 0 0 eti.size (some e), [(b, some [])]⟩
        | none => none
      | _ => none
    | none => none
  | .alloc t => match T t with
    | some ti => some ⟨.ptr b 0, [(b, some (ti.zero.map .val))]⟩
    | none => none
  | .box t x => match (σ.ev x).cs with
    | some cs => some ⟨.ptr b 0, [(b, some cs)]⟩
    | none => none
  | .buildSlice t len ps => match T t with
    | some ti => match ti.d with
      | .sl e => match T e with
        | some eti => match aFill (fun i => some (i * eti.size, eti.size)) (replZ len eti.zero) (evp σ ps.toList) with
          | some cs => if eti.zero.length = eti.size ∧ len * eti.size ≤ 16777216 ∧ 0 < eti.size ∧ cs.length = len * eti.size then some ⟨.sl b 0 len eti.size (some e), [(b, some cs)]⟩ else none
          | none => none
        | none => none
      | _ => none
    | none => none
  | .makeSlice t l c => match T t with
    | some ti => match ti.d, σ.ev l, σ.ev c with
      | .sl e, .val (.int _ n), .val (.int _ m) => match T e with
        | some eti => if eti.zero.length = eti.size ∧ 0 < eti.size ∧ 0 ≤ n ∧ n ≤ m ∧ m ≤ 4294967296 ∧ eti.bytes ≤ 1024 then some ⟨.sl b 0 n.toNat eti.size (some e), [(b, some (replZ n.toNat eti.zero))]⟩ else none
        | none => none
      | _, _, _ => none
    | none => none
  | .store t x y => match T t, σ.ev x, (σ.ev y).cs with
    | some ti, .ptr k off, some vc => match aBox σ k with
      | some cs => if vc.length = ti.size ∧ off + ti.size ≤ cs.length ∧ vc.all AV.cell = true then some ⟨.any, [(k, some (spl cs off vc))]⟩ else none
      | none => none
    | _, _, _ => none
  | .convert s d x => match T s, T d, σ.ev x with
    | some si, some di, .val (.string str) => match di.d with
      | .sl e => match T e with
        | some eti => if eti.d = .int .u8 then some ⟨.ds true str.size (str.data.toList.map u8), []⟩ else none
        | none => none
      | _ => none
    | _, _, _ => none
  | .call c => match c.callee with
    | .builtin .append => match c.args.toList, c.argTypes.toList with
      | [s, x], [t, u] => match T t, T u with
        | some ti, some ui => match ti.d with
          | .sl e => match T e with
            | some eti => match dstOf σ e eti.size (σ.ev s), srcOf σ eti.size (σ.ev x) with
              | some (k, n, cs), some (m, news) =>
                if eti.zero.length = eti.size ∧ 0 < eti.size ∧ news.all AV.cell = true ∧ news.length = m * eti.size ∧ n + m ≤ 4294967296 ∧ eti.bytes ≤ 1024 ∧ ui.d.isInt = false then
                  some ⟨.sl b 0 (n + m) eti.size (some e), (b, some (cs ++ news)) :: killK k⟩
                else none
              | _, _ => none
            | none => none
          | _ => none
        | _, _ => none
      | _, _ => none
    | .builtin .copy => match c.args.toList, c.argTypes.toList with
      | [s, x], [t, u] => match T t with
        | some ti => match ti.d with
          | .sl e => match T e, σ.ev s with
            | some eti, .sl k off n z _ => match aBox σ k, srcOf σ eti.size (σ.ev x) with
              | some cs, some (m, news) =>
                if z = eti.size ∧ news.all AV.cell = true ∧ news.length = m * eti.size ∧ off + n * z ≤ cs.length ∧ 0 < eti.size then
                  some ⟨.val (.int .i64 (min m n : Nat)), [(k, some (splice cs off (news.take (min m n * eti.size))))]⟩
                else none
              | _, _ => none
            | _, _ => none
          | _ => none
        | none => none
      | _, _ => none
    | _ => none
  | _ => none

end Go.Proofs.Ytdnmnafadondkaa
