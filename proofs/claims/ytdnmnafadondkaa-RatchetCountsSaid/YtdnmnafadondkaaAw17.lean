/- Rules in the form in which a walk uses them. No condition. -/
import Derived.Test.YtdnmnafadondkaaAw16
set_option linter.unusedVariables false
set_option linter.unusedSimpArgs false
namespace Go.Proofs.Ytdnmnafadondkaa
open Go Go.RowKit

/-- A region's operations as far as the state decides them; 'done' behind the last, 'stop' ahead of the first that it does not. -/
def runR (T : TypeId → Option TI) (eqt : List TypeId) (ops : Array Oper) (done : St → Prop) (stop : List Oper → St → Prop) : List Oper → St → Prop
  | [], σ => done σ
  | o :: l, σ => match ostep T eqt ops σ o with
    | some σ' => runR T eqt ops done stop l σ'
    | none => stop (o :: l) σ

section
variable {P : Program} {X : Nat → Prop} {w0 : World} {E0 : Env} {T : TypeId → Option TI} {eqt : List TypeId}

theorem AL_runR (hT : Tab P T eqt) {ops : Array Oper} {Q : Exit → St → Prop} : ∀ (l : List Oper) (σ : St), (∀ D K, (∀ σ', Q .normal σ' → D σ') → (∀ l σ', AL P X w0 E0 ops l σ' Q → K l σ') → runR T eqt ops D K l σ) → AL P X w0 E0 ops l σ Q := by
  intro l σ h
  refine AL_run hT l σ ?_
  have := h (fun σ' => AL P X w0 E0 ops [] σ' Q) (fun l σ' => AL P X w0 E0 ops l σ' Q) (fun σ' h => AL_nil h) (fun _ _ h => h)
  clear h
  revert this
  induction l generalizing σ with
  | nil => exact fun h => h
  | cons o l ih =>
    intro h
    simp only [runR] at h
    simp only [runL]
    cases hs : ostep T eqt ops σ o with
    | some σ' => rw [hs] at h; exact ih σ' h
    | none => rw [hs] at h; exact h

/-- A region and what follows it. -/
theorem AW_reg (hT : Tab P T eqt) {id : Nat} {ops : Array Oper} {y : Code} {σ : St} {Q : Exit → St → Prop}
    (h : ∀ D K, (∀ σ', AW P X w0 E0 y σ' Q → D σ') → (∀ l σ', AL P X w0 E0 ops l σ' (seqQ P X w0 E0 y Q) → K l σ') → runR T eqt ops D K ops.toList σ) : AW P X w0 E0 (.seq (.region id ops false) y) σ Q :=
  AW_seq (AW_region (AL_runR hT _ _ h))

/-- A region that ends a piece. -/
theorem AW_regl (hT : Tab P T eqt) {id : Nat} {ops : Array Oper} {σ : St} {Q : Exit → St → Prop}
    (h : ∀ D K, (∀ σ', Q .normal σ' → D σ') → (∀ l σ', AL P X w0 E0 ops l σ' Q → K l σ') → runR T eqt ops D K ops.toList σ) : AW P X w0 E0 (.region id ops false) σ Q :=
  AW_region (AL_runR hT _ _ h)

/-- What follows, behind a name. -/
def kQ (K : St → Prop) (Q : Exit → St → Prop) : Exit → St → Prop
  | .normal, σ => K σ
  | e, σ => Q e σ

theorem AW_seqk {x y : Code} {σ : St} {Q : Exit → St → Prop} (h : ∀ K : St → Prop, (∀ σ', AW P X w0 E0 y σ' Q → K σ') → AW P X w0 E0 x σ (kQ K Q)) : AW P X w0 E0 (.seq x y) σ Q :=
  AW_seq (AW_mono (h (fun σ' => AW P X w0 E0 y σ' Q) (fun _ h => h)) fun e σ' q => by cases e <;> exact q)

theorem spec_of (hT : Tab P T eqt) {gl : List (Nat × AV)} {K : FuncId} {fn : Func} {c : Code} {args : List AV} {io : List (List AV)} {R : Out → Prop} (n : Nat) (rs : List ResultVar)
    (hf : P.funcs[K]? = some fn) (hb : fn.body = some c) (hn : fn.ntmps = n) (hr : fn.results.toList = rs) (hl : args.length ≤ n)
    (h : ∀ (X : Nat → Prop) (w0 : World) (E0 : Env), Low E0 io.length → (∀ g, X g → ∃ k, k < io.length ∧ E0.bl k = some g) → AW P X w0 E0 c { nt := n, nx := io.length, tm := idx 0 args, bx := idx 0 (io.map some), gl := gl, df := [] } (Ret T rs io.length R)) : Spec P gl K args io R := by
  subst hn; subst hr
  exact spec_of_AW hT hf hb hl h

/-- The return of a value that holds no name. -/
theorem ret_plain {rs : List ResultVar} {m : Nat} {R : Out → Prop} {σ : St} (x : AV) (hm : m = 0) (hd : σ.df = []) (hx : resOf T σ rs = some x) (hmap : x.map (nmap σ.nx []) = x) (hR : R (.ret x [] [])) : RetV T rs m R σ := by
  subst hm
  refine ⟨x, [], [], [], rfl, by rw [hmap]; exact hx, ?_, hR⟩
  refine ⟨rfl, by simp [leftSt], ⟨hd, rfl⟩, by simp [leftSt], by simp [leftSt, idx], by simp, by simp [leftSt, idx], by simp⟩

end
end Go.Proofs.Ytdnmnafadondkaa
