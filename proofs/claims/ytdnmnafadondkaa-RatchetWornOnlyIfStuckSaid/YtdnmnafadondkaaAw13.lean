/- The walk over code: regions in the order of the text, branches, blocks, loops. No condition. -/
import Derived.Test.YtdnmnafadondkaaAw12
set_option linter.unusedVariables false
set_option linter.unusedSimpArgs false
namespace Go.Proofs.Ytdnmnafadondkaa
open Go Go.RowKit

def dstOk (σ : St) : Option Tmp → Bool
  | some d => decide (d < σ.nt)
  | none => true

/-- One operation that is no call of a function, at the state's next name. -/
def aop (T : TypeId → Option TI) (eqt : List TypeId) (σ : St) (o : Oper) : Option St :=
  if dstOk σ o.dst = true then
    match aeff T σ.nx σ o with
    | some e => some (σ.app (σ.nx + 8) o.dst e)
    | none => match aval T eqt σ o.op with
      | some x => some (σ.app (σ.nx + 8) o.dst ⟨x, []⟩)
      | none => none
  else none

/-- The slot that operation j of a region writes. -/
def gslot (ops : Array Oper) (j : Nat) : Option Tmp := (ops[j]?).bind (·.dst)

/-- An operation with its guard, if it has one. -/
def ostep (T : TypeId → Option TI) (eqt : List TypeId) (ops : Array Oper) (σ : St) (o : Oper) : Option St :=
  match o.guard with
  | none => aop T eqt σ o
  | some (j, want) => match gslot ops j with
    | some t => match alook t σ.tm with
      | .val (.bool b) => if b = want then aop T eqt σ o else if dstOk σ o.dst = true then some (σ.app (σ.nx + 8) o.dst ⟨.tup [], []⟩) else none
      | .tup [] => if dstOk σ o.dst = true then some (σ.app (σ.nx + 8) o.dst ⟨.tup [], []⟩) else none
      | _ => none
    | none => none

section
variable (P : Program) (X : Nat → Prop) (w0 : World) (E0 : Env)

/-- The post over frames and worlds that a post over states stands for. -/
def Conc (Q : Exit → St → Prop) : Exit → Act → World → Prop := fun e a w => ∃ E σ, Q e σ ∧ Grow w0 E0 E ∧ Sim X w0 E σ a w

def AW (c : Code) (σ : St) (Q : Exit → St → Prop) : Prop := ∀ E a w, Grow w0 E0 E → Sim X w0 E σ a w → c.wp P (Conc X w0 E0 Q) a w

def AO (ops : Array Oper) (l : List Nat) (σ : St) (Q : Exit → St → Prop) : Prop := ∀ E a w, Grow w0 E0 E → Sim X w0 E σ a w → wpOps P ops (Conc X w0 E0 Q) l a w

/-- The rest of a region's operations, in the order of the text. -/
def AL (ops : Array Oper) (l : List Oper) (σ : St) (Q : Exit → St → Prop) : Prop := ∀ i, l = ops.toList.drop i → AO P X w0 E0 ops (List.range' i l.length) σ Q

variable {P X w0 E0}
variable {T : TypeId → Option TI} {eqt : List TypeId}

theorem dst_lt {σ : St} {d : Option Tmp} (h : dstOk σ d = true) : ∀ t, d = some t → t < σ.nt := by
  intro t ht
  subst ht
  simpa [dstOk] using h

theorem Sim.free {E : Env} {σ : St} {a : Act} {w : World} (h : Sim X w0 E σ a w) : Free E σ σ.nx (σ.nx + 8) :=
  ⟨(h.fr _ (Nat.le_refl _)).1, (h.fr _ (Nat.le_refl _)).2, by omega, by omega, fun k hk => h.fr k (by omega)⟩

theorem aop_run (hT : Tab P T eqt) {E : Env} {σ σ' : St} {a : Act} {w : World} (hg : Grow w0 E0 E) (h : Sim X w0 E σ a w) (o : Oper) (hv : aop T eqt σ o = some σ') (K : Act → World → Prop) (Q : Exit → Act → World → Prop)
    (hK : ∀ E' a' w', Grow w0 E0 E' → Sim X w0 E' σ' a' w' → K a' w') : o.wp P a w K Q := by
  unfold aop at hv
  split at hv
  · rename_i hd
    split at hv
    · rename_i e he
      simp at hv
      subst hv
      obtain ⟨r, w', E', v, _, hr, hrv, hg', hs⟩ := aeff_run hT.t h h.free o (dst_lt hd) he
      unfold Oper.wp
      rw [hr]
      rcases hrv with rfl | ⟨rfl, rfl⟩ <;> exact hK E' _ _ (hg.trans hg') hs
    · split at hv
      · rename_i x hx
        simp at hv
        subst hv
        obtain ⟨v, hr, hm⟩ := aval_run hT h o hx
        unfold Oper.wp
        rw [hr]
        exact hK E _ _ hg (h.val (dst_lt hd) hm (by omega))
      · simp at hv
  · simp at hv

theorem drop_cons {α : Type} {l : List α} {o : α} {L : List α} {i : Nat} (h : o :: l = L.drop i) : L[i]? = some o ∧ l = L.drop (i + 1) := by
  have h1 : (L.drop i)[0]? = some o := by rw [← h]; rfl
  have h2 : (L.drop i).tail = l := by rw [← h]; rfl
  refine ⟨by simpa using h1, ?_⟩
  rw [← h2, List.tail_drop]

theorem AL_nil {ops : Array Oper} {σ : St} {Q : Exit → St → Prop} (h : Q .normal σ) : AL P X w0 E0 ops [] σ Q := by
  intro i _ E a w hg hs
  exact ⟨E, σ, h, hg, hs⟩

theorem yielded_of {E : Env} {σ : St} {a : Act} {w : World} (h : Sim X w0 E σ a w) {ops : Array Oper} {j t : Nat} {b : Bool} (hj : gslot ops j = some t) (hb : alook t σ.tm = .val (.bool b)) : yielded ops a.tmps j = some b := by
  have := h.tm t
  rw [hb] at this
  simp only [M] at this
  unfold gslot at hj
  unfold yielded
  rw [hj]
  simp only [Option.bind_some]
  rw [Array.getD_eq_getD_getElem?] at this
  cases hq : a.tmps[t]? with
  | none => rw [hq] at this; simp [undef] at this
  | some v => rw [hq] at this; simp at this; subst this; rfl

theorem yielded_undef {E : Env} {σ : St} {a : Act} {w : World} (h : Sim X w0 E σ a w) {ops : Array Oper} {j t : Nat} (hj : gslot ops j = some t) (hb : alook t σ.tm = .tup []) : yielded ops a.tmps j = none := by
  have := h.tm t
  rw [hb] at this
  obtain ⟨vs, h1, h2⟩ := this
  simp [Ms] at h2
  subst h2
  unfold gslot at hj
  unfold yielded
  rw [hj]
  simp only [Option.bind_some]
  rw [Array.getD_eq_getD_getElem?] at h1
  cases hq : a.tmps[t]? with
  | none => rfl
  | some v => rw [hq] at h1; simp at h1; subst h1; rfl

theorem AL_step (hT : Tab P T eqt) {ops : Array Oper} {o : Oper} {l : List Oper} {σ σ' : St} {Q : Exit → St → Prop} (hv : ostep T eqt ops σ o = some σ') (h : AL P X w0 E0 ops l σ' Q) : AL P X w0 E0 ops (o :: l) σ Q := by
  intro i hi E a w hg hs
  obtain ⟨ho, hl⟩ := drop_cons hi
  have ho' : ops[i]? = some o := by simpa using ho
  simp only [List.length_cons, List.range', wpOps, ho']
  have rest := h (i + 1) hl
  unfold ostep at hv
  split at hv
  · rename_i hgd
    have hw : Region.wanted o (yielded ops a.tmps) = true := by simp [Region.wanted, hgd]
    rw [if_pos hw]
    exact .inl (aop_run hT hg hs o hv _ _ (fun E' a' w' hg' hs' => rest E' a' w' hg' hs'))
  · rename_i j want hgd
    split at hv
    · rename_i t hj
      split at hv
      · rename_i b hb
        have hy := yielded_of hs hj hb
        split at hv
        · rename_i hbw
          have hw : Region.wanted o (yielded ops a.tmps) = true := by simp [Region.wanted, hgd, hy, hbw]
          rw [if_pos hw]
          exact .inl (aop_run hT hg hs o hv _ _ (fun E' a' w' hg' hs' => rest E' a' w' hg' hs'))
        · rename_i hbw
          have hw : ¬ Region.wanted o (yielded ops a.tmps) = true := by simp [Region.wanted, hgd, hy, hbw]
          rw [if_neg hw]
          split at hv
          · rename_i hd
            simp at hv
            subst hv
            exact rest E _ w hg (hs.val (dst_lt hd) ⟨[], rfl, rfl⟩ (by omega))
          · simp at hv
      · rename_i hb
        have hy := yielded_undef hs hj hb
        have hw : ¬ Region.wanted o (yielded ops a.tmps) = true := by simp [Region.wanted, hgd, hy]
        rw [if_neg hw]
        split at hv
        · rename_i hd
          simp at hv
          subst hv
          exact rest E _ w hg (hs.val (dst_lt hd) ⟨[], rfl, rfl⟩ (by omega))
        · simp at hv
      · simp at hv
    · simp at hv

/-- As many operations as the state decides. -/
def runL (T : TypeId → Option TI) (eqt : List TypeId) (ops : Array Oper) (K : List Oper → St → Prop) : List Oper → St → Prop
  | [], σ => K [] σ
  | o :: l, σ => match ostep T eqt ops σ o with
    | some σ' => runL T eqt ops K l σ'
    | none => K (o :: l) σ

theorem AL_run (hT : Tab P T eqt) {ops : Array Oper} {Q : Exit → St → Prop} : ∀ (l : List Oper) (σ : St), runL T eqt ops (fun l σ => AL P X w0 E0 ops l σ Q) l σ → AL P X w0 E0 ops l σ Q
  | [], σ, h => h
  | o :: l, σ, h => by
    simp only [runL] at h
    split at h
    · rename_i σ' hs
      exact AL_step hT hs (AL_run hT l σ' h)
    · exact h

theorem AW_region {id : Nat} {ops : Array Oper} {σ : St} {Q : Exit → St → Prop} (h : AL P X w0 E0 ops ops.toList σ Q) : AW P X w0 E0 (.region id ops false) σ Q := by
  intro E a w hg hs
  refine wp_region ?_
  have := h 0 (by simp) E a w hg hs
  rw [List.range_eq_range']
  simpa using this

theorem AW_mono {c : Code} {σ : St} {Q Q' : Exit → St → Prop} (h : AW P X w0 E0 c σ Q) (hq : ∀ e σ, Q e σ → Q' e σ) : AW P X w0 E0 c σ Q' :=
  fun E a w hg hs => wp_mono (h E a w hg hs) fun e a' w' ⟨E', σ', q, r⟩ => ⟨E', σ', hq _ _ q, r⟩

/-- What stands behind a piece of code. -/
def seqQ (P : Program) (X : Nat → Prop) (w0 : World) (E0 : Env) (y : Code) (Q : Exit → St → Prop) : Exit → St → Prop
  | .normal, σ => AW P X w0 E0 y σ Q
  | e, σ => Q e σ

theorem AW_seq {x y : Code} {σ : St} {Q : Exit → St → Prop} (h : AW P X w0 E0 x σ (seqQ P X w0 E0 y Q)) : AW P X w0 E0 (.seq x y) σ Q := by
  intro E a w hg hs
  refine wp_seq (wp_mono (h E a w hg hs) ?_)
  rintro e a' w' ⟨E', σ', q, hg', hs'⟩
  cases e with
  | normal => exact q E' a' w' hg' hs'
  | _ => exact ⟨E', σ', q, hg', hs'⟩

theorem AW_skip {σ : St} {Q : Exit → St → Prop} (h : Q .normal σ) : AW P X w0 E0 .skip σ Q := fun E a w hg hs => wp_skip ⟨E, σ, h, hg, hs⟩
theorem AW_ret {σ : St} {Q : Exit → St → Prop} (h : Q .ret σ) : AW P X w0 E0 .ret σ Q := fun E a w hg hs => wp_ret ⟨E, σ, h, hg, hs⟩
theorem AW_exit {id : Nat} {σ : St} {Q : Exit → St → Prop} (h : Q (.exit id) σ) : AW P X w0 E0 (.exit id) σ Q := fun E a w hg hs => wp_exit ⟨E, σ, h, hg, hs⟩
theorem AW_label {l : Nat} {σ : St} {Q : Exit → St → Prop} (h : Q .normal σ) : AW P X w0 E0 (.label l) σ Q := fun E a w hg hs => wp_label ⟨E, σ, h, hg, hs⟩

theorem AW_cond {c : Operand} {x y : Code} {σ : St} {Q : Exit → St → Prop} {t : Bool} (hc : σ.ev c = .val (.bool t)) (h1 : t = true → AW P X w0 E0 x σ Q) (h2 : t = false → AW P X w0 E0 y σ Q) : AW P X w0 E0 (.cond c x y) σ Q := by
  intro E a w hg hs
  have := hs.ev c
  rw [hc] at this
  exact wp_cond_split this (fun ht => h1 ht E a w hg hs) (fun ht => h2 ht E a w hg hs)

theorem AW_true {c : Operand} {x y : Code} {σ : St} {Q : Exit → St → Prop} (hc : σ.ev c = .val (.bool true)) (h : AW P X w0 E0 x σ Q) : AW P X w0 E0 (.cond c x y) σ Q := AW_cond hc (fun _ => h) (by simp)
theorem AW_false {c : Operand} {x y : Code} {σ : St} {Q : Exit → St → Prop} (hc : σ.ev c = .val (.bool false)) (h : AW P X w0 E0 y σ Q) : AW P X w0 E0 (.cond c x y) σ Q := AW_cond hc (by simp) (fun _ => h)

def blockQ (id : Nat) (Q : Exit → St → Prop) : Exit → St → Prop
  | .exit id', σ => if id' = id then Q .normal σ else Q (.exit id') σ
  | e, σ => Q e σ

theorem AW_block {id : Nat} {c : Code} {σ : St} {Q : Exit → St → Prop} (h : AW P X w0 E0 c σ (blockQ id Q)) : AW P X w0 E0 (.block id c) σ Q := by
  intro E a w hg hs
  refine wp_block (wp_mono (h E a w hg hs) ?_)
  rintro e a' w' ⟨E', σ', q, hg', hs'⟩
  cases e with
  | exit id' =>
    simp only [blockQ] at q
    simp only [Exit.inBlock]
    split
    · rename_i he; rw [if_pos he] at q; exact ⟨E', σ', q, hg', hs'⟩
    · rename_i he; rw [if_neg he] at q; exact ⟨E', σ', q, hg', hs'⟩
  | _ => exact ⟨E', σ', q, hg', hs'⟩

/-! ### Forgetting and renaming -/

mutual
def AV.map (f : Nat → Nat) : AV → AV
  | .any => .any
  | .val v => .val v
  | .ptr k o => .ptr (f k) o
  | .sl k o n z g => .sl (f k) o n z g
  | .ds b n cs => .ds b n (AVs.map f cs)
  | .dp b cs => .dp b (AVs.map f cs)
  | .agg cs => .agg (AVs.map f cs)
  | .tup cs => .tup (AVs.map f cs)
  | .clo g cs => .clo g (AVs.map f cs)
  | .ifc t x => .ifc t (AV.map f x)
def AVs.map (f : Nat → Nat) : List AV → List AV
  | [] => []
  | x :: l => AV.map f x :: AVs.map f l
end

/-- E1's names are f of E2's. -/
structure Named (w : World) (f : Nat → Nat) (E1 E2 : Env) : Prop where
  bl : ∀ k g, E1.bl (f k) = some g → E2.bl k = some g
  ph : ∀ k, E1.ph (f k) → E2.ph k
  S : ∀ g, E1.S g → E2.S g
  T : ∀ g, E1.T g → E2.T g

mutual
theorem M.unmap {w : World} {f : Nat → Nat} {E1 E2 : Env} (h : Named w f E1 E2) : ∀ (x : AV) (v : Value), M w E1 (x.map f) v → M w E2 x v
  | .any, _, _ => trivial
  | .val _, _, hm => hm
  | .ptr _ _, _, ⟨g, hg, hv⟩ => ⟨g, h.bl _ _ hg, hv⟩
  | .sl _ _ _ _ _, _, hm => hm.elim (fun ⟨c, a, b⟩ => .inl ⟨c, h.ph _ a, b⟩) (fun hm => .inr (hm.elim .inl (fun ⟨g, cap, ty, sz, h1, h2⟩ => .inr ⟨g, cap, ty, sz, h.bl _ _ h1, h2⟩)))
  | .ds _ _ cells, _, hm => hm.elim (fun ⟨h1, h2, h3⟩ => .inl ⟨h1, by cases cells <;> first | rfl | simp [AVs.map] at h2, h3⟩)
      (fun ⟨g, off, cap, vs, h1, h2, h3, h4, h6⟩ => .inr ⟨g, off, cap, vs, h1, h2, h3.imp (h.S g) (fun ⟨x, y⟩ => ⟨x, h.T g y⟩), h4, Ms.unmap h cells vs h6⟩)
  | .dp _ cells, _, ⟨g, off, vs, h1, h3, h4, h6⟩ => ⟨g, off, vs, h1, h3.imp (h.S g) (fun ⟨x, y⟩ => ⟨x, h.T g y⟩), h4, Ms.unmap h cells vs h6⟩
  | .agg cells, _, ⟨vs, hv, hm⟩ => ⟨vs, hv, Ms.unmap h cells vs hm⟩
  | .tup cells, _, ⟨vs, hv, hm⟩ => ⟨vs, hv, Ms.unmap h cells vs hm⟩
  | .clo _ caps, _, ⟨vs, hv, hm⟩ => ⟨vs, hv, Ms.unmap h caps vs hm⟩
  | .ifc _ x, _, ⟨u, hv, hm⟩ => ⟨u, hv, M.unmap h x u hm⟩
theorem Ms.unmap {w : World} {f : Nat → Nat} {E1 E2 : Env} (h : Named w f E1 E2) : ∀ (as : List AV) (vs : List Value), Ms w E1 (AVs.map f as) vs → Ms w E2 as vs
  | [], _, hm => hm
  | a :: as, _, ⟨v, vs', hv, h1, h2⟩ => ⟨v, vs', hv, M.unmap h a v h1, Ms.unmap h as vs' h2⟩
end

end
end Go.Proofs.Ytdnmnafadondkaa
