/- The walk over code: regions in the order of the text, branches, blocks, loops. No condition. -/
import Derived.Test.YtgbpgplkhifgiaaDoorMA
import Derived.CallsIn
import Derived.Deep.LoopGhost
import Derived.RangeFuncRecord
import Derived.OrdersIn
set_option linter.unusedVariables false
set_option linter.unusedSimpArgs false
namespace Go.Proofs.YtgbpgplkhifgiaaDoor
open Go Go.RowKit

/-- The fence of a frame's walk: it bars nothing; of a round's frame it says of which loop. -/
def FrO : Mode → Fence
  | .rnd l => Fence.wide.inRound l
  | _ => Fence.wide

theorem frO_fn (m : Mode) (f : FuncId) : (FrO m).fn f := by cases m <;> exact trivial
theorem frO_depth (m : Mode) {n : Nat} : (FrO m).depth.isSome = true → 1 ≤ n := by cases m <;> (intro h; simp [FrO, Fence.wide] at h)

theorem calls_fr {P : Program} (m : Mode) {n : Nat} {f : FuncId} {args : Array Value} {w : World} {R : Ending → World → Prop} (h : Calls P f args w R) : CallsIn (FrO m) n P f args w R := by
  cases m <;> exact callsIn_wide.2 h

theorem rows_fr {P : Program} (m : Mode) {n : Nat} {r : String} {args : Array Value} {w : World} {R : Value → World → Prop} (h : Rows P r args w R) : RowsIn (FrO m) n P r args w R := by
  have key : RowsIn Fence.wide n P r args w R := fun c cs _ => let ⟨v, w', q, s⟩ := h c cs; ⟨v, w', q, stepsIn_wide.2 s⟩
  cases m <;> exact key

theorem wpIn_fr {P : Program} {m : Mode} (hm : ∀ l, m ≠ .rnd l) {n : Nat} {c : Code} {Q : Exit → Act → World → Prop} {a : Act} {w : World} : c.wpIn (FrO m) n P Q a w ↔ c.wp P Q a w := by
  cases m with
  | rnd l => exact absurd rfl (hm l)
  | _ => exact wpIn_wide

/-- What an operation comes to outside of a fence, within it. -/
theorem upon_fr {P : Program} {m : Mode} {n : Nat} {o : Oper} {a : Act} {K : Act → World → Prop} {Q : Exit → Act → World → Prop} {r : Result Next} (h : o.upon P a K Q r) : o.uponIn (FrO m) n P a K Q r := by
  cases r with
  | ok x w' =>
    cases x <;> simp only [Oper.upon, Oper.uponIn] at h ⊢ <;>
      first
        | exact h
        | exact ⟨frO_depth m, CallsIn.mono (calls_fr m h) fun e w' he => by cases e <;> exact he⟩
        | exact ⟨frO_depth m, RowsIn.mono (rows_fr m h) fun _ _ he => he⟩
  | halt x w' => cases x <;> simp only [Oper.upon, Oper.uponIn] at h ⊢ <;> exact h

theorem oper_fr {P : Program} {m : Mode} {n : Nat} {o : Oper} {a : Act} {w : World} {K : Act → World → Prop} {Q : Exit → Act → World → Prop} (hd : ∀ c, o.op ≠ .defer c) (h : o.upon P a K Q ((execOp a.eval o).run P w)) : o.wpIn (FrO m) n P a w K Q :=
  ⟨fun _ _ => frO_fn m _, by rw [Oper.semAt_eq _ _ _ hd]; exact upon_fr h⟩

theorem aeff_nodefer {T : TypeId → Option TI} {b : Nat} {σ : St} {o : Oper} {e : Eff} (h : aeff T b σ o = some e) : ∀ c, o.op ≠ .defer c := by
  intro c hc
  unfold aeff at h
  rw [hc] at h
  simp at h

theorem aval_nodefer {T : TypeId → Option TI} {eqt : List TypeId} {σ : St} {op : Op} {x : AV} (h : aval T eqt σ op = some x) : ∀ c, op ≠ .defer c := by
  rintro c rfl
  simp [aval] at h

def dstOk (σ : St) : Option Tmp → Bool
  | some d => decide (d < σ.nt)
  | none => true

/-- One operation that is no call of a function, at the state's next name. -/
def aop (T : TypeId → Option TI) (eqt : List TypeId) (σ : St) (o : Oper) : Option St :=
  if dstOk σ o.dst = true then
    match aeff T σ.nx σ o with
    | some e => some (σ.app (σ.nx + 8) o.dst e)
    | none => match aval T eqt σ o.op with
      | some x => some (σ.app (σ.nx + 8) o.dst ⟨x, []⟩)
      | none => none
  else none

/-- The slot that operation j of a region writes. -/
def gslot (ops : Array Oper) (j : Nat) : Option Tmp := (ops[j]?).bind (·.dst)

/-- An operation with its guard, if it has one. -/
def ostep (T : TypeId → Option TI) (eqt : List TypeId) (ops : Array Oper) (σ : St) (o : Oper) : Option St :=
  match o.guard with
  | none => aop T eqt σ o
  | some (j, want) => match gslot ops j with
    | some t => match alook t σ.tm with
      | .val (.bool b) => if b = want then aop T eqt σ o else if dstOk σ o.dst = true then some (σ.app (σ.nx + 8) o.dst ⟨.tup [], []⟩) else none
      | .tup [] => if dstOk σ o.dst = true then some (σ.app (σ.nx + 8) o.dst ⟨.tup [], []⟩) else none
      | _ => none
    | none => none

section
variable (P : Program) (X : Nat → Prop) (w0 : World) (E0 : Env)

/-- The post over frames and worlds that a post over states stands for. -/
def Conc (Q : Exit → St → Prop) : Exit → Act → World → Prop := fun e a w => ∃ E σ, Q e σ ∧ Grow w0 E0 E ∧ Sim X w0 E σ a w

def AW (c : Code) (σ : St) (Q : Exit → St → Prop) : Prop := ∀ E a w, Grow w0 E0 E → Sim X w0 E σ a w → c.wpIn (FrO E0.ro) 0 P (Conc X w0 E0 Q) a w

def AO (ops : Array Oper) (l : List Nat) (σ : St) (Q : Exit → St → Prop) : Prop := ∀ E a w, Grow w0 E0 E → Sim X w0 E σ a w → wpOpsIn (FrO E0.ro) 0 P ops (Conc X w0 E0 Q) l a w

/-- The rest of a region's operations, in the order of the text. -/
def AL (ops : Array Oper) (l : List Oper) (σ : St) (Q : Exit → St → Prop) : Prop := ∀ i, l = ops.toList.drop i → AO P X w0 E0 ops (List.range' i l.length) σ Q

variable {P X w0 E0}
variable {T : TypeId → Option TI} {eqt : List TypeId}

theorem dst_lt {σ : St} {d : Option Tmp} (h : dstOk σ d = true) : ∀ t, d = some t → t < σ.nt := by
  intro t ht
  subst ht
  simpa [dstOk] using h

theorem Sim.free {E : Env} {σ : St} {a : Act} {w : World} (h : Sim X w0 E σ a w) : Free E σ σ.nx (σ.nx + 8) :=
  ⟨(h.fr _ (Nat.le_refl _)).1, (h.fr _ (Nat.le_refl _)).2, by omega, by omega, fun k hk => h.fr k (by omega)⟩

theorem aop_run (hT : Tab P T eqt) {E : Env} {σ σ' : St} {a : Act} {w : World} (hg : Grow w0 E0 E) (h : Sim X w0 E σ a w) (o : Oper) (hv : aop T eqt σ o = some σ') (K : Act → World → Prop) (Q : Exit → Act → World → Prop)
    (hK : ∀ E' a' w', Grow w0 E0 E' → Sim X w0 E' σ' a' w' → K a' w') {m : Mode} {n : Nat} : o.wpIn (FrO m) n P a w K Q := by
  unfold aop at hv
  split at hv
  · rename_i hd
    split at hv
    · rename_i e he
      simp at hv
      subst hv
      obtain ⟨r, w', E', v, _, hr, hrv, hg', hs⟩ := aeff_run hT.t h h.free o (dst_lt hd) he
      refine oper_fr (aeff_nodefer he) ?_
      rw [hr]
      rcases hrv with rfl | ⟨rfl, rfl⟩ <;> exact hK E' _ _ (hg.trans hg') hs
    · split at hv
      · rename_i x hx
        simp at hv
        subst hv
        obtain ⟨v, hr, hm⟩ := aval_run hT h o hx
        refine oper_fr (aval_nodefer hx) ?_
        rw [hr]
        exact hK E _ _ hg (h.val (dst_lt hd) hm (by omega))
      · simp at hv
  · simp at hv

theorem drop_cons {α : Type} {l : List α} {o : α} {L : List α} {i : Nat} (h : o :: l = L.drop i) : L[i]? = some o ∧ l = L.drop (i + 1) := by
  have h1 : (L.drop i)[0]? = some o := by rw [← h]; rfl
  have h2 : (L.drop i).tail = l := by rw [← h]; rfl
  refine ⟨by simpa using h1, ?_⟩
  rw [← h2, List.tail_drop]

theorem AL_nil {ops : Array Oper} {σ : St} {Q : Exit → St → Prop} (h : Q .normal σ) : AL P X w0 E0 ops [] σ Q := by
  intro i _ E a w hg hs
  exact ⟨E, σ, h, hg, hs⟩

theorem yielded_of {E : Env} {σ : St} {a : Act} {w : World} (h : Sim X w0 E σ a w) {ops : Array Oper} {j t : Nat} {b : Bool} (hj : gslot ops j = some t) (hb : alook t σ.tm = .val (.bool b)) : yielded ops a.tmps j = some b := by
  have := h.tm t
  rw [hb] at this
  simp only [M] at this
  unfold gslot at hj
  unfold yielded
  rw [hj]
  simp only [Option.bind_some]
  rw [Array.getD_eq_getD_getElem?] at this
  cases hq : a.tmps[t]? with
  | none => rw [hq] at this; simp [undef] at this
  | some v => rw [hq] at this; simp at this; subst this; rfl

theorem yielded_undef {E : Env} {σ : St} {a : Act} {w : World} (h : Sim X w0 E σ a w) {ops : Array Oper} {j t : Nat} (hj : gslot ops j = some t) (hb : alook t σ.tm = .tup []) : yielded ops a.tmps j = none := by
  have := h.tm t
  rw [hb] at this
  obtain ⟨vs, h1, h2⟩ := this
  simp [Ms] at h2
  subst h2
  unfold gslot at hj
  unfold yielded
  rw [hj]
  simp only [Option.bind_some]
  rw [Array.getD_eq_getD_getElem?] at h1
  cases hq : a.tmps[t]? with
  | none => rfl
  | some v => rw [hq] at h1; simp at h1; subst h1; rfl

theorem AL_step (hT : Tab P T eqt) {ops : Array Oper} {o : Oper} {l : List Oper} {σ σ' : St} {Q : Exit → St → Prop} (hv : ostep T eqt ops σ o = some σ') (h : AL P X w0 E0 ops l σ' Q) : AL P X w0 E0 ops (o :: l) σ Q := by
  intro i hi E a w hg hs
  obtain ⟨ho, hl⟩ := drop_cons hi
  have ho' : ops[i]? = some o := by simpa using ho
  simp only [List.length_cons, List.range', wpOpsIn, ho']
  have rest := h (i + 1) hl
  unfold ostep at hv
  split at hv
  · rename_i hgd
    have hw : Region.wanted o (yielded ops a.tmps) = true := by simp [Region.wanted, hgd]
    rw [if_pos hw]
    exact aop_run hT hg hs o hv _ _ (fun E' a' w' hg' hs' => rest E' a' w' hg' hs')
  · rename_i j want hgd
    split at hv
    · rename_i t hj
      split at hv
      · rename_i b hb
        have hy := yielded_of hs hj hb
        split at hv
        · rename_i hbw
          have hw : Region.wanted o (yielded ops a.tmps) = true := by simp [Region.wanted, hgd, hy, hbw]
          rw [if_pos hw]
          exact aop_run hT hg hs o hv _ _ (fun E' a' w' hg' hs' => rest E' a' w' hg' hs')
        · rename_i hbw
          have hw : ¬ Region.wanted o (yielded ops a.tmps) = true := by simp [Region.wanted, hgd, hy, hbw]
          rw [if_neg hw]
          split at hv
          · rename_i hd
            simp at hv
            subst hv
            exact ⟨fun _ _ => frO_fn _ _, rest E _ w hg (hs.val (dst_lt hd) ⟨[], rfl, rfl⟩ (by omega))⟩
          · simp at hv
      · rename_i hb
        have hy := yielded_undef hs hj hb
        have hw : ¬ Region.wanted o (yielded ops a.tmps) = true := by simp [Region.wanted, hgd, hy]
        rw [if_neg hw]
        split at hv
        · rename_i hd
          simp at hv
          subst hv
          exact ⟨fun _ _ => frO_fn _ _, rest E _ w hg (hs.val (dst_lt hd) ⟨[], rfl, rfl⟩ (by omega))⟩
        · simp at hv
      · simp at hv
    · simp at hv

/-- As many operations as the state decides. -/
def runL (T : TypeId → Option TI) (eqt : List TypeId) (ops : Array Oper) (K : List Oper → St → Prop) : List Oper → St → Prop
  | [], σ => K [] σ
  | o :: l, σ => match ostep T eqt ops σ o with
    | some σ' => runL T eqt ops K l σ'
    | none => K (o :: l) σ

theorem AL_run (hT : Tab P T eqt) {ops : Array Oper} {Q : Exit → St → Prop} : ∀ (l : List Oper) (σ : St), runL T eqt ops (fun l σ => AL P X w0 E0 ops l σ Q) l σ → AL P X w0 E0 ops l σ Q
  | [], σ, h => h
  | o :: l, σ, h => by
    simp only [runL] at h
    split at h
    · rename_i σ' hs
      exact AL_step hT hs (AL_run hT l σ' h)
    · exact h

theorem AW_region {id : Nat} {ops : Array Oper} {σ : St} {Q : Exit → St → Prop} (h : AL P X w0 E0 ops ops.toList σ Q) : AW P X w0 E0 (.region id ops false) σ Q := by
  intro E a w hg hs
  refine wpIn_region ?_
  have := h 0 (by simp) E a w hg hs
  rw [List.range_eq_range']
  simpa using this

theorem AW_mono {c : Code} {σ : St} {Q Q' : Exit → St → Prop} (h : AW P X w0 E0 c σ Q) (hq : ∀ e σ, Q e σ → Q' e σ) : AW P X w0 E0 c σ Q' :=
  fun E a w hg hs => wpIn_mono (h E a w hg hs) fun e a' w' ⟨E', σ', q, r⟩ => ⟨E', σ', hq _ _ q, r⟩

/-- What stands behind a piece of code. -/
def seqQ (P : Program) (X : Nat → Prop) (w0 : World) (E0 : Env) (y : Code) (Q : Exit → St → Prop) : Exit → St → Prop
  | .normal, σ => AW P X w0 E0 y σ Q
  | e, σ => Q e σ

theorem AW_seq {x y : Code} {σ : St} {Q : Exit → St → Prop} (h : AW P X w0 E0 x σ (seqQ P X w0 E0 y Q)) : AW P X w0 E0 (.seq x y) σ Q := by
  intro E a w hg hs
  refine wpIn_seq (wpIn_mono (h E a w hg hs) ?_)
  rintro e a' w' ⟨E', σ', q, hg', hs'⟩
  cases e with
  | normal => exact q E' a' w' hg' hs'
  | _ => exact ⟨E', σ', q, hg', hs'⟩

theorem AW_skip {σ : St} {Q : Exit → St → Prop} (h : Q .normal σ) : AW P X w0 E0 .skip σ Q := fun E a w hg hs => wpIn_skip ⟨E, σ, h, hg, hs⟩
theorem AW_ret {σ : St} {Q : Exit → St → Prop} (h : Q .ret σ) : AW P X w0 E0 .ret σ Q := fun E a w hg hs => wpIn_ret ⟨E, σ, h, hg, hs⟩
theorem AW_exit {id : Nat} {σ : St} {Q : Exit → St → Prop} (h : Q (.exit id) σ) : AW P X w0 E0 (.exit id) σ Q := fun E a w hg hs => wpIn_exit ⟨E, σ, h, hg, hs⟩
theorem AW_label {l : Nat} {σ : St} {Q : Exit → St → Prop} (h : Q .normal σ) : AW P X w0 E0 (.label l) σ Q := fun E a w hg hs => wpIn_label ⟨E, σ, h, hg, hs⟩

theorem AW_cond {c : Operand} {x y : Code} {σ : St} {Q : Exit → St → Prop} {t : Bool} (hc : σ.ev c = .val (.bool t)) (h1 : t = true → AW P X w0 E0 x σ Q) (h2 : t = false → AW P X w0 E0 y σ Q) : AW P X w0 E0 (.cond c x y) σ Q := by
  intro E a w hg hs
  have := hs.ev c
  rw [hc] at this
  exact wpIn_cond_split this (fun ht => h1 ht E a w hg hs) (fun ht => h2 ht E a w hg hs)

theorem AW_true {c : Operand} {x y : Code} {σ : St} {Q : Exit → St → Prop} (hc : σ.ev c = .val (.bool true)) (h : AW P X w0 E0 x σ Q) : AW P X w0 E0 (.cond c x y) σ Q := AW_cond hc (fun _ => h) (by simp)
theorem AW_false {c : Operand} {x y : Code} {σ : St} {Q : Exit → St → Prop} (hc : σ.ev c = .val (.bool false)) (h : AW P X w0 E0 y σ Q) : AW P X w0 E0 (.cond c x y) σ Q := AW_cond hc (by simp) (fun _ => h)

def blockQ (id : Nat) (Q : Exit → St → Prop) : Exit → St → Prop
  | .exit id', σ => if id' = id then Q .normal σ else Q (.exit id') σ
  | e, σ => Q e σ

theorem AW_block {id : Nat} {c : Code} {σ : St} {Q : Exit → St → Prop} (h : AW P X w0 E0 c σ (blockQ id Q)) : AW P X w0 E0 (.block id c) σ Q := by
  intro E a w hg hs
  refine wpIn_block (wpIn_mono (h E a w hg hs) ?_)
  rintro e a' w' ⟨E', σ', q, hg', hs'⟩
  cases e with
  | exit id' =>
    simp only [blockQ] at q
    simp only [Exit.inBlock]
    split
    · rename_i he; rw [if_pos he] at q; exact ⟨E', σ', q, hg', hs'⟩
    · rename_i he; rw [if_neg he] at q; exact ⟨E', σ', q, hg', hs'⟩
  | _ => exact ⟨E', σ', q, hg', hs'⟩

/-! ### Forgetting and renaming -/

mutual
def AV.map (f : Nat → Nat) : AV → AV
  | .any => .any
  | .val v => .val v
  | .ptr k o => .ptr (f k) o
  | .sl k o n z g => .sl (f k) o n z g
  | .ds b n cs => .ds b n (AVs.map f cs)
  | .dp b cs => .dp b (AVs.map f cs)
  | .agg cs => .agg (AVs.map f cs)
  | .tup cs => .tup (AVs.map f cs)
  | .clo g cs => .clo g (AVs.map f cs)
  | .ifc t x => .ifc t (AV.map f x)
  | .yld c cs => .yld c (AVs.map f cs)
def AVs.map (f : Nat → Nat) : List AV → List AV
  | [] => []
  | x :: l => AV.map f x :: AVs.map f l
end

/-- E1's names are f of E2's. -/
structure Named (w : World) (f : Nat → Nat) (E1 E2 : Env) : Prop where
  bl : ∀ k g, E1.bl (f k) = some g → E2.bl k = some g
  ph : ∀ k, E1.ph (f k) → E2.ph k
  S : ∀ g, E1.S g → E2.S g
  T : ∀ g, E1.T g → E2.T g

mutual
theorem M.unmap {w : World} {f : Nat → Nat} {E1 E2 : Env} (h : Named w f E1 E2) : ∀ (x : AV) (v : Value), M w E1 (x.map f) v → M w E2 x v
  | .any, _, _ => trivial
  | .val _, _, hm => hm
  | .ptr _ _, _, ⟨g, hg, hv⟩ => ⟨g, h.bl _ _ hg, hv⟩
  | .sl _ _ _ _ _, _, hm => hm.elim (fun ⟨c, a, b⟩ => .inl ⟨c, h.ph _ a, b⟩) (fun hm => .inr (hm.elim .inl (fun ⟨g, cap, ty, sz, h1, h2⟩ => .inr ⟨g, cap, ty, sz, h.bl _ _ h1, h2⟩)))
  | .ds _ _ cells, _, hm => hm.elim (fun ⟨h1, h2, h3⟩ => .inl ⟨h1, by cases cells <;> first | rfl | simp [AVs.map] at h2, h3⟩)
      (fun ⟨g, off, cap, vs, h1, h2, h3, h4, h6⟩ => .inr ⟨g, off, cap, vs, h1, h2, h3.imp (h.S g) (fun ⟨x, y⟩ => ⟨x, h.T g y⟩), h4, Ms.unmap h cells vs h6⟩)
  | .dp _ cells, _, ⟨g, off, vs, h1, h3, h4, h6⟩ => ⟨g, off, vs, h1, h3.imp (h.S g) (fun ⟨x, y⟩ => ⟨x, h.T g y⟩), h4, Ms.unmap h cells vs h6⟩
  | .agg cells, _, ⟨vs, hv, hm⟩ => ⟨vs, hv, Ms.unmap h cells vs hm⟩
  | .tup cells, _, ⟨vs, hv, hm⟩ => ⟨vs, hv, Ms.unmap h cells vs hm⟩
  | .clo _ caps, _, ⟨vs, hv, hm⟩ => ⟨vs, hv, Ms.unmap h caps vs hm⟩
  | .ifc _ x, _, ⟨u, hv, hm⟩ => ⟨u, hv, M.unmap h x u hm⟩
  | .yld _ caps, _, ⟨l, r, hv, h1, h2, h3, h4⟩ => ⟨l, r, hv, h.T _ h1, h2, h3, Ms.unmap h caps _ h4⟩
theorem Ms.unmap {w : World} {f : Nat → Nat} {E1 E2 : Env} (h : Named w f E1 E2) : ∀ (as : List AV) (vs : List Value), Ms w E1 (AVs.map f as) vs → Ms w E2 as vs
  | [], _, hm => hm
  | a :: as, _, ⟨v, vs', hv, h1, h2⟩ => ⟨v, vs', hv, M.unmap h a v h1, Ms.unmap h as vs' h2⟩
end

end
end Go.Proofs.YtgbpgplkhifgiaaDoor

/- Loops by a family of states; contracts of functions. No condition. -/
set_option linter.unusedVariables false
set_option linter.unusedSimpArgs false
namespace Go.Proofs.YtgbpgplkhifgiaaDoor
open Go Go.RowKit

def nmap (base : Nat) (l : List (Nat × Nat)) (k : Nat) : Nat :=
  match l with
  | [] => base + k
  | (s, t) :: l => if k = s then t else nmap base l k

/-- The state σ2 says less than σ: slots and boxes forgotten, names turned (l: a name of σ2, its name in σ). 'm': the names that came in. -/
structure Sub (σ σ2 : St) (l : List (Nat × Nat)) (m : Nat) : Prop where
  nt : σ2.nt = σ.nt
  gl : ∀ p ∈ σ2.gl, alook p.1 σ.gl = p.2.map (nmap σ.nx l)
  df : σ.df = [] ∧ σ2.df = []
  tm : ∀ p ∈ σ2.tm, alook p.1 σ.tm = p.2.map (nmap σ.nx l)
  bx : ∀ p ∈ σ2.bx, ∀ cs, p.2 = some cs → blook (nmap σ.nx l p.1) σ.bx = some (AVs.map (nmap σ.nx l) cs)
  keys : ∀ p ∈ l, p.1 < σ2.nx
  inj : ∀ p ∈ σ2.bx, ∀ q ∈ σ2.bx, nmap σ.nx l p.1 = nmap σ.nx l q.1 → p.1 = q.1
  io : ∀ k, k < m → nmap σ.nx l k = k

def Env.ren (E : Env) (f : Nat → Nat) : Env := { E with bl := fun k => E.bl (f k), ph := fun k => E.ph (f k) }

theorem Env.named (w : World) (E : Env) (f : Nat → Nat) : Named w f E (E.ren f) := ⟨fun _ _ h => h, fun _ h => h, fun _ h => h, fun _ h => h⟩

/-- The names that came in are below m. -/
def Low (E : Env) (m : Nat) : Prop := ∀ k, m ≤ k → E.bl k = none ∧ ¬ E.ph k

theorem nmap_big {base : Nat} {k : Nat} : ∀ {l : List (Nat × Nat)}, (∀ p ∈ l, p.1 < k) → nmap base l k = base + k
  | [], _ => rfl
  | (s, t) :: l, h => by
    have h1 := h (s, t) (by simp)
    simp only [nmap]
    rw [if_neg (by simp at h1; omega)]
    exact nmap_big (fun p hp => h p (by simp [hp]))

theorem alook_mem {t : Nat} : ∀ {l : List (Nat × AV)}, alook t l = .any ∨ (t, alook t l) ∈ l
  | [] => .inl rfl
  | (s, x) :: l => by
    simp only [alook]
    split
    · rename_i h; subst h; exact .inr (by simp)
    · exact (alook_mem (l := l)).imp id (fun h => by simp [h])

theorem blook_mem {k : Nat} {cs : List AV} : ∀ {l : List (Nat × Option (List AV))}, blook k l = some cs → (k, some cs) ∈ l
  | [], h => by simp [blook] at h
  | (s, x) :: l, h => by
    simp only [blook] at h
    split at h
    · rename_i e; subst e; subst h; simp
    · simp [blook_mem h]

section
variable {P : Program} {X : Nat → Prop} {w0 : World} {E0 : Env} {T : TypeId → Option TI} {eqt : List TypeId}

theorem Sim.sub {E : Env} {σ σ2 : St} {a : Act} {w : World} {l : List (Nat × Nat)} {m : Nat} (h : Sim X w0 E σ a w) (hg : Grow w0 E0 E) (hs : Sub σ σ2 l m) (hE : Low E0 m) :
    Grow w0 E0 (E.ren (nmap σ.nx l)) ∧ Sim X w0 (E.ren (nmap σ.nx l)) σ2 a w := by
  let f := nmap σ.nx l
  have big : ∀ k, σ2.nx ≤ k → f k = σ.nx + k := fun k hk => nmap_big (fun p hp => Nat.lt_of_lt_of_le (hs.keys p hp) hk)
  have nm : Named w f E (E.ren f) := ⟨fun _ _ h => h, fun _ h => h, fun _ h => h, fun _ h => h⟩
  have f_io : ∀ k, E0.bl k ≠ none ∨ E0.ph k → f k = k := by
    intro k hk
    refine hs.io k ?_
    rcases Nat.lt_or_ge k m with h1 | h1
    · exact h1
    · have := hE k h1
      rcases hk with h2 | h2
      · exact absurd this.1 h2
      · exact absurd h2 this.2
  refine ⟨⟨fun k g hk => ?_, fun k hk => ?_, hg.S, hg.T, hg.new, hg.ro⟩, ?_⟩
  · show E.bl (f k) = some g
    rw [f_io k (.inl (by rw [hk]; simp))]
    exact hg.bl k g hk
  · show E.ph (f k)
    rw [f_io k (.inr hk)]
    exact hg.ph k hk
  · have bxs : ∀ k cs, blook k σ2.bx = some cs → blook (f k) σ.bx = some (AVs.map f cs) := fun k cs hk => hs.bx (k, some cs) (blook_mem hk) cs rfl
    have live : ∀ k, (blook k σ2.bx).isSome → (blook (f k) σ.bx).isSome := by
      intro k hk
      obtain ⟨cs, hcs⟩ := Option.isSome_iff_exists.1 hk
      rw [bxs k cs hcs]
      rfl
    refine ⟨by rw [hs.nt]; exact h.nt, fun t => ?_, fun g => ?_, fun k cs hk => ?_, fun k g hk hkg => h.own (f k) g (live k hk) hkg, fun k k' g hk hk' hkg hkg' => ?_, h.lim, h.keep, h.rw, fun k hk => ?_, fun k hk => h.px (f k) hk, ?_⟩
    · rcases alook_mem (t := t) (l := σ2.tm) with h1 | h1
      · rw [h1]; trivial
      · have h2 := hs.tm _ h1
        have h3 := h.tm t
        simp only at h2
        rw [h2] at h3
        exact M.unmap nm _ _ h3
    · rcases alook_mem (t := g) (l := σ2.gl) with h1 | h1
      · rw [h1]; trivial
      · have h2 := hs.gl _ h1
        have h3 := h.gl g
        simp only at h2
        rw [h2] at h3
        exact M.unmap nm _ _ h3
    · have h2 := h.bx (f k) _ (bxs k cs hk)
      rcases h2 with ⟨h4, h5⟩ | ⟨g, c, ty, vs, h4, h5, h6, h7, h8⟩
      · exact .inl ⟨h4, by cases cs <;> first | rfl | simp [AVs.map] at h5⟩
      · exact .inr ⟨g, c, ty, vs, h4, h5, h6, h7, Ms.unmap nm _ _ h8⟩
    · obtain ⟨cs, hcs⟩ := Option.isSome_iff_exists.1 hk
      obtain ⟨cs', hcs'⟩ := Option.isSome_iff_exists.1 hk'
      exact hs.inj (k, some cs) (blook_mem hcs) (k', some cs') (blook_mem hcs') (h.inj (f k) (f k') g (live k hk) (live k' hk') hkg hkg')
    · have := h.fr (f k) (by rw [big k hk]; omega)
      exact this
    · have := h.df
      rw [hs.df.1] at this
      rw [hs.df.2]
      exact Md.nil_env (E := E) (E' := E.ren (nmap σ.nx l)) rfl this

/-- Going on from a state that says less. -/
theorem AW_sub {c : Code} {σ σ2 : St} {Q : Exit → St → Prop} {l : List (Nat × Nat)} {m : Nat} (hE : Low E0 m) (hs : Sub σ σ2 l m) (h : AW P X w0 E0 c σ2 Q) : AW P X w0 E0 c σ Q := by
  intro E a w hg hsim
  obtain ⟨hg2, hs2⟩ := hsim.sub hg hs hE
  exact h _ a w hg2 hs2

/-- What a round hands on. -/
def Back {ι : Type} (F : ι → St) (φ : ι → Prop) (μ : ι → Nat) (m : Nat) (n : Nat) (σ : St) : Prop := ∃ j l, φ j ∧ μ j < n ∧ Sub σ (F j) l m

def loopQ {ι : Type} (F : ι → St) (φ : ι → Prop) (μ : ι → Nat) (m : Nat) (n : Nat) (Q : Exit → St → Prop) : Exit → St → Prop
  | .normal, σ => Back F φ μ m n σ
  | e, σ => Q e σ

/-- A loop: a family of states at its head, each round handing on one of smaller measure. -/
theorem AW_loop {ι : Type} (F : ι → St) (φ : ι → Prop) (μ : ι → Nat) {c : Code} {σ : St} {Q : Exit → St → Prop} {m : Nat} (hE : Low E0 m) (i : ι) (l : List (Nat × Nat)) (h0 : φ i) (hs : Sub σ (F i) l m)
    (round : ∀ i, φ i → AW P X w0 E0 c (F i) (loopQ F φ μ m (μ i) Q)) : AW P X w0 E0 (.loop c) σ Q := by
  intro E a w hg hsim
  obtain ⟨hg2, hs2⟩ := hsim.sub hg hs hE
  refine wpIn_loop (fun a w => ∃ n, ∃ E i, φ i ∧ μ i = n ∧ Grow w0 E0 E ∧ Sim X w0 E (F i) a w) (fun a w => leastOf (fun n => ∃ E i, φ i ∧ μ i = n ∧ Grow w0 E0 E ∧ Sim X w0 E (F i) a w)) ⟨μ i, _, i, h0, rfl, hg2, hs2⟩ ?_
  intro a w hI
  obtain ⟨⟨E, i, hi, hμ, hg, hsim⟩, hmin⟩ := leastOf_spec hI
  refine wpIn_mono (round i hi E a w hg hsim) ?_
  rintro e a' w' ⟨E', σ', q, hg', hs'⟩
  cases e with
  | normal =>
    obtain ⟨j, l', hj, hlt, hsub⟩ := q
    obtain ⟨hg3, hs3⟩ := hs'.sub hg' hsub hE
    have hJ : ∃ n, ∃ E i, φ i ∧ μ i = n ∧ Grow w0 E0 E ∧ Sim X w0 E (F i) a' w' := ⟨μ j, _, j, hj, rfl, hg3, hs3⟩
    refine ⟨hJ, ?_⟩
    rw [← hμ]
    exact Nat.lt_of_le_of_lt ((leastOf_spec hJ).2 (μ j) ⟨_, j, hj, rfl, hg3, hs3⟩) hlt
  | _ => exact ⟨E', σ', q, hg', hs'⟩

/-! ### Contracts -/

/-- How a call ends: a value, what the boxes that came in hold, new boxes (named behind those); or a panic. -/
inductive Out where
  | ret (x : AV) (io nb : List (List AV))
  | pan (v : Value) (io : List (List AV))

/-- Boxes named 0, 1, .. as they lie in memory. -/
structure IoOk (w : World) (E : Env) (io : List (List AV)) : Prop where
  bx : ∀ (k : Nat) cs, io[k]? = some cs → boxAt w E k cs
  own : ∀ k g, k < io.length → E.bl k = some g → ¬ E.S g ∧ ¬ E.T g
  inj : ∀ k k' g, k < io.length → k' < io.length → E.bl k = some g → E.bl k' = some g → k = k'

/-- The world behind a call. 'G': the blocks of the boxes that were given away with it. -/
structure AfterV (G : Nat → Prop) (w : World) (E : Env) (w' : World) (E' : Env) (m : Nat) (io nb : List (List AV)) : Prop where
  ok : IoOk w' E' (io ++ nb)
  len : io.length = m
  grow : Grow w E E'
  lim : ∀ g, E'.S g ∨ E'.T g → g < w'.heap.size
  keep : Keeps (fun g => (∃ k, k < m ∧ E.bl k = some g) ∨ G g) w w'
  new : ∀ k g, m ≤ k → k < m + nb.length → E'.bl k = some g → w.heap.size ≤ g ∨ G g
  px : ∀ k, E'.ph k → E'.bl k = none
  rw : ∀ g i, rowIn w g = some i → rowIn w' g = some i
  fr : ∀ k, m + nb.length ≤ k → E'.bl k = none ∧ ¬ E'.ph k

abbrev After (w : World) (E : Env) (w' : World) (E' : Env) (m : Nat) (io nb : List (List AV)) : Prop := AfterV (fun _ => False) w E w' E' m io nb

def SpecG (call : Array Value → World → (Ending → World → Prop) → Prop) (gl : List (Nat × AV)) (args : List AV) (io : List (List AV)) (R : Out → Prop) : Prop :=
  ∀ (E : Env) (w : World) (vs : List Value), Ms w E args vs → (∀ g, M w E (alook g gl) (.pointer (some ⟨g, 0, none⟩))) → IoOk w E io →
    (∀ g, E.S g ∨ E.T g → g < w.heap.size) → Low E io.length → (∀ k, E.ph k → E.bl k = none) →
    call ⟨vs⟩ w fun e w' => ∃ out E', R out ∧ match out with
      | .ret x io' nb => (∃ v, e = .returned v ∧ M w' E' x v) ∧ After w E w' E' io.length io' nb
      | .pan v io' => e = .panicked [{ v, recovered := false }] ∧ After w E w' E' io.length io' []

def Spec (P : Program) (gl : List (Nat × AV)) (K : FuncId) (args : List AV) (io : List (List AV)) (R : Out → Prop) : Prop := SpecG (Calls P K) gl args io R

/-! ### From a body's walk to a contract -/

def idx {α : Type} (i : Nat) : List α → List (Nat × α)
  | [] => []
  | x :: l => (i, x) :: idx (i + 1) l

def entry (fn : Func) (gl : List (Nat × AV)) (args : List AV) (io : List (List AV)) : St :=
  { nt := fn.ntmps, nx := io.length, tm := idx 0 args, bx := idx 0 (io.map some), gl := gl, df := [] }

def resAV (T : TypeId → Option TI) (σ : St) : ResultVar → Option AV
  | .tmp t => (alook t σ.tm).known
  | .cell a t => match T t, alook a σ.tm with
    | some ti, .ptr k off => match blook k σ.bx with
      | some cs => loadC ti cs off
      | none => none
    | _, _ => none

def resAll (T : TypeId → Option TI) (σ : St) : List ResultVar → Option (List AV)
  | [] => some []
  | r :: l => match resAV T σ r, resAll T σ l with
    | some x, some xs => some (x :: xs)
    | _, _ => none

def resOf (T : TypeId → Option TI) (σ : St) (rs : List ResultVar) : Option AV :=
  match resAll T σ rs with
  | some [x] => some x
  | some xs => some (.tup xs)
  | none => none

/-- The state that is left of a frame behind its call. -/
def leftSt (σ : St) (io nb : List (List AV)) : St := { nt := σ.nt, nx := (io ++ nb).length, tm := [], bx := idx 0 ((io ++ nb).map some), gl := [], df := [] }

def RetV (T : TypeId → Option TI) (rs : List ResultVar) (m : Nat) (R : Out → Prop) (σ : St) : Prop :=
  ∃ x io nb l, io.length = m ∧ resOf T σ rs = some (x.map (nmap σ.nx l)) ∧ Sub σ (leftSt σ io nb) l m ∧ R (.ret x io nb)

def RetP (m : Nat) (R : Out → Prop) (σ : St) (v : Value) : Prop :=
  ∃ io l, io.length = m ∧ Sub σ (leftSt σ io []) l m ∧ R (.pan v io)

def Ret (T : TypeId → Option TI) (rs : List ResultVar) (m : Nat) (R : Out → Prop) : Exit → St → Prop
  | .normal, σ => RetV T rs m R σ
  | .ret, σ => RetV T rs m R σ
  | .panic chain, σ => ∃ v, chain = [{ v, recovered := false }] ∧ RetP m R σ v
  | _, _ => False

theorem run_resAV (hT : Tab P T eqt) {E : Env} {σ : St} {a : Act} {w : World} (h : Sim X w0 E σ a w) {r : ResultVar} {x : AV} (hx : resAV T σ r = some x) :
    ∃ v, ((match r with | .tmp t => pure (a.tmps.getD t undef) | .cell b t => do loadVar t (← asAddr (a.tmps.getD b undef))) : Sem Value).run P w = .ok v w ∧ M w E x v := by
  cases r with
  | tmp t =>
    have := known_eq hx
    subst this
    exact ⟨_, rfl, h.tm t⟩
  | cell b t =>
    simp only [resAV] at hx
    split at hx
    · rename_i ti k off hti e1
      split at hx
      · rename_i cs hk
        have hb := h.tm b
        rw [e1] at hb
        obtain ⟨g, hg, hp⟩ := hb
        rcases h.bx k cs hk with ⟨h1, rfl⟩ | ⟨g', c, ty, vs, hg', hw, hl, hc, hms⟩
        · rw [h.px k h1] at hg; simp at hg
        · obtain rfl : g = g' := by rw [hg] at hg'; simpa using hg'
          have hcl : cellsAt w g 0 vs := ⟨c, ty, _, hw, fun i hi => by simpa using hc i hi⟩
          obtain ⟨v, hr, hm⟩ := run_loadC (hT.t _ _ hti) hcl hms hx
          refine ⟨v, ?_, hm⟩
          simp only [hp, asAddr, Sem.run_bind, Sem.run_pure, Result.andThen_ok]
          simpa using hr
      · simp at hx
    · simp at hx

theorem run_resAll (hT : Tab P T eqt) {E : Env} {σ : St} {a : Act} {w : World} (h : Sim X w0 E σ a w) : ∀ (rs : List ResultVar) (xs : List AV), resAll T σ rs = some xs →
    ∃ vs : List Value, (rs.mapM fun (r : ResultVar) => ((match r with | .tmp t => pure (a.tmps.getD t undef) | .cell b t => do loadVar t (← asAddr (a.tmps.getD b undef))) : Sem Value)).run P w = .ok vs w ∧ Ms w E xs vs
  | [], xs, hx => by
    simp [resAll] at hx
    subst hx
    exact ⟨[], by simp, rfl⟩
  | r :: rs, xs, hx => by
    simp only [resAll] at hx
    split at hx
    · rename_i x ys h1 h2
      simp at hx
      subst hx
      obtain ⟨v, hv, hm⟩ := run_resAV hT h h1
      obtain ⟨vs, hvs, hms⟩ := run_resAll hT h rs ys h2
      exact ⟨v :: vs, by simp only [List.mapM_cons, Sem.run_bind, hv, hvs, Result.andThen_ok, Sem.run_pure], Ms_cons.2 ⟨v, vs, rfl, hm, hms⟩⟩
    · simp at hx

theorem run_resOf (hT : Tab P T eqt) {E : Env} {σ : St} {a : Act} {w : World} (h : Sim X w0 E σ a w) {fn : Func} {x : AV} (hx : resOf T σ fn.results.toList = some x) :
    ∃ v, (results fn a.tmps).run P w = .ok v w ∧ M w E x v := by
  unfold resOf at hx
  have key : ∀ xs, resAll T σ fn.results.toList = some xs → ∃ vs : List Value, (results fn a.tmps).run P w = .ok (if h : (⟨vs⟩ : Array Value).size = 1 then (⟨vs⟩ : Array Value)[0] else .tuple ⟨vs⟩) w ∧ Ms w E xs vs := by
    intro xs hxs
    obtain ⟨vs, hvs, hms⟩ := run_resAll hT h _ xs hxs
    refine ⟨vs, ?_, hms⟩
    unfold results
    rw [Array.mapM_eq_mapM_toList]
    simp only [Sem.run_bind, Sem.run_map, Sem.run_pure]
    exact (congrArg (fun r : Result (List Value) => (r.andThen fun a w' => Result.ok a.toArray w').andThen fun a w' => Result.ok (if h : a.size = 1 then a[0] else Value.tuple a) w') hvs).trans rfl
  split at hx
  · rename_i x' hq
    simp at hx
    subst hx
    obtain ⟨vs, hr, hms⟩ := key _ hq
    obtain ⟨v, vs', rfl, hm, hn⟩ := Ms_cons.1 hms
    simp [Ms] at hn
    subst hn
    exact ⟨v, by rw [hr]; simp, hm⟩
  · rename_i xs hne hq
    simp at hx
    subst hx
    obtain ⟨vs, hr, hms⟩ := key _ hq
    have hl := hms.len
    have : ¬ (⟨vs⟩ : Array Value).size = 1 := by
      intro h1
      simp at h1
      rw [hl] at h1
      match xs, h1 with
      | [y], _ => exact hne y rfl
    exact ⟨.tuple ⟨vs⟩, by rw [hr, dif_neg this], vs, rfl, hms⟩
  · simp at hx

theorem alook_idx {E : Env} {w : World} : ∀ {args : List AV} {vs : List Value} (i : Nat), Ms w E args vs → ∀ (t : Nat) (d : Value), M w E (alook t (idx i args)) ((if i ≤ t then vs[t - i]? else none).getD d)
  | [], vs, i, hm, t, d => by simp [idx, alook, M]
  | x :: args, vs, i, hm, t, d => by
    obtain ⟨v, vs', rfl, h1, h2⟩ := Ms_cons.1 hm
    simp only [idx, alook]
    split
    · rename_i h; subst h; simpa using h1
    · rename_i h
      have ih := alook_idx (i + 1) h2 t d
      by_cases hle : i + 1 ≤ t
      · rw [if_pos hle] at ih
        rw [if_pos (by omega)]
        rw [show t - i = (t - (i + 1)) + 1 by omega]
        simpa using ih
      · rw [if_neg hle] at ih
        rw [if_neg (by omega)]
        exact ih

theorem blook_idx : ∀ {io : List (List AV)} (i k : Nat), blook k (idx i (io.map some)) = if i ≤ k then io[k - i]? else none
  | [], i, k => by simp [idx, blook]
  | x :: io, i, k => by
    simp only [List.map_cons, idx, blook]
    split
    · rename_i h; subst h; simp
    · rename_i h
      rw [blook_idx (i + 1) k]
      by_cases hle : i + 1 ≤ k
      · rw [if_pos hle, if_pos (by omega), show k - i = (k - (i + 1)) + 1 by omega]
        simp
      · rw [if_neg hle, if_neg (by omega)]

theorem getD_entry {vs : List Value} {n t : Nat} : ((⟨vs⟩ : Array Value) ++ Array.replicate n undef).getD t undef = vs[t]?.getD undef := by
  rw [Array.getD_eq_getD_getElem?]
  by_cases h : t < vs.length
  · rw [Array.getElem?_append_left (by simpa using h)]
    simp
  · rw [Array.getElem?_append_right (by simpa using Nat.le_of_not_lt h), List.getElem?_eq_none (Nat.le_of_not_lt h), Array.getElem?_replicate]
    split <;> rfl

theorem AfterV.of_sim {G : Nat → Prop} {E E2 : Env} {w w' : World} {σ : St} {a : Act} {m : Nat} {io nb : List (List AV)} (hlen : io.length = m) (hg : Grow w E E2)
    (hs : Sim (fun g => (∃ k, k < m ∧ E.bl k = some g) ∨ G g) w E2 (leftSt σ io nb) a w') : AfterV G w E w' E2 m io nb := by
  have bk : ∀ k, blook k (leftSt σ io nb).bx = (io ++ nb)[k]? := fun k => by
    show blook k (idx 0 ((io ++ nb).map some)) = _
    rw [blook_idx 0 k]; simp
  have live : ∀ k, k < (io ++ nb).length → (blook k (leftSt σ io nb).bx).isSome := fun k hk => by rw [bk]; simp only [List.getElem?_eq_getElem hk, Option.isSome_some]
  refine ⟨⟨fun k cs hk => hs.bx k cs (by rw [bk]; exact hk), fun k g hk hg => ⟨(hs.own k g (live k hk) hg).1, (hs.own k g (live k hk) hg).2.1⟩, fun k k' g hk hk' => hs.inj k k' g (live k hk) (live k' hk')⟩,
    hlen, hg, hs.lim, hs.keep, fun k g hk hk' hg' => ?_, hs.px, hs.rw, fun k hk => hs.fr k (by simp [leftSt]; omega)⟩
  have hkl : k < (io ++ nb).length := by simp; omega
  rcases (hs.own k g (live k hkl) hg').2.2 with h1 | ⟨k', h1, h2⟩ | h1
  · exact .inl h1
  · have := hs.inj k k' g (live k hkl) (live k' (by simp; omega)) hg' (hg.bl k' g h2)
    omega
  · exact .inr h1

theorem Sim.mono {X Y : Nat → Prop} {E : Env} {σ : St} {a : Act} {w : World} (h : Sim X w0 E σ a w) (hXY : ∀ g, X g ↔ Y g) : Sim Y w0 E σ a w :=
  ⟨h.nt, h.tm, h.gl, h.bx, fun k g hk hg => ⟨(h.own k g hk hg).1, (h.own k g hk hg).2.1, (h.own k g hk hg).2.2.imp id (hXY g).1⟩, h.inj, h.lim, h.keep.mono (fun g _ => (hXY g).1), h.rw, h.fr, h.px, h.df⟩

theorem After.of_sim {E E2 : Env} {w w' : World} {σ : St} {a : Act} {m : Nat} {io nb : List (List AV)} (hlen : io.length = m) (hg : Grow w E E2)
    (hs : Sim (fun g => ∃ k, k < m ∧ E.bl k = some g) w E2 (leftSt σ io nb) a w') : After w E w' E2 m io nb :=
  AfterV.of_sim hlen hg (hs.mono fun g => by simp)

/-! ### How a frame ends that bears marks -/

theorem boxAt.same {E : Env} {w w' : World} (h : Same w w') {k : Nat} {cs : List AV} (hb : boxAt w E k cs) : boxAt w' E k cs := by
  rcases hb with h1 | ⟨g, c, ty, vs, h1, h2, h3, h4, h5⟩
  · exact .inl h1
  · exact .inr ⟨g, c, ty, vs, h1, h g _ h2 (by simp), h3, h4, Ms.same h _ _ h5⟩

theorem same_shut {w : World} {r : Nat} {o : Obj} (hm : w.heap[r]? = some (.deferred (some []))) : Same w (w.putObj r o) := by
  intro g o' ho hne
  rw [World.putObj_heap_other (by rintro rfl; rw [hm] at ho; simp at ho; exact hne _ ho.symm)]
  exact ho

theorem Md.shut {E : Env} {w : World} {r : Nat} {o : Obj} (hm : w.heap[r]? = some (.deferred (some []))) : ∀ {ds : List Deferred} {l : List (FuncId × List AV)}, ({ target := .collected r, args := #[] } : Deferred) ∉ ds → Md w0 w E l ds → Md w0 (w.putObj r o) E l ds
  | [], _, _, h => h
  | d :: ds, _, hn, .inl ⟨ho, ⟨r', e, h1, h2⟩, hn', hr⟩ => by
    have hne : r' ≠ r := by rintro rfl; exact hn (by rw [e]; exact List.mem_cons_self)
    exact .inl ⟨ho, ⟨r', e, by rw [World.putObj_heap_other hne]; exact h1, h2⟩, hn', Md.shut hm (fun h => hn (List.mem_cons_of_mem _ h)) hr⟩
  | d :: ds, _, hn, .inr ⟨f, caps, l', vs, e1, e2, h1, hr⟩ => .inr ⟨f, caps, l', vs, e1, e2, Ms.same (same_shut hm) _ _ h1, Md.shut hm (fun h => hn (List.mem_cons_of_mem _ h)) hr⟩

theorem Sim.shut {E : Env} {σ : St} {a : Act} {w : World} (h : Sim X w0 E σ a w) {r : Nat} {ds : List Deferred} (hm : w.heap[r]? = some (.deferred (some []))) (hr : w0.heap.size ≤ r)
    (hn : ({ target := .collected r, args := #[] } : Deferred) ∉ ds) (hmd : Md w0 w E σ.df ds) :
    (Instr.takeDeferred r).run P w = .ok [] (w.putObj r (.deferred none)) ∧ Sim X w0 E σ { a with defers := ds } (w.putObj r (.deferred none)) := by
  have sm : Same w (w.putObj r (.deferred none)) := same_shut hm
  refine ⟨run_takeDeferred hm, h.nt, fun t => M.same sm _ _ (h.tm t), fun g => M.same sm _ _ (h.gl g), fun k cs hk => (h.bx k cs hk).same sm, h.own, h.inj, fun g hg => by rw [World.putObj_size]; exact h.lim g hg, ?_, fun g i h0 => rowIn.same sm (h.rw g i h0), h.fr, h.px, hmd.shut hm hn⟩
  refine ⟨h.keep.os, h.keep.tape, h.keep.output, by rw [World.putObj_size]; exact h.keep.size, fun g hg hX => ?_⟩
  rw [World.putObj_heap_other (by omega)]
  exact h.keep.block g hg hX

theorem leaves_marks {fn : Func} {tmps : Array Value} {Rr : Ending → World → Prop} {u : FrameMode} (hu : u ≠ .run) {E : Env} {σ : St} (hdf : σ.df = []) : ∀ (ds : List Deferred) (a : Act) (w : World), a.defers = ds → Sim X w0 E σ a w →
    (∀ w', Sim X w0 E σ { a with defers := [] } w' → LeavesIn Fence.wide 0 P fn tmps Rr [] u w') → LeavesInM Fence.wide 0 P fn tmps Rr ds u w := by
  intro ds
  induction ds with
  | nil =>
    intro a w hd hs h
    exact h w (by rw [← hd]; exact hs)
  | cons d ds ih =>
    intro a w hd hs h
    have hmd := hs.df
    rw [hd, hdf] at hmd
    rcases hmd with ⟨_, ⟨r, rfl, h1, h2⟩, hn, hr⟩ | ⟨_, _, _, _, e1, _⟩
    · obtain ⟨hrun, hs'⟩ := hs.shut (P := P) h1 h2 hn (by rw [hdf]; exact hr)
      exact ⟨hu, .inl ⟨r, _, rfl, hrun, ih { a with defers := ds } _ rfl hs' h⟩⟩
    · simp at e1

theorem stays_ro (w : World) (E : Env) (m : Mode) : Stays w E w { E with ro := m } := ⟨fun _ _ h => h, fun _ h => h, fun _ h => h, fun _ h => h, fun _ _ h => h, fun _ _ => rfl⟩

theorem IoOk.ro {w : World} {E : Env} {io : List (List AV)} (h : IoOk w E io) (m : Mode) : IoOk w { E with ro := m } io :=
  ⟨fun k cs hc => (h.bx k cs hc).stays_other (stays_ro w E m) (fun _ _ => rfl), h.own, h.inj⟩

theorem AfterV.of_ro {G : Nat → Prop} {w w' : World} {E E' : Env} {n : Nat} {io nb : List (List AV)} {m : Mode} (h : AfterV G w { E with ro := m } w' E' n io nb) : AfterV G w E w' { E' with ro := E.ro } n io nb :=
  ⟨h.ok.ro E.ro, h.len, ⟨h.grow.bl, h.grow.ph, h.grow.S, h.grow.T, h.grow.new, rfl⟩, h.lim, h.keep, h.new, h.px, h.rw, h.fr⟩

theorem spec_of_AW (hT : Tab P T eqt) {gl : List (Nat × AV)} {K : FuncId} {fn : Func} {c : Code} {args : List AV} {io : List (List AV)} {R : Out → Prop}
    (hf : P.funcs[K]? = some fn) (hb : fn.body = some c) (hn : args.length ≤ fn.ntmps)
    (h : ∀ (X : Nat → Prop) (w0 : World) (E0 : Env), E0.ro = .fn → Low E0 io.length → (∀ g, X g → ∃ k, k < io.length ∧ E0.bl k = some g) → AW P X w0 E0 c (entry fn gl args io) (Ret T fn.results.toList io.length R)) : Spec P gl K args io R := by
  intro E w vs hm hgl hio hlim hlow hpx
  refine (callsIn_wide (n := 0)).1 (callsIn_of_wp_marks hf hb trivial ?_)
  have hl := hm.len
  have st := stays_ro w E .fn
  have hm := Ms.stays st _ _ hm
  have hgl := fun g => M.stays st _ _ (hgl g)
  have hio := hio.ro .fn
  let X : Nat → Prop := fun g => ∃ k, k < io.length ∧ E.bl k = some g
  have bk : ∀ k, blook k (entry fn gl args io).bx = io[k]? := fun k => by
    show blook k (idx 0 (io.map some)) = _
    rw [blook_idx 0 k]; simp
  have lt_of : ∀ k, (blook k (entry fn gl args io).bx).isSome → k < io.length := fun k hk => by
    rw [bk] at hk
    rcases Nat.lt_or_ge k io.length with h1 | h1
    · exact h1
    · simp [List.getElem?_eq_none h1] at hk
  have hsim : Sim X w { E with ro := .fn } (entry fn gl args io) { tmps := (⟨vs⟩ : Array Value) ++ Array.replicate (fn.ntmps - (⟨vs⟩ : Array Value).size) undef, defers := [] } w := by
    refine ⟨by simp [entry]; omega, fun t => ?_, hgl, fun k cs hk => hio.bx k cs (by rw [← bk]; exact hk), fun k g hk hg => ⟨(hio.own k g (lt_of k hk) hg).1, (hio.own k g (lt_of k hk) hg).2, .inr ⟨k, lt_of k hk, hg⟩⟩,
      fun k k' g hk hk' => hio.inj k k' g (lt_of k hk) (lt_of k' hk'), hlim, Keeps.refl _ _, fun _ _ h => h, hlow, hpx, rfl⟩
    have := alook_idx (w := w) (E := { E with ro := .fn }) 0 hm t undef
    rw [getD_entry]
    simpa [entry] using this
  refine wpIn_mono (h X w { E with ro := .fn } rfl hlow (fun _ h => h) { E with ro := .fn } _ w (Grow.refl _ _) hsim) ?_
  rintro e a' w' ⟨E', σ', q, hg', hs'⟩
  have back : RetV T fn.results.toList io.length R σ' → LeavesInM Fence.wide 0 P fn a'.tmps (fun e w' => ∃ out E', R out ∧ match out with
      | .ret x io' nb => (∃ v, e = .returned v ∧ M w' E' x v) ∧ After w E w' E' io.length io' nb
      | .pan v io' => e = .panicked [{ v, recovered := false }] ∧ After w E w' E' io.length io' []) a'.defers .returning w' := by
    rintro ⟨x, io', nb, l, hlen, hres, hsub, hR⟩
    refine leaves_marks (by simp) hsub.df.1 _ a' w' rfl hs' (fun w'' hs'' => ?_)
    obtain ⟨v, hr, hmv⟩ := run_resOf hT hs'' hres
    obtain ⟨hg2, hs2⟩ := hs''.sub hg' hsub hlow
    exact ⟨v, hr, .ret x io' nb, _, hR, ⟨v, rfl, M.stays (stays_ro _ _ _) _ _ (M.unmap (Env.named w'' E' (nmap σ'.nx l)) x v hmv)⟩, AfterV.of_ro (After.of_sim hlen hg2 hs2)⟩
  cases e with
  | normal => exact back q
  | ret => exact back q
  | panic chain =>
    obtain ⟨v, rfl, io', l, hlen, hsub, hR⟩ := q
    refine leaves_marks (by simp) hsub.df.1 _ a' w' rfl hs' (fun w'' hs'' => ?_)
    obtain ⟨hg2, hs2⟩ := hs''.sub hg' hsub hlow
    exact ⟨.pan v io', _, hR, rfl, AfterV.of_ro (After.of_sim hlen hg2 hs2)⟩
  | _ => exact q.elim


/-! ### Boxes that are given away -/

def Env.cut (E : Env) (m : Nat) : Env := { E with bl := fun k => if k < m then E.bl k else none, ph := fun k => k < m ∧ E.ph k }

/-- The blocks of the boxes named from m up to n. -/
def givenAt (E : Env) (m n : Nat) (g : Nat) : Prop := ∃ k, m ≤ k ∧ k < n ∧ E.bl k = some g

/-- A contract with boxes that the caller gives away (named behind those that it lends to be written). -/
def SpecV (call : Array Value → World → (Ending → World → Prop) → Prop) (gl : List (Nat × AV)) (args : List AV) (io gv : List (List AV)) (R : Out → Prop) : Prop :=
  ∀ (E : Env) (w : World) (vs : List Value), Ms w E args vs → (∀ g, M w E (alook g gl) (.pointer (some ⟨g, 0, none⟩))) → IoOk w E (io ++ gv) →
    (∀ g, E.S g ∨ E.T g → g < w.heap.size) → Low E (io ++ gv).length → (∀ k, E.ph k → E.bl k = none) →
    call ⟨vs⟩ w fun e w' => ∃ x io' nb E', R (.ret x io' nb) ∧ (∃ v, e = .returned v ∧ M w' E' x v) ∧ AfterV (givenAt E io.length (io ++ gv).length) w (E.cut io.length) w' E' io.length io' nb

theorem low_cut (E : Env) (m : Nat) : Low (E.cut m) m := by
  intro k hk
  simp only [Env.cut]
  refine ⟨if_neg (by omega), fun h => by omega⟩

theorem grow_cut (w : World) (E : Env) (m : Nat) : Grow w (E.cut m) E := by
  refine ⟨fun k g h => ?_, fun k h => h.2, fun _ h => h, fun _ => Iff.rfl, fun _ h => .inl h, rfl⟩
  simp only [Env.cut] at h
  split at h
  · exact h
  · simp at h

theorem spec_of_AV (hT : Tab P T eqt) {gl : List (Nat × AV)} {K : FuncId} {fn : Func} {c : Code} {args : List AV} {io gv : List (List AV)} {R : Out → Prop}
    (hf : P.funcs[K]? = some fn) (hb : fn.body = some c) (hn : args.length ≤ fn.ntmps)
    (h : ∀ (X : Nat → Prop) (w0 : World) (E0 : Env), E0.ro = .fn → Low E0 io.length → AW P X w0 E0 c (entry fn gl args (io ++ gv)) (fun e σ => match e with
      | .normal => RetV T fn.results.toList io.length R σ
      | .ret => RetV T fn.results.toList io.length R σ
      | _ => False)) : SpecV (Calls P K) gl args io gv R := by
  intro E w vs hm hgl hio hlim hlow hpx
  refine (callsIn_wide (n := 0)).1 (callsIn_of_wp_marks hf hb trivial ?_)
  have hl := hm.len
  have st := stays_ro w E .fn
  have hm := Ms.stays st _ _ hm
  have hgl := fun g => M.stays st _ _ (hgl g)
  have hio := hio.ro .fn
  let G : Nat → Prop := givenAt E io.length (io ++ gv).length
  let Er : Env := { E.cut io.length with ro := .fn }
  let X : Nat → Prop := fun g => (∃ k, k < io.length ∧ Er.bl k = some g) ∨ G g
  have hXk : ∀ k g, k < (io ++ gv).length → E.bl k = some g → X g := by
    intro k g hk hg
    rcases Nat.lt_or_ge k io.length with h1 | h1
    · exact .inl ⟨k, h1, by show (if k < io.length then E.bl k else none) = _; rw [if_pos h1]; exact hg⟩
    · exact .inr ⟨k, h1, hk, hg⟩
  have bk : ∀ k, blook k (entry fn gl args (io ++ gv)).bx = (io ++ gv)[k]? := fun k => by
    show blook k (idx 0 ((io ++ gv).map some)) = _
    rw [blook_idx 0 k]; simp
  have lt_of : ∀ k, (blook k (entry fn gl args (io ++ gv)).bx).isSome → k < (io ++ gv).length := fun k hk => by
    rw [bk] at hk
    rcases Nat.lt_or_ge k (io ++ gv).length with h1 | h1
    · exact h1
    · simp only [List.getElem?_eq_none h1] at hk; simp at hk
  have hsim : Sim X w { E with ro := .fn } (entry fn gl args (io ++ gv)) { tmps := (⟨vs⟩ : Array Value) ++ Array.replicate (fn.ntmps - (⟨vs⟩ : Array Value).size) undef, defers := [] } w := by
    refine ⟨by simp [entry]; omega, fun t => ?_, hgl, fun k cs hk => hio.bx k cs (by rw [← bk]; exact hk), fun k g hk hg => ⟨(hio.own k g (lt_of k hk) hg).1, (hio.own k g (lt_of k hk) hg).2, .inr (hXk k g (lt_of k hk) hg)⟩,
      fun k k' g hk hk' => hio.inj k k' g (lt_of k hk) (lt_of k' hk'), hlim, Keeps.refl _ _, fun _ _ h => h, hlow, hpx, rfl⟩
    have := alook_idx (w := w) (E := { E with ro := .fn }) 0 hm t undef
    rw [getD_entry]
    simpa [entry] using this
  have hgr : Grow w Er { E with ro := .fn } := ⟨(grow_cut w E _).bl, (grow_cut w E _).ph, fun _ h => h, fun _ => Iff.rfl, fun _ h => .inl h, rfl⟩
  refine wpIn_mono (h X w Er rfl (low_cut E _) { E with ro := .fn } _ w hgr hsim) ?_
  rintro e a' w' ⟨E', σ', q, hg', hs'⟩
  have back : RetV T fn.results.toList io.length R σ' → LeavesInM Fence.wide 0 P fn a'.tmps (fun e w' => ∃ x io' nb E', R (.ret x io' nb) ∧ (∃ v, e = .returned v ∧ M w' E' x v) ∧ AfterV G w (E.cut io.length) w' E' io.length io' nb) a'.defers .returning w' := by
    rintro ⟨x, io', nb, l, hlen, hres, hsub, hR⟩
    refine leaves_marks (by simp) hsub.df.1 _ a' w' rfl hs' (fun w'' hs'' => ?_)
    obtain ⟨v, hr, hmv⟩ := run_resOf hT hs'' hres
    obtain ⟨hg2, hs2⟩ := hs''.sub hg' hsub (low_cut E _)
    have haf : AfterV G w { E.cut io.length with ro := .fn } w'' (E'.ren (nmap σ'.nx l)) io.length io' nb := AfterV.of_sim hlen hg2 hs2
    exact ⟨v, hr, x, io', nb, _, hR, ⟨v, rfl, M.stays (stays_ro _ _ _) _ _ (M.unmap (Env.named w'' E' (nmap σ'.nx l)) x v hmv)⟩, haf.of_ro⟩
  cases e with
  | normal => exact back q
  | ret => exact back q
  | _ => exact q.elim

theorem specV_of_G {call : Array Value → World → (Ending → World → Prop) → Prop} {gl : List (Nat × AV)} {args : List AV} {io : List (List AV)} {R : Out → Prop}
    (hmono : ∀ vs w (p q : Ending → World → Prop), (∀ e w', p e w' → q e w') → call vs w p → call vs w q) (h : SpecG call gl args io R) (hp : ∀ v io', ¬ R (.pan v io')) : SpecV call gl args io [] R := by
  intro E w vs hm hgl hio hlim hlow hpx
  rw [List.append_nil] at hio hlow
  refine hmono _ _ _ _ ?_ (h E w vs hm hgl hio hlim hlow hpx)
  rintro e w' ⟨out, E', hR, ho⟩
  cases out with
  | pan v io' => exact (hp v io' hR).elim
  | ret x io' nb =>
    obtain ⟨hv, ha⟩ := ho
    have hcut : E.cut io.length = E := by
      have h1 : (fun k => if k < io.length then E.bl k else none) = E.bl := by
        funext k
        split
        · rfl
        · rename_i h1; exact ((hlow k (by omega)).1).symm
      have h2 : (fun k => k < io.length ∧ E.ph k) = E.ph := by
        funext k
        refine propext ⟨fun h => h.2, fun h => ⟨?_, h⟩⟩
        rcases Nat.lt_or_ge k io.length with h3 | h3
        · exact h3
        · exact absurd h (hlow k h3).2
      unfold Env.cut
      rw [h1, h2]
    refine ⟨x, io', nb, E', hR, hv, ?_⟩
    rw [hcut]
    exact ⟨ha.ok, ha.len, ha.grow, ha.lim, ha.keep.mono (fun g _ hg => hg.elim .inl (fun h => h.elim)), fun k g h1 h2 h3 => .inl ((ha.new k g h1 h2 h3).resolve_right id), ha.px, ha.rw, ha.fr⟩

end
end Go.Proofs.YtgbpgplkhifgiaaDoor

/- A call by its contract. No condition. -/
set_option linter.unusedVariables false
set_option linter.unusedSimpArgs false
namespace Go.Proofs.YtgbpgplkhifgiaaDoor
open Go Go.RowKit

mutual
/-- Nothing borrowed. -/
def AV.kept : AV → Bool
  | .ds b _ cs => b && AVs.kept cs
  | .dp b cs => b && AVs.kept cs
  | .agg cs => AVs.kept cs
  | .tup cs => AVs.kept cs
  | .clo _ cs => AVs.kept cs
  | .ifc _ x => AV.kept x
  | .yld _ _ => false
  | _ => true
def AVs.kept : List AV → Bool
  | [] => true
  | x :: l => AV.kept x && AVs.kept l
end

/-- E2 has E1's names under f. 't': borrowed places count too. -/
structure Fwd (f : Nat → Nat) (t : Bool) (E1 E2 : Env) : Prop where
  bl : ∀ k g, E1.bl k = some g → E2.bl (f k) = some g
  ph : ∀ k, E1.ph k → E2.ph (f k)
  S : ∀ g, E1.S g → E2.S g
  T : t = true → ∀ g, E1.T g → E2.T g

theorem Fwd.ok {f : Nat → Nat} {t : Bool} {E1 E2 : Env} (h : Fwd f t E1 E2) {b : Bool} {g : Nat} (hk : (t || b) = true) (ho : E1.ok b g) : E2.ok b g := by
  rcases ho with h1 | ⟨h1, h2⟩
  · exact .inl (h.S g h1)
  · subst h1
    simp at hk
    exact .inr ⟨rfl, h.T hk g h2⟩

mutual
theorem M.fwd {w : World} {f : Nat → Nat} {t : Bool} {E1 E2 : Env} (h : Fwd f t E1 E2) : ∀ (x : AV) (v : Value), (t || x.kept) = true → M w E1 x v → M w E2 (x.map f) v
  | .any, _, _, _ => trivial
  | .val _, _, _, hm => hm
  | .ptr _ _, _, _, ⟨g, hg, hv⟩ => ⟨g, h.bl _ _ hg, hv⟩
  | .sl _ _ _ _ _, _, _, hm => hm.elim (fun ⟨c, a, b⟩ => .inl ⟨c, h.ph _ a, b⟩) (fun hm => .inr (hm.elim .inl (fun ⟨g, cap, ty, sz, h1, h2⟩ => .inr ⟨g, cap, ty, sz, h.bl _ _ h1, h2⟩)))
  | .ds b _ cells, _, hk, hm =>
    have hk' : (t || b) = true ∧ (t || AVs.kept cells) = true := by cases t <;> simp [AV.kept] at hk ⊢; exact hk
    hm.elim (fun ⟨h1, h2, h3⟩ => .inl ⟨h1, by subst h2; rfl, h3⟩)
      (fun ⟨g, off, cap, vs, h1, h2, h3, h4, h6⟩ => .inr ⟨g, off, cap, vs, h1, h2, h.ok hk'.1 h3, h4, Ms.fwd h cells vs hk'.2 h6⟩)
  | .dp b cells, _, hk, ⟨g, off, vs, h1, h3, h4, h6⟩ =>
    have hk' : (t || b) = true ∧ (t || AVs.kept cells) = true := by cases t <;> simp [AV.kept] at hk ⊢; exact hk
    ⟨g, off, vs, h1, h.ok hk'.1 h3, h4, Ms.fwd h cells vs hk'.2 h6⟩
  | .agg cells, _, hk, ⟨vs, hv, hm⟩ => ⟨vs, hv, Ms.fwd h cells vs hk hm⟩
  | .tup cells, _, hk, ⟨vs, hv, hm⟩ => ⟨vs, hv, Ms.fwd h cells vs hk hm⟩
  | .clo _ caps, _, hk, ⟨vs, hv, hm⟩ => ⟨vs, hv, Ms.fwd h caps vs hk hm⟩
  | .ifc _ x, _, hk, ⟨u, hv, hm⟩ => ⟨u, hv, M.fwd h x u hk hm⟩
  | .yld _ caps, _, hk, ⟨l, r, hv, h1, h2, h3, h4⟩ => by
    have ht : t = true := by simpa [AV.kept] using hk
    exact ⟨l, r, hv, h.T ht l h1, h2, h3, Ms.fwd h caps _ (by simp [ht]) h4⟩
theorem Ms.fwd {w : World} {f : Nat → Nat} {t : Bool} {E1 E2 : Env} (h : Fwd f t E1 E2) : ∀ (as : List AV) (vs : List Value), (t || AVs.kept as) = true → Ms w E1 as vs → Ms w E2 (AVs.map f as) vs
  | [], _, _, hm => hm
  | a :: as, _, hk, ⟨v, vs', hv, h1, h2⟩ =>
    have hk' : (t || a.kept) = true ∧ (t || AVs.kept as) = true := by cases t <;> simp [AVs.kept] at hk ⊢; exact hk
    ⟨v, vs', hv, M.fwd h a v hk'.1 h1, Ms.fwd h as vs' hk'.2 h2⟩
end

/-! ### Lending -/

def lendC (bx : Nat → Option (List AV)) : AV → AV
  | .sl k off n z gr => match bx k with
    | some cs => .ds false n ((cs.drop off).take (n * z))
    | none => .sl k off n z gr
  | .val (.slice none 0 0) => .ds true 0 []
  | x => x

def lendA (bx : Nat → Option (List AV)) : AV → AV
  | .sl k off n z gr => match bx k with
    | some cs => .ds false n (((cs.drop off).take (n * z)).map (lendC bx))
    | none => .sl k off n z gr
  | .agg cs => .agg (cs.map (lendC bx))
  | x => lendC bx x

/-- The places of the lent boxes may be read. -/
def Env.lent (E : Env) (L : Nat → Prop) : Env := { E with T := fun g => E.T g ∨ ∃ k, L k ∧ E.bl k = some g }

theorem stays_lent (w : World) (E : Env) (L : Nat → Prop) : Stays w E w (E.lent L) :=
  ⟨fun _ _ h => h, fun _ h => h, fun _ h => h, fun _ h => .inl h, fun _ _ h => h, fun _ _ => rfl⟩

section
variable {w : World} {E : Env} {L : Nat → Prop} {bx : Nat → Option (List AV)}

theorem Ms_mapf {E' : Env} {f : AV → AV} (hf : ∀ x v, M w E x v → M w E' (f x) v) : ∀ (l : List AV) (vs : List Value), Ms w E l vs → Ms w E' (l.map f) vs
  | [], _, h => h
  | x :: l, _, ⟨v, vs', hv, h1, h2⟩ => ⟨v, vs', hv, hf x v h1, Ms_mapf hf l vs' h2⟩

theorem sl_lend (hb : ∀ k cs, bx k = some cs → boxAt w E k cs ∧ L k) {f : AV → AV} (hf : ∀ x v, M w E x v → M w (E.lent L) (f x) v)
    {k off n z : Nat} {gr : Option TypeId} {cs : List AV} {v : Value} (hk : bx k = some cs) (hm : M w E (.sl k off n z gr) v) : M w (E.lent L) (.ds false n (((cs.drop off).take (n * z)).map f)) v := by
  have mapf := Ms_mapf (w := w) (E := E) (E' := E.lent L) hf
  rcases hm with ⟨_, _, rfl, _, rfl⟩ | ⟨_, rfl, a, cap, rfl⟩ | ⟨g, cap, ty, sz, hg, rfl, hcap, hri, _⟩
  · exact .inl ⟨rfl, by simp, _, _, rfl⟩
  · exact .inl ⟨rfl, by simp, _, _, rfl⟩
  · obtain ⟨hbx, hL⟩ := hb k cs hk
    have hok : (E.lent L).ok false g := .inr ⟨rfl, .inr ⟨k, hL, hg⟩⟩
    rcases hbx with ⟨_, rfl⟩ | ⟨g', c, ty', vs, hg', hw, hl, hc, hms⟩
    · have : ∃ c ty fr, w.heap[g]? = some (.cells c ty fr) := by
        unfold rowIn at hri
        split at hri
        · rename_i c ty fr hh; exact ⟨c, ty, fr, hh⟩
        · simp at hri
      obtain ⟨c, ty, fr, hh⟩ := this
      exact .inr ⟨g, off, cap, [], rfl, hcap, hok, ⟨c, ty, fr, hh, by simp⟩, by simp [Ms]⟩
    · obtain rfl : g = g' := by rw [hg] at hg'; simpa using hg'
      have hcl : cellsAt w g 0 vs := ⟨c, ty', _, hw, fun i hi => by simpa using hc i hi⟩
      have h1 := (hcl.drop off).take (n * z)
      simp only [Nat.zero_add] at h1
      exact .inr ⟨g, off, cap, _, rfl, hcap, hok, h1, mapf _ _ ((hms.drop off).take (n * z))⟩

theorem lendC_run (hb : ∀ k cs, bx k = some cs → boxAt w E k cs ∧ L k) {x : AV} {v : Value} (hm : M w E x v) : M w (E.lent L) (lendC bx x) v := by
  have st := stays_lent w E L
  unfold lendC
  split
  · rename_i k off n z gr
    split
    · rename_i cs hk
      have := sl_lend hb (f := fun x => x) (fun x v h => M.stays st x v h) hk hm
      simpa using this
    · exact M.stays (stays_lent w E L) _ _ hm
  · simp only [M] at hm
    subst hm
    exact .inl ⟨rfl, rfl, _, _, rfl⟩
  · exact M.stays st _ _ hm

theorem lendA_run (hb : ∀ k cs, bx k = some cs → boxAt w E k cs ∧ L k) {x : AV} {v : Value} (hm : M w E x v) : M w (E.lent L) (lendA bx x) v := by
  unfold lendA
  split
  · rename_i k off n z gr
    split
    · rename_i cs hk
      exact sl_lend hb (fun x v h => lendC_run hb h) hk hm
    · exact M.stays (stays_lent w E L) _ _ hm
  · rename_i cs
    obtain ⟨vs, rfl, hms⟩ := hm
    exact ⟨vs, rfl, Ms_mapf (fun x v h => lendC_run hb h) cs vs hms⟩
  · exact lendC_run hb hm

theorem lendAs_run (hb : ∀ k cs, bx k = some cs → boxAt w E k cs ∧ L k) : ∀ {xs : List AV} {vs : List Value}, Ms w E xs vs → Ms w (E.lent L) (xs.map (lendA bx)) vs
  | [], _, hm => hm
  | x :: xs, _, ⟨v, vs', hv, h1, h2⟩ => ⟨v, vs', hv, lendA_run hb h1, lendAs_run hb h2⟩
end

/-! ### The call -/

/-- The callee's names for the boxes that go in; any other name is a free one. -/
def ioMap (nx : Nat) (ios : List Nat) (k : Nat) : Nat := match ios[k]? with | some j => j | none => nx + k

/-- The caller's names for the callee's: those that went in, and the new ones from nx on. -/
def gMap (nx : Nat) (ios : List Nat) (k : Nat) : Nat := match ios[k]? with | some j => j | none => nx + (k - ios.length)

def zipIo (f : Nat → Nat) : List Nat → List (List AV) → List (Nat × Option (List AV))
  | k :: ks, c :: cs => (k, some (AVs.map f c)) :: zipIo f ks cs
  | _, _ => []

def newIo (f : Nat → Nat) (b : Nat) : List (List AV) → List (Nat × Option (List AV))
  | [] => []
  | c :: cs => (b, some (AVs.map f c)) :: newIo f (b + 1) cs

/-- The state behind a call; b: the first name of the new boxes; N: the next free name. -/
def St.behindB (σ : St) (b N : Nat) (tm : List (Nat × AV)) (ios : List Nat) (io nb : List (List AV)) : St :=
  { σ with nx := N, tm := tm, bx := zipIo (gMap b ios) ios io ++ (newIo (gMap b ios) b nb ++ σ.bx) }

def St.behind (σ : St) (tm : List (Nat × AV)) (ios : List Nat) (io nb : List (List AV)) : St := σ.behindB σ.nx (σ.nx + 8) tm ios io nb

/-- The state behind a call to which boxes were given away. -/
def St.behindG (σ : St) (b N : Nat) (tm : List (Nat × AV)) (ios : List Nat) (io nb : List (List AV)) (gvs : List Nat) : St :=
  { σ with nx := N, tm := tm, bx := zipIo (gMap b ios) ios io ++ (newIo (gMap b ios) b nb ++ (gvs.map (fun k => (k, none)) ++ σ.bx)) }

theorem blook_dead {r : List (Nat × Option (List AV))} {k : Nat} : ∀ {l : List Nat}, blook k (l.map (fun k => (k, none)) ++ r) = if k ∈ l then none else blook k r
  | [] => by simp
  | i :: l => by
    simp only [List.map_cons, List.cons_append, blook]
    by_cases h : k = i
    · subst h; simp
    · rw [if_neg h, blook_dead (l := l)]
      by_cases h2 : k ∈ l
      · rw [if_pos h2, if_pos (List.mem_cons_of_mem _ h2)]
      · rw [if_neg h2, if_neg (by simp [h, h2])]

theorem blook_zip {f : Nat → Nat} {r : List (Nat × Option (List AV))} {k : Nat} : ∀ {ios : List Nat} {io : List (List AV)}, ios.Nodup → ios.length = io.length →
    blook k (zipIo f ios io ++ r) = if k ∈ ios then (ios.idxOf? k).bind (fun j => (io[j]?).map (AVs.map f)) else blook k r
  | [], [], _, _ => by simp [zipIo]
  | i :: ios, c :: io, hnd, hl => by
    simp only [zipIo, List.cons_append, blook]
    by_cases h : k = i
    · subst h
      simp [List.idxOf?_cons]
    · rw [if_neg h, blook_zip (List.nodup_cons.1 hnd).2 (by simpa using hl)]
      have : (k ∈ i :: ios) ↔ k ∈ ios := by simp [h]
      by_cases hm : k ∈ ios
      · rw [if_pos hm, if_pos (this.2 hm)]
        rw [List.idxOf?_cons]
        have hik : (i == k) = false := by simp; exact fun h' => h h'.symm
        simp only [hik, Bool.false_eq_true, if_false]
        cases ios.idxOf? k <;> simp
      · rw [if_neg hm, if_neg (fun h' => hm (this.1 h'))]

theorem blook_new {f : Nat → Nat} {r : List (Nat × Option (List AV))} {k : Nat} : ∀ {nb : List (List AV)} {b : Nat},
    blook k (newIo f b nb ++ r) = if b ≤ k ∧ k < b + nb.length then (nb[k - b]?).map (AVs.map f) else blook k r
  | [], b => by simp [newIo]; intro h1 h2; omega
  | c :: nb, b => by
    simp only [newIo, List.cons_append, blook]
    by_cases h : k = b
    · subst h; simp
    · rw [if_neg h, blook_new]
      by_cases h1 : b + 1 ≤ k ∧ k < b + 1 + nb.length
      · rw [if_pos h1, if_pos (by simp; omega), show k - b = (k - (b + 1)) + 1 by omega]
        simp
      · rw [if_neg h1, if_neg (by simp; omega)]

section
variable {P : Program} {X : Nat → Prop} {w0 : World} {E0 : Env} {T : TypeId → Option TI} {eqt : List TypeId}

theorem idxOf_some {ios : List Nat} {k j : Nat} (hnd : ios.Nodup) (hj : ios[j]? = some k) : ios.idxOf? k = some j := by
  induction ios generalizing j with
  | nil => simp at hj
  | cons i ios ih =>
    rw [List.idxOf?_cons]
    cases j with
    | zero => simp at hj; subst hj; simp
    | succ j =>
      simp at hj
      have hm : k ∈ ios := List.mem_of_getElem? hj
      have hne : (i == k) = false := by
        simp
        rintro rfl
        exact (List.nodup_cons.1 hnd).1 hm
      simp [hne, ih (List.nodup_cons.1 hnd).2 hj]

theorem mem_idx {ios : List Nat} {k : Nat} (h : k ∈ ios) : ∃ j : Nat, ios[j]? = some k := List.mem_iff_getElem?.1 h

/-- The callee's env. -/
def Env.callee (E : Env) (nx : Nat) (ios : List Nat) : Env := E.ren (ioMap nx ios)

/-- The caller's env behind the call. -/
def Env.back (E E' : Env) (nx m n : Nat) : Env :=
  { bl := fun k => if nx ≤ k ∧ k < nx + n then E'.bl (m + (k - nx)) else E.bl k
    ph := fun k => (nx ≤ k ∧ k < nx + n ∧ E'.ph (m + (k - nx))) ∨ E.ph k
    S := E'.S
    T := E.T
    ro := E.ro }

/-- The frame behind a call: what was there is there. 'L': the boxes that were lent. -/
theorem Sim.behind {E E' : Env} {σ : St} {a : Act} {w w' : World} (h : Sim X w0 E σ a w) (hg : Grow w0 E0 E) {b N : Nat} (hbf : ∀ k, b ≤ k → k < b + 8 → E.bl k = none ∧ ¬ E.ph k) (hN : σ.nx ≤ N) (hbN : b + 8 ≤ N) {EC : Env} {ios : List Nat} (cbl : ∀ j k, ios[j]? = some k → EC.bl j = E.bl k) (es : EC.S = E.S) (et : ∀ g, E.T g → EC.T g) {gvs : List Nat} {G : Nat → Prop} (hgvs : ∀ k ∈ gvs, (blook k σ.bx).isSome ∧ k ∉ ios) (hG : ∀ g, G g → ∃ k ∈ gvs, E.bl k = some g) {io io' nb : List (List AV)}
    (hnd : ios.Nodup) (hlen : ios.length = io.length) (hlive : ∀ k ∈ ios, (blook k σ.bx).isSome ∧ E.bl k ≠ none)
    (ha : AfterV G w EC w' E' io.length io' nb) (hn : nb.length ≤ 8)
    {t : Bool} (ht : t = true → ∀ g, EC.T g → E.T g) (hk1 : ∀ c ∈ io', (t || AVs.kept c) = true) (hk2 : ∀ c ∈ nb, (t || AVs.kept c) = true)
    {a' : Act} {tm : List (Nat × AV)} (hnt : a'.tmps.size = a.tmps.size) (hdf : a'.defers = a.defers)
    (htm : Stays w E w' (E.back E' b io.length nb.length) → Fwd (gMap b ios) t E' (E.back E' b io.length nb.length) → ∀ q, M w' (E.back E' b io.length nb.length) (alook q tm) (a'.tmps.getD q undef)) :
    Grow w E (E.back E' b io.length nb.length) ∧ Grow w0 E0 (E.back E' b io.length nb.length) ∧ Sim X w0 (E.back E' b io.length nb.length) (σ.behindG b N tm ios io' nb gvs) a' w' := by
  let E2 := E.back E' b io.length nb.length
  have hlen' : io'.length = ios.length := by rw [ha.len, hlen]
  -- the callee's names of what went in
  have bl_in : ∀ j k g, ios[j]? = some k → (E'.bl j = some g ↔ E.bl k = some g) := by
    intro j k g hj
    have hk : k ∈ ios := List.mem_of_getElem? hj
    obtain ⟨q, hq⟩ := Option.ne_none_iff_exists'.1 (hlive k hk).2
    have := ha.grow.bl j q (by rw [cbl j k hj]; exact hq)
    rw [this, hq]
  have nx_none : ∀ k g, E.bl k = some g → ¬ (b ≤ k ∧ k < b + nb.length) := by
    intro k g hk hc
    rw [(hbf k hc.1 (by omega)).1] at hk
    simp at hk
  have bl_old : ∀ k g, E.bl k = some g → E2.bl k = some g := by
    intro k g hk
    show (if b ≤ k ∧ k < b + nb.length then _ else _) = _
    rw [if_neg (nx_none k g hk)]
    exact hk
  have io_lt : ∀ k ∈ ios, ¬ (b ≤ k ∧ k < b + nb.length) := by
    intro k hk hc
    exact absurd (hbf k hc.1 (by omega)).1 (hlive k hk).2
  have fwd : Fwd (gMap b ios) t E' E2 := by
    refine ⟨fun k g hk => ?_, fun k hk => ?_, fun _ h => h, fun htt g hg' => ?_⟩
    · unfold gMap
      cases hj : ios[k]? with
      | some j => exact bl_old j g ((bl_in k j g hj).1 hk)
      | none =>
        have hge : ios.length ≤ k := by simpa using hj
        have hlt : k < io.length + nb.length := by
          rcases Nat.lt_or_ge k (io.length + nb.length) with h1 | h1
          · exact h1
          · rw [(ha.fr k h1).1] at hk; simp at hk
        show (if b ≤ b + (k - ios.length) ∧ b + (k - ios.length) < b + nb.length then _ else _) = _
        rw [if_pos (by omega), show io.length + (b + (k - ios.length) - b) = k by omega]
        exact hk
    · unfold gMap
      cases hj : ios[k]? with
      | some j =>
        have hjm : j ∈ ios := List.mem_of_getElem? hj
        obtain ⟨q, hq⟩ := Option.ne_none_iff_exists'.1 (hlive j hjm).2
        have := ha.grow.bl k q (by rw [cbl k j hj]; exact hq)
        rw [ha.px k hk] at this
        simp at this
      | none =>
        have hge : ios.length ≤ k := by simpa using hj
        have hlt : k < io.length + nb.length := by
          rcases Nat.lt_or_ge k (io.length + nb.length) with h1 | h1
          · exact h1
          · exact absurd hk (ha.fr k h1).2
        have : b ≤ b + (k - ios.length) ∧ b + (k - ios.length) < b + nb.length ∧ E'.ph (io.length + (b + (k - ios.length) - b)) :=
          ⟨by omega, by omega, by rw [show io.length + (b + (k - ios.length) - b) = k by omega]; exact hk⟩
        exact .inl this
    · exact ht htt g ((ha.grow.T g).1 hg')
  have old_blk : ∀ g, g < w.heap.size → (∀ k ∈ ios, E.bl k ≠ some g) → (∀ k ∈ gvs, E.bl k ≠ some g) → w'.heap[g]? = w.heap[g]? := by
    intro g hgl hne hne2
    refine ha.keep.block g hgl ?_
    rintro (⟨j, hj, hjg⟩ | hGg)
    · have hj' : j < ios.length := by omega
      rw [cbl j ios[j] (List.getElem?_eq_getElem hj')] at hjg
      exact hne _ (List.getElem_mem hj') hjg
    · obtain ⟨k, hk, hkg⟩ := hG g hGg
      exact hne2 k hk hkg
  have own_io : ∀ k ∈ ios, ∀ g, E.bl k = some g → ¬ E.S g ∧ ¬ E.T g ∧ (w0.heap.size ≤ g ∨ X g) := fun k hk g hkg => h.own k g (hlive k hk).1 hkg
  have own_gv : ∀ k ∈ gvs, ∀ g, E.bl k = some g → ¬ E.S g ∧ ¬ E.T g ∧ (w0.heap.size ≤ g ∨ X g) := fun k hk g hkg => h.own k g (hgvs k hk).1 hkg
  have st : Stays w E w' E2 := by
    refine ⟨bl_old, fun k hk => .inr hk, fun g hg' => ha.grow.S g (by rw [es]; exact hg'), fun g hg' => hg', ha.rw, fun g hg' => old_blk g (h.lim g hg') (fun k hk hkg => ?_) (fun k hk hkg => ?_)⟩
    · have := own_io k hk g hkg
      exact hg'.elim this.1 this.2.1
    · have := own_gv k hk g hkg
      exact hg'.elim this.1 this.2.1
  have hgw : Grow w E E2 := by
    refine ⟨bl_old, fun k hk => .inr hk, fun g hg' => ha.grow.S g (by rw [es]; exact hg'), fun _ => Iff.rfl, fun g hg' => ?_, rfl⟩
    rcases ha.grow.new g hg' with h1 | h1
    · rw [es] at h1
      exact .inl h1
    · exact .inr h1
  have hgr : Grow w0 E E2 := ⟨hgw.bl, hgw.ph, hgw.S, hgw.T, fun g hg' => (hgw.new g hg').imp id (fun h1 => Nat.le_trans h.keep.size h1), hgw.ro⟩
  -- the boxes by name
  have bk : ∀ k, blook k (σ.behindG b N tm ios io' nb gvs).bx = if k ∈ ios then (ios.idxOf? k).bind (fun j => (io'[j]?).map (AVs.map (gMap b ios))) else
      if b ≤ k ∧ k < b + nb.length then (nb[k - b]?).map (AVs.map (gMap b ios)) else if k ∈ gvs then none else blook k σ.bx := by
    intro k
    show blook k (zipIo _ ios io' ++ (newIo _ b nb ++ (gvs.map (fun k => (k, none)) ++ σ.bx))) = _
    rw [blook_zip hnd hlen'.symm, blook_new, blook_dead]
  have kind : ∀ k, (blook k (σ.behindG b N tm ios io' nb gvs).bx).isSome → (∃ j : Nat, ios[j]? = some k) ∨ (k ∉ ios ∧ b ≤ k ∧ k < b + nb.length) ∨ (k ∉ ios ∧ ¬ (b ≤ k ∧ k < b + nb.length) ∧ k ∉ gvs ∧ (blook k σ.bx).isSome) := by
    intro k hk
    by_cases h1 : k ∈ ios
    · exact .inl (mem_idx h1)
    · rw [bk, if_neg h1] at hk
      by_cases h2 : b ≤ k ∧ k < b + nb.length
      · exact .inr (.inl ⟨h1, h2⟩)
      · rw [if_neg h2] at hk
        by_cases h3 : k ∈ gvs
        · rw [if_pos h3] at hk; simp at hk
        · rw [if_neg h3] at hk
          exact .inr (.inr ⟨h1, h2, h3, hk⟩)
  have e2_new : ∀ k, b ≤ k ∧ k < b + nb.length → E2.bl k = E'.bl (io.length + (k - b)) := by
    intro k hk
    show (if b ≤ k ∧ k < b + nb.length then _ else _) = _
    rw [if_pos hk]
  have e2_old : ∀ k, ¬ (b ≤ k ∧ k < b + nb.length) → E2.bl k = E.bl k := by
    intro k hk
    show (if b ≤ k ∧ k < b + nb.length then _ else _) = _
    rw [if_neg hk]
  have ok_bx : ∀ (j : Nat) c, (io' ++ nb)[j]? = some c → boxAt w' E' j c := ha.ok.bx
  have fwdbox : ∀ j k c, (t || AVs.kept c) = true → boxAt w' E' j c → (∀ g, E'.bl j = some g → E2.bl k = some g) → (E'.ph j → E2.ph k) → boxAt w' E2 k (AVs.map (gMap b ios) c) := by
    intro j k c hkc hbx h1 h2
    rcases hbx with ⟨h3, rfl⟩ | ⟨g, cc, ty, vs, h3, h4, h5, h6, h7⟩
    · exact .inl ⟨h2 h3, rfl⟩
    · exact .inr ⟨g, cc, ty, vs, h1 g h3, h4, h5, h6, Ms.fwd fwd c vs hkc h7⟩
  have io_of : ∀ j k, ios[j]? = some k → j < ios.length := by
    intro j k hj
    rcases Nat.lt_or_ge j ios.length with h1 | h1
    · exact h1
    · simp [List.getElem?_eq_none h1] at hj
  refine ⟨hgw, hg.trans hgr, ⟨by rw [hnt]; exact h.nt, htm st fwd, fun g => M.stays st _ _ (h.gl g), ?_, ?_, ?_, ?_, ?_, fun g i h0 => ha.rw g i (h.rw g i h0), ?_, ?_, ?_⟩⟩
  · intro k cs hk
    rcases kind k (by rw [hk]; rfl) with ⟨j, hj⟩ | ⟨h1, h2⟩ | ⟨h1, h2, h0, h3⟩
    · have hkm : k ∈ ios := List.mem_of_getElem? hj
      rw [bk, if_pos hkm, idxOf_some hnd hj] at hk
      simp only [Option.bind_some, Option.map_eq_some_iff] at hk
      obtain ⟨c, hc, rfl⟩ := hk
      have hjl := io_of j k hj
      refine fwdbox j k c (hk1 c (List.mem_of_getElem? hc)) (ok_bx j c (by rw [List.getElem?_append_left (by omega)]; exact hc)) (fun g hg' => bl_old k g ((bl_in j k g hj).1 hg')) (fun hp => ?_)
      obtain ⟨q, hq⟩ := Option.ne_none_iff_exists'.1 (hlive k hkm).2
      have := (bl_in j k q hj).2 hq
      rw [ha.px j hp] at this
      simp at this
    · rw [bk, if_neg h1, if_pos h2] at hk
      simp only [Option.map_eq_some_iff] at hk
      obtain ⟨c, hc, rfl⟩ := hk
      refine fwdbox (io.length + (k - b)) k c (hk2 c (List.mem_of_getElem? hc)) (ok_bx _ c ?_) (fun g hg' => by rw [e2_new k h2]; exact hg') (fun hp => .inl ⟨h2.1, h2.2, hp⟩)
      rw [List.getElem?_append_right (by rw [ha.len]; omega), ha.len, show io.length + (k - b) - io.length = k - b by omega]
      exact hc
    · rw [bk, if_neg h1, if_neg h2, if_neg h0] at hk
      refine (h.bx k cs hk).stays_other st (fun g hg' => old_blk g (h.live_lt h3 hg') (fun k' hk' hk'g => ?_) (fun k' hk' hk'g => ?_))
      · exact h1 (h.inj k k' g h3 (hlive k' hk').1 hg' hk'g ▸ hk')
      · exact h0 (h.inj k k' g h3 (hgvs k' hk').1 hg' hk'g ▸ hk')
  · intro k g hk hkg
    rcases kind k hk with ⟨j, hj⟩ | ⟨h1, h2⟩ | ⟨h1, h2, h0, h3⟩
    · have hkm : k ∈ ios := List.mem_of_getElem? hj
      have hjl := io_of j k hj
      rw [e2_old k (io_lt k hkm)] at hkg
      have hs := ha.ok.own j g (by simp; omega) ((bl_in j k g hj).2 hkg)
      exact ⟨hs.1, (own_io k hkm g hkg).2⟩
    · rw [e2_new k h2] at hkg
      have hs := ha.ok.own (io.length + (k - b)) g (by rw [List.length_append, ha.len]; omega) hkg
      refine ⟨hs.1, fun hT => hs.2 ((ha.grow.T g).2 (et g hT)), ?_⟩
      rcases ha.new _ g (by omega) (by omega) hkg with h4 | h4
      · exact .inl (Nat.le_trans h.keep.size h4)
      · obtain ⟨k', hk', hk'g⟩ := hG g h4
        exact (own_gv k' hk' g hk'g).2.2
    · rw [e2_old k h2] at hkg
      obtain ⟨o1, o2, o3⟩ := h.own k g h3 hkg
      refine ⟨fun hS => ?_, o2, o3⟩
      rcases ha.grow.new g hS with h4 | h4
      · rw [es] at h4
        exact o1 h4
      · have := h.live_lt h3 hkg; omega
  · -- injective
    have num : ∀ k g, (blook k (σ.behindG b N tm ios io' nb gvs).bx).isSome → E2.bl k = some g → (∃ j, j < io.length + nb.length ∧ E'.bl j = some g ∧ gMap b ios j = k) ∨ ((k ∉ ios ∧ k ∉ gvs) ∧ (blook k σ.bx).isSome ∧ E.bl k = some g) := by
      intro k g hk hkg
      rcases kind k hk with ⟨j, hj⟩ | ⟨h1, h2⟩ | ⟨h1, h2, h0, h3⟩
      · have hkm : k ∈ ios := List.mem_of_getElem? hj
        have hjl := io_of j k hj
        rw [e2_old k (io_lt k hkm)] at hkg
        exact .inl ⟨j, by omega, (bl_in j k g hj).2 hkg, by simp [gMap, hj]⟩
      · rw [e2_new k h2] at hkg
        refine .inl ⟨io.length + (k - b), by omega, hkg, ?_⟩
        have : ios[io.length + (k - b)]? = none := List.getElem?_eq_none (by omega)
        simp only [gMap, this]
        omega
      · rw [e2_old k h2] at hkg
        exact .inr ⟨⟨h1, h0⟩, h3, hkg⟩
    intro k k' g hk hk' hkg hkg'
    have cross : ∀ j k, j < io.length + nb.length → E'.bl j = some g → (k ∉ ios ∧ k ∉ gvs) → (blook k σ.bx).isSome → E.bl k = some g → False := by
      rintro j k hj hjg ⟨hkm, hkm2⟩ hkl hkg
      rcases Nat.lt_or_ge j io.length with h1 | h1
      · have hj' : ios[j]? = some ios[j] := List.getElem?_eq_getElem (by omega)
        have := (bl_in j _ g hj').1 hjg
        have hm : ios[j] ∈ ios := List.getElem_mem (by omega)
        exact hkm (h.inj k ios[j] g hkl (hlive _ hm).1 hkg this ▸ hm)
      · rcases ha.new j g h1 hj hjg with h4 | h4
        · have := h.live_lt hkl hkg
          omega
        · obtain ⟨k', hk', hk'g⟩ := hG g h4
          exact hkm2 (h.inj k k' g hkl (hgvs k' hk').1 hkg hk'g ▸ hk')
    rcases num k g hk hkg with ⟨j, hj, hjg, hjk⟩ | ⟨h1, h2, h3⟩
    · rcases num k' g hk' hkg' with ⟨j', hj', hjg', hjk'⟩ | ⟨h1, h2, h3⟩
      · have := ha.ok.inj j j' g (by rw [List.length_append, ha.len]; exact hj) (by rw [List.length_append, ha.len]; exact hj') hjg hjg'
        rw [← hjk, ← hjk', this]
      · exact (cross j k' hj hjg h1 h2 h3).elim
    · rcases num k' g hk' hkg' with ⟨j', hj', hjg', hjk'⟩ | ⟨h1', h2', h3'⟩
      · exact (cross j' k hj' hjg' h1 h2 h3).elim
      · exact h.inj k k' g h2 h2' h3 h3'
  · intro g hg'
    rcases hg' with h1 | h1
    · exact ha.lim g (.inl h1)
    · exact ha.lim g (.inr ((ha.grow.T g).2 (et g h1)))
  · refine ⟨ha.keep.os.trans h.keep.os, ha.keep.tape.trans h.keep.tape, ha.keep.output.trans h.keep.output, Nat.le_trans h.keep.size ha.keep.size, fun g hgl hX => ?_⟩
    rw [old_blk g (Nat.lt_of_lt_of_le hgl h.keep.size) (fun k hk hkg => ?_) (fun k hk hkg => ?_)]
    · exact h.keep.block g hgl hX
    · rcases (own_io k hk g hkg).2.2 with h1 | h1
      · omega
      · exact hX h1
    · rcases (own_gv k hk g hkg).2.2 with h1 | h1
      · omega
      · exact hX h1
  · intro k hk
    have hk' : N ≤ k := hk
    have hne : ¬ (b ≤ k ∧ k < b + nb.length) := by omega
    rw [e2_old k hne]
    refine ⟨(h.fr k (by omega)).1, fun hp => ?_⟩
    rcases hp with ⟨h1, h2, _⟩ | h1
    · omega
    · exact (h.fr k (by omega)).2 h1
  · intro k hk
    rcases hk with ⟨h1, h2, h3⟩ | h1
    · rw [e2_new k ⟨h1, h2⟩]; exact ha.px _ h3
    · have hkk := h.px k h1
      by_cases hc : b ≤ k ∧ k < b + nb.length
      · exact absurd h1 (hbf k hc.1 (by omega)).2
      · rw [e2_old k hc]; exact hkk
  · have kd : KeepsD w w' := by
      intro g hgd
      have hgl := (Array.getElem?_eq_some_iff.1 hgd).1
      have cell : ∀ k, (blook k σ.bx).isSome → E.bl k ≠ some g := by
        intro k hk hkg
        obtain ⟨cs, hcs⟩ := Option.isSome_iff_exists.1 hk
        rcases h.bx k cs hcs with ⟨h1, _⟩ | ⟨g', c, ty, vs, h1, h2, _⟩
        · rw [h.px k h1] at hkg; simp at hkg
        · obtain rfl : g = g' := by rw [hkg] at h1; simpa using h1
          rw [h2] at hgd; simp at hgd
      rw [old_blk g hgl (fun k hk => cell k (hlive k hk).1) (fun k hk => cell k (hgvs k hk).1)]
      exact hgd
    have := Md.stays st ⟨kd, rfl⟩ h.df
    rw [hdf]
    exact this

end
end Go.Proofs.YtgbpgplkhifgiaaDoor

/- The rule of a call by its contract. No condition. -/
set_option linter.unusedVariables false
set_option linter.unusedSimpArgs false
namespace Go.Proofs.YtgbpgplkhifgiaaDoor
open Go Go.RowKit

/-- Function f has a body: a call of it enters it. -/
def Enters (P : Program) (f : FuncId) : Prop := ∀ args w, (callFunc f args).run P w = .ok (.enter f args) w

def lentBx (lb : List Nat) (σ : St) (k : Nat) : Option (List AV) := if lb.contains k = true then blook k σ.bx else none

def keptAll (x : AV) (io nb : List (List AV)) : Bool := x.kept && io.all AVs.kept && nb.all AVs.kept

section
variable {P : Program} {X : Nat → Prop} {w0 : World} {E0 : Env} {T : TypeId → Option TI} {eqt : List TypeId}

/-- Places that may be read besides. -/
def Env.addT (E : Env) (TL : Nat → Prop) : Env := { E with T := fun g => E.T g ∨ TL g }

theorem stays_addT (w : World) (E : Env) (TL : Nat → Prop) : Stays w E w (E.addT TL) :=
  ⟨fun _ _ h => h, fun _ h => h, fun _ h => h, fun _ h => .inl h, fun _ _ h => h, fun _ _ => rfl⟩

/-- A call by its contract, from the state's side. 'b': the first name of what it makes; 'N': the next free name behind it; 'TL': blocks that are lent besides; 't': nothing is lent. -/
theorem call_coreT {call : Array Value → World → (Ending → World → Prop) → Prop} {E : Env} {σ : St} {a : Act} {w : World} (hg : Grow w0 E0 E) (hs : Sim X w0 E σ a w) {b N : Nat} (hbf : ∀ k, b ≤ k → k < b + 8 → E.bl k = none ∧ ¬ E.ph k) (hN : σ.nx ≤ N) (hbN : b + 8 ≤ N)
    {TL : Nat → Prop} (hTL : ∀ g, TL g → g < w.heap.size ∧ ∀ k, (blook k σ.bx).isSome → E.bl k ≠ some g)
    {fargs : List Operand} {caps : List AV} {cvs : List Value} (hcm : Ms w (E.addT TL) caps cvs) {gl' : List (Nat × AV)} {args' : List AV} {io : List (List AV)} {R : Out → Prop} (hspec : SpecG call gl' args' io R)
    (ios lb : List Nat) (hlen : ios.length = io.length) (hnd : ios.Nodup) (hne : ∀ cs ∈ io, cs ≠ [])
    (hargs : (evs σ fargs ++ caps).map (lendA (lentBx lb σ)) = AVs.map (ioMap σ.nx ios) args')
    (hio : ∀ (j k : Nat) (cs : List AV), ios[j]? = some k → io[j]? = some cs → blook k σ.bx = some (AVs.map (ioMap σ.nx ios) cs))
    (hlb : ∀ k ∈ lb, (blook k σ.bx).isSome ∧ k ∉ ios)
    (hgl : ∀ p ∈ gl', alook p.1 σ.gl = p.2.map (ioMap σ.nx ios)) {t : Bool} (htt : t = true → lb = [] ∧ ∀ g, ¬ TL g) :
    ∃ post, call ⟨fargs.map a.eval ++ cvs⟩ w post ∧ ∀ e w', post e w' → (∀ g, g < w.heap.size → (∀ k ∈ ios, E.bl k ≠ some g) → w'.heap[g]? = w.heap[g]?) ∧ ∃ out, R out ∧ match out with
      | .ret x io' nb => ∃ v, e = .returned v ∧ io'.length = io.length ∧ ((t || keptAll x io' nb) = true → nb.length ≤ 8 → ∀ d, dstOk σ d = true →
          ∃ E2, Grow w E E2 ∧ Near b E E2 ∧ Grow w0 E0 E2 ∧ Sim X w0 E2 (σ.behindB b N (tput d (x.map (gMap b ios)) σ.tm) ios io' nb) (a.put d v) w')
      | .pan v io' => e = .panicked [{ v, recovered := false }] ∧ io'.length = io.length ∧ ((t || io'.all AVs.kept) = true → ∃ E2, Grow w0 E0 E2 ∧ Sim X w0 E2 (σ.behindB b N σ.tm ios io' []) a w') := by
  let L : Nat → Prop := fun k => k ∈ lb
  let EA : Env := E.addT TL
  have sa : Stays w E w EA := stays_addT w E TL
  have hbx : ∀ k cs, lentBx lb σ k = some cs → boxAt w EA k cs ∧ L k := by
    intro k cs hk
    unfold lentBx at hk
    split at hk
    · rename_i hc
      exact ⟨(hs.bx k cs hk).stays_other sa (fun _ _ => rfl), by simpa using hc⟩
    · simp at hk
  have hms := lendAs_run hbx ((Ms.stays sa _ _ (Ms_evs hs fargs)).append hcm)
  rw [hargs] at hms
  have hmc : Ms w ((EA.lent L).callee σ.nx ios) args' (fargs.map a.eval ++ cvs) := Ms.unmap (Env.named w (EA.lent L) (ioMap σ.nx ios)) _ _ hms
  have ioAt : ∀ (j k : Nat) (cs : List AV), ios[j]? = some k → io[j]? = some cs → ∃ g, E.bl k = some g ∧ (blook k σ.bx).isSome ∧ boxAt w ((EA.lent L).callee σ.nx ios) j cs := by
    intro j k cs hj hc
    have hb := hio j k cs hj hc
    have hnc := hne cs (List.mem_of_getElem? hc)
    rcases hs.bx k _ hb with ⟨_, h2⟩ | ⟨g, c, ty, vs, h1, h2, h3, h4, h5⟩
    · exact absurd (by cases cs <;> first | rfl | simp [AVs.map] at h2) hnc
    · refine ⟨g, h1, by rw [hb]; rfl, .inr ⟨g, c, ty, vs, ?_, h2, h3, h4, ?_⟩⟩
      · show E.bl (ioMap σ.nx ios j) = _
        simp [ioMap, hj, h1]
      · exact Ms.unmap (Env.named w (EA.lent L) (ioMap σ.nx ios)) _ _ (Ms.stays (stays_lent w EA L) _ _ (Ms.stays sa _ _ h5))
  have at_j : ∀ j : Nat, j < io.length → ∃ (k : Nat) (cs : List AV), ios[j]? = some k ∧ io[j]? = some cs := by
    intro j hj
    exact ⟨ios[j], io[j], List.getElem?_eq_getElem (by omega), List.getElem?_eq_getElem hj⟩
  have hlive : ∀ k ∈ ios, (blook k σ.bx).isSome ∧ E.bl k ≠ none := by
    intro k hk
    obtain ⟨j, hj⟩ := mem_idx hk
    have hjl : j < ios.length := by
      rcases Nat.lt_or_ge j ios.length with h1 | h1
      · exact h1
      · simp [List.getElem?_eq_none h1] at hj
    obtain ⟨g, h1, h2, _⟩ := ioAt j k io[j] hj (List.getElem?_eq_getElem (by omega))
    exact ⟨h2, by rw [h1]; simp⟩
  have cbl : ∀ (j k : Nat), ios[j]? = some k → ((EA.lent L).callee σ.nx ios).bl j = E.bl k := by
    intro j k hj
    show E.bl (ioMap σ.nx ios j) = _
    simp [ioMap, hj]
  have hiok : IoOk w ((EA.lent L).callee σ.nx ios) io := by
    refine ⟨fun j cs hc => ?_, fun j g hj hgj => ?_, fun j j' g hj hj' hgj hgj' => ?_⟩
    · have hjl : j < io.length := by
        rcases Nat.lt_or_ge j io.length with h1 | h1
        · exact h1
        · simp [List.getElem?_eq_none h1] at hc
      obtain ⟨k, cs', hk, hc'⟩ := at_j j hjl
      obtain ⟨g, _, _, h3⟩ := ioAt j k cs hk hc
      exact h3
    · obtain ⟨k, cs', hk, hc'⟩ := at_j j hj
      rw [cbl j k hk] at hgj
      have hkm : k ∈ ios := List.mem_of_getElem? hk
      obtain ⟨o1, o2, _⟩ := hs.own k g (hlive k hkm).1 hgj
      refine ⟨o1, fun hT => ?_⟩
      rcases hT with (h1 | h1) | ⟨k', h1, h2⟩
      · exact o2 h1
      · exact (hTL g h1).2 k (hlive k hkm).1 hgj
      · have := hs.inj k k' g (hlive k hkm).1 (hlb k' h1).1 hgj h2
        exact (hlb k' h1).2 (this ▸ hkm)
    · obtain ⟨k, _, hk, _⟩ := at_j j hj
      obtain ⟨k', _, hk', _⟩ := at_j j' hj'
      rw [cbl j k hk] at hgj
      rw [cbl j' k' hk'] at hgj'
      have := hs.inj k k' g (hlive k (List.mem_of_getElem? hk)).1 (hlive k' (List.mem_of_getElem? hk')).1 hgj hgj'
      subst this
      have h1 := idxOf_some hnd hk
      have h2 := idxOf_some hnd hk'
      rw [h1] at h2
      simpa using h2
  have hlim : ∀ g, ((EA.lent L).callee σ.nx ios).S g ∨ ((EA.lent L).callee σ.nx ios).T g → g < w.heap.size := by
    intro g hg'
    rcases hg' with h1 | (h1 | h1) | ⟨k, h1, h2⟩
    · exact hs.lim g (.inl h1)
    · exact hs.lim g (.inr h1)
    · exact (hTL g h1).1
    · exact hs.live_lt (hlb k h1).1 h2
  have hlow : Low ((EA.lent L).callee σ.nx ios) io.length := by
    intro k hk
    have : ioMap σ.nx ios k = σ.nx + k := by
      unfold ioMap
      rw [List.getElem?_eq_none (by omega)]
    have hfr := hs.fr (σ.nx + k) (by omega)
    exact ⟨by show E.bl (ioMap σ.nx ios k) = none; rw [this]; exact hfr.1, by show ¬ E.ph (ioMap σ.nx ios k); rw [this]; exact hfr.2⟩
  have hpx : ∀ k, ((EA.lent L).callee σ.nx ios).ph k → ((EA.lent L).callee σ.nx ios).bl k = none := fun k hk => hs.px (ioMap σ.nx ios k) hk
  have hglm : ∀ g, M w ((EA.lent L).callee σ.nx ios) (alook g gl') (.pointer (some ⟨g, 0, none⟩)) := by
    intro g
    rcases alook_mem (t := g) (l := gl') with h1 | h1
    · rw [h1]; trivial
    · have h2 := hgl _ h1
      have h3 := M.stays (stays_lent w EA L) _ _ (M.stays sa _ _ (hs.gl g))
      simp only at h2
      rw [h2] at h3
      exact M.unmap (Env.named w (EA.lent L) (ioMap σ.nx ios)) _ _ h3
  have e4 : ∀ g, E.T g → (EA.lent L).T g := fun g h => Or.inl (Or.inl h)
  have hte : t = true → ∀ g, (EA.lent L).T g → E.T g := by
    intro he g hgT
    obtain ⟨h1, h2⟩ := htt he
    rcases hgT with (h3 | h3) | ⟨k, h3, _⟩
    · exact h3
    · exact absurd h3 (h2 g)
    · have h4 : k ∈ lb := h3
      rw [h1] at h4
      simp at h4
  refine ⟨_, hspec ((EA.lent L).callee σ.nx ios) w _ hmc hglm hiok hlim hlow hpx, ?_⟩
  rintro e w' ⟨out, E', hR, hout⟩
  refine ⟨fun g hgl hne => ?_, out, hR, ?_⟩
  · have key : ∀ io' nb, After w ((EA.lent L).callee σ.nx ios) w' E' io.length io' nb → w'.heap[g]? = w.heap[g]? := by
      intro io' nb ha
      refine ha.keep.block g hgl ?_
      rintro (⟨j, hj, hjg⟩ | h0)
      case inr => exact h0
      have hj' : ios[j]? = some ios[j] := List.getElem?_eq_getElem (by omega)
      rw [cbl j ios[j] hj'] at hjg
      exact hne _ (List.getElem_mem (by omega)) hjg
    cases out with
    | ret x io' nb => exact key _ _ hout.2
    | pan v io' => exact key _ _ hout.2
  have near : ∀ n, n ≤ 8 → Near b E (E.back E' b io.length n) := by
    intro n hn k hk
    constructor
    · show (if b ≤ k ∧ k < b + n then _ else _) = _
      rw [if_neg (by omega)]
    · constructor
      · rintro (⟨h1, h2, _⟩ | h1)
        · omega
        · exact h1
      · exact .inr
  cases out with
  | ret x io' nb =>
    obtain ⟨⟨v, rfl, hmv⟩, haf⟩ := hout
    refine ⟨v, rfl, haf.len, fun hk hn8 d hd => ?_⟩
    have hk' : (t || x.kept) = true ∧ (∀ c ∈ io', (t || AVs.kept c) = true) ∧ (∀ c ∈ nb, (t || AVs.kept c) = true) := by
      cases he : t
      · rw [he] at hk
        simp [keptAll] at hk
        obtain ⟨⟨h1, h2⟩, h3⟩ := hk
        exact ⟨by simpa using h1, fun c hc => by simpa using h2 c hc, fun c hc => by simpa using h3 c hc⟩
      · simp
    obtain ⟨hgw, hg2, hs2⟩ := hs.behind hg hbf hN hbN (EC := (EA.lent L).callee σ.nx ios) (ios := ios) cbl rfl e4 (gvs := []) (G := fun _ => False) (by simp) (fun _ h => h.elim) (io := io) (io' := io') (nb := nb) hnd hlen hlive haf hn8 (t := t) hte hk'.2.1 hk'.2.2 (a' := a.put d v) (tm := tput d (x.map (gMap b ios)) σ.tm)
      (by cases d <;> simp [Act.put]) (by cases d <;> rfl)
      (fun st fw => alook_put (fun t => M.stays st _ _ (hs.tm t)) hs.nt (dst_lt hd) (M.fwd fw x v hk'.1 hmv))
    exact ⟨_, hgw, near _ hn8, hg2, hs2⟩
  | pan v io' =>
    obtain ⟨rfl, haf⟩ := hout
    refine ⟨rfl, haf.len, fun hk => ?_⟩
    have hk' : ∀ c ∈ io', (t || AVs.kept c) = true := by
      cases he : t
      · rw [he] at hk
        simp at hk
        exact fun c hc => by simpa using hk c hc
      · simp
    obtain ⟨hgw, hg2, hs2⟩ := hs.behind hg hbf hN hbN (EC := (EA.lent L).callee σ.nx ios) (ios := ios) cbl rfl e4 (gvs := []) (G := fun _ => False) (by simp) (fun _ h => h.elim) (io := io) (io' := io') (nb := []) hnd hlen hlive haf (by simp) (t := t) hte hk' (by simp) (a' := a) (tm := σ.tm) rfl rfl
      (fun st fw t => M.stays st _ _ (hs.tm t))
    exact ⟨_, hg2, hs2⟩

theorem call_core {call : Array Value → World → (Ending → World → Prop) → Prop} {E : Env} {σ : St} {a : Act} {w : World} (hg : Grow w0 E0 E) (hs : Sim X w0 E σ a w) {b N : Nat} (hbf : ∀ k, b ≤ k → k < b + 8 → E.bl k = none ∧ ¬ E.ph k) (hN : σ.nx ≤ N) (hbN : b + 8 ≤ N)
    {fargs : List Operand} {caps : List AV} {cvs : List Value} (hcm : Ms w E caps cvs) {gl' : List (Nat × AV)} {args' : List AV} {io : List (List AV)} {R : Out → Prop} (hspec : SpecG call gl' args' io R)
    (ios lb : List Nat) (hlen : ios.length = io.length) (hnd : ios.Nodup) (hne : ∀ cs ∈ io, cs ≠ [])
    (hargs : (evs σ fargs ++ caps).map (lendA (lentBx lb σ)) = AVs.map (ioMap σ.nx ios) args')
    (hio : ∀ (j k : Nat) (cs : List AV), ios[j]? = some k → io[j]? = some cs → blook k σ.bx = some (AVs.map (ioMap σ.nx ios) cs))
    (hlb : ∀ k ∈ lb, (blook k σ.bx).isSome ∧ k ∉ ios)
    (hgl : ∀ p ∈ gl', alook p.1 σ.gl = p.2.map (ioMap σ.nx ios)) :
    ∃ post, call ⟨fargs.map a.eval ++ cvs⟩ w post ∧ ∀ e w', post e w' → ∃ out, R out ∧ match out with
      | .ret x io' nb => ∃ v, e = .returned v ∧ io'.length = io.length ∧ ((lb.isEmpty || keptAll x io' nb) = true → nb.length ≤ 8 → ∀ d, dstOk σ d = true →
          ∃ E2, Near b E E2 ∧ Grow w0 E0 E2 ∧ Sim X w0 E2 (σ.behindB b N (tput d (x.map (gMap b ios)) σ.tm) ios io' nb) (a.put d v) w')
      | .pan v io' => e = .panicked [{ v, recovered := false }] ∧ io'.length = io.length ∧ ((lb.isEmpty || io'.all AVs.kept) = true → ∃ E2, Grow w0 E0 E2 ∧ Sim X w0 E2 (σ.behindB b N σ.tm ios io' []) a w') := by
  obtain ⟨post, h1, h2⟩ := call_coreT hg hs hbf hN hbN (TL := fun _ => False) (fun _ h => h.elim) (Ms.stays (stays_addT w E _) _ _ hcm) hspec ios lb hlen hnd hne hargs hio hlb hgl (t := lb.isEmpty) (fun h => ⟨by simpa using h, fun _ h => h⟩)
  refine ⟨post, h1, fun e w' he => ?_⟩
  obtain ⟨_, out, hR, ho⟩ := h2 e w' he
  refine ⟨out, hR, ?_⟩
  cases out with
  | ret x io' nb =>
    obtain ⟨v, e1, e2, e3⟩ := ho
    exact ⟨v, e1, e2, fun a1 a2 d hd => let ⟨E2, _, q⟩ := e3 a1 a2 d hd; ⟨E2, q⟩⟩
  | pan v io' => exact ho

theorem call_coreV {call : Array Value → World → (Ending → World → Prop) → Prop} {E : Env} {σ : St} {a : Act} {w : World} (hg : Grow w0 E0 E) (hs : Sim X w0 E σ a w) {b N : Nat} (hbf : ∀ k, b ≤ k → k < b + 8 → E.bl k = none ∧ ¬ E.ph k) (hN : σ.nx ≤ N) (hbN : b + 8 ≤ N)
    {TL : Nat → Prop} (hTL : ∀ g, TL g → g < w.heap.size ∧ ∀ k, (blook k σ.bx).isSome → E.bl k ≠ some g)
    {fargs : List Operand} {caps : List AV} {cvs : List Value} (hcm : Ms w (E.addT TL) caps cvs) {gl' : List (Nat × AV)} {args' : List AV} {io gv : List (List AV)} {R : Out → Prop} (hspec : SpecV call gl' args' io gv R)
    (ios gvs lb : List Nat) (hlen : ios.length = io.length) (hlenv : gvs.length = gv.length) (hnd : (ios ++ gvs).Nodup) (hne : ∀ cs ∈ io, cs ≠ [])
    (hargs : (evs σ fargs ++ caps).map (lendA (lentBx lb σ)) = AVs.map (ioMap σ.nx (ios ++ gvs)) args')
    (hio : ∀ (j k : Nat) (cs : List AV), (ios ++ gvs)[j]? = some k → (io ++ gv)[j]? = some cs → blook k σ.bx = some (AVs.map (ioMap σ.nx (ios ++ gvs)) cs))
    (hlb : ∀ k ∈ lb, (blook k σ.bx).isSome ∧ k ∉ ios ++ gvs)
    (hgl : ∀ p ∈ gl', alook p.1 σ.gl = p.2.map (ioMap σ.nx (ios ++ gvs))) {t : Bool} (htt : t = true → lb = [] ∧ ∀ g, ¬ TL g) :
    ∃ post, call ⟨fargs.map a.eval ++ cvs⟩ w post ∧ ∀ e w', post e w' → (∀ g, g < w.heap.size → (∀ k ∈ ios ++ gvs, E.bl k ≠ some g) → w'.heap[g]? = w.heap[g]?) ∧ ∃ x io' nb, R (.ret x io' nb) ∧
      ∃ v, e = .returned v ∧ io'.length = io.length ∧ ((t || keptAll x io' nb) = true → nb.length ≤ 8 → ∀ d, dstOk σ d = true →
          ∃ E2, Grow w E E2 ∧ Near b E E2 ∧ Grow w0 E0 E2 ∧ Sim X w0 E2 (σ.behindG b N (tput d (x.map (gMap b ios)) σ.tm) ios io' nb gvs) (a.put d v) w') := by
  let L : Nat → Prop := fun k => k ∈ lb
  let EA : Env := E.addT TL
  let all : List Nat := ios ++ gvs
  have hall : all.length = (io ++ gv).length := by simp [all]; omega
  have sa : Stays w E w EA := stays_addT w E TL
  have hbx : ∀ k cs, lentBx lb σ k = some cs → boxAt w EA k cs ∧ L k := by
    intro k cs hk
    unfold lentBx at hk
    split at hk
    · rename_i hc
      exact ⟨(hs.bx k cs hk).stays_other sa (fun _ _ => rfl), by simpa using hc⟩
    · simp at hk
  have hms := lendAs_run hbx ((Ms.stays sa _ _ (Ms_evs hs fargs)).append hcm)
  rw [hargs] at hms
  let EC : Env := (EA.lent L).callee σ.nx all
  have hmc : Ms w EC args' (fargs.map a.eval ++ cvs) := Ms.unmap (Env.named w (EA.lent L) (ioMap σ.nx all)) _ _ hms
  have cbl0 : ∀ (j k : Nat), all[j]? = some k → EC.bl j = E.bl k := by
    intro j k hj
    show E.bl (ioMap σ.nx all j) = _
    simp [ioMap, hj]
  have cph0 : ∀ (j k : Nat), all[j]? = some k → (EC.ph j ↔ E.ph k) := by
    intro j k hj
    show E.ph (ioMap σ.nx all j) ↔ _
    simp [ioMap, hj]
  have ioAt : ∀ (j k : Nat) (cs : List AV), all[j]? = some k → (io ++ gv)[j]? = some cs → (blook k σ.bx).isSome ∧ boxAt w EC j cs := by
    intro j k cs hj hc
    have hb := hio j k cs hj hc
    refine ⟨by rw [hb]; rfl, ?_⟩
    rcases hs.bx k _ hb with ⟨h1, h2⟩ | ⟨g, c, ty, vs, h1, h2, h3, h4, h5⟩
    · exact .inl ⟨(cph0 j k hj).2 h1, by cases cs <;> first | rfl | simp [AVs.map] at h2⟩
    · exact .inr ⟨g, c, ty, vs, by rw [cbl0 j k hj]; exact h1, h2, h3, h4, Ms.unmap (Env.named w (EA.lent L) (ioMap σ.nx all)) _ _ (Ms.stays (stays_lent w EA L) _ _ (Ms.stays sa _ _ h5))⟩
  have at_j : ∀ j : Nat, j < (io ++ gv).length → ∃ (k : Nat) (cs : List AV), all[j]? = some k ∧ (io ++ gv)[j]? = some cs := by
    intro j hj
    exact ⟨all[j], (io ++ gv)[j], List.getElem?_eq_getElem (by omega), List.getElem?_eq_getElem hj⟩
  have live : ∀ k ∈ all, (blook k σ.bx).isSome := by
    intro k hk
    obtain ⟨j, hj⟩ := mem_idx hk
    have hjl : j < all.length := by
      rcases Nat.lt_or_ge j all.length with h1 | h1
      · exact h1
      · simp [List.getElem?_eq_none h1] at hj
    exact (ioAt j k (io ++ gv)[j] hj (List.getElem?_eq_getElem (by omega))).1
  have hlive : ∀ k ∈ ios, (blook k σ.bx).isSome ∧ E.bl k ≠ none := by
    intro k hk
    refine ⟨live k (by simp [all, hk]), ?_⟩
    obtain ⟨j, hj⟩ := mem_idx hk
    have hjl : j < ios.length := by
      rcases Nat.lt_or_ge j ios.length with h1 | h1
      · exact h1
      · simp [List.getElem?_eq_none h1] at hj
    have hja : all[j]? = some k := by simp only [all]; rw [List.getElem?_append_left hjl]; exact hj
    have hcs : (io ++ gv)[j]? = some io[j] := by rw [List.getElem?_append_left (by omega)]; exact List.getElem?_eq_getElem (by omega)
    have hb := hio j k io[j] hja hcs
    rcases hs.bx k _ hb with ⟨h1, h2⟩ | ⟨g, c, ty, vs, h1, h2, h3, h4, h5⟩
    · exact absurd (by cases hq : io[j] <;> first | rfl | simp [hq, AVs.map] at h2) (hne io[j] (List.getElem_mem (by omega)))
    · rw [h1]; simp
  have hiok : IoOk w EC (io ++ gv) := by
    refine ⟨fun j cs hc => ?_, fun j g hj hgj => ?_, fun j j' g hj hj' hgj hgj' => ?_⟩
    · have hjl : j < (io ++ gv).length := by
        rcases Nat.lt_or_ge j (io ++ gv).length with h1 | h1
        · exact h1
        · simp only [List.getElem?_eq_none h1] at hc; simp at hc
      obtain ⟨k, cs', hk, hc'⟩ := at_j j hjl
      exact (ioAt j k cs hk hc).2
    · obtain ⟨k, cs', hk, hc'⟩ := at_j j hj
      rw [cbl0 j k hk] at hgj
      have hkm : k ∈ all := List.mem_of_getElem? hk
      obtain ⟨o1, o2, _⟩ := hs.own k g (live k hkm) hgj
      refine ⟨o1, fun hT => ?_⟩
      rcases hT with (h1 | h1) | ⟨k', h1, h2⟩
      · exact o2 h1
      · exact (hTL g h1).2 k (live k hkm) hgj
      · have := hs.inj k k' g (live k hkm) (hlb k' h1).1 hgj h2
        exact (hlb k' h1).2 (this ▸ hkm)
    · obtain ⟨k, _, hk, _⟩ := at_j j hj
      obtain ⟨k', _, hk', _⟩ := at_j j' hj'
      rw [cbl0 j k hk] at hgj
      rw [cbl0 j' k' hk'] at hgj'
      have := hs.inj k k' g (live k (List.mem_of_getElem? hk)) (live k' (List.mem_of_getElem? hk')) hgj hgj'
      subst this
      have h1 := idxOf_some hnd hk
      have h2 := idxOf_some hnd hk'
      rw [h1] at h2
      simpa using h2
  have hlim : ∀ g, EC.S g ∨ EC.T g → g < w.heap.size := by
    intro g hg'
    rcases hg' with h1 | (h1 | h1) | ⟨k, h1, h2⟩
    · exact hs.lim g (.inl h1)
    · exact hs.lim g (.inr h1)
    · exact (hTL g h1).1
    · exact hs.live_lt (hlb k h1).1 h2
  have hlow : Low EC (io ++ gv).length := by
    intro k hk
    have : ioMap σ.nx all k = σ.nx + k := by
      unfold ioMap
      rw [List.getElem?_eq_none (by omega)]
    have hfr := hs.fr (σ.nx + k) (by omega)
    exact ⟨by show E.bl (ioMap σ.nx all k) = none; rw [this]; exact hfr.1, by show ¬ E.ph (ioMap σ.nx all k); rw [this]; exact hfr.2⟩
  have hpx : ∀ k, EC.ph k → EC.bl k = none := fun k hk => hs.px (ioMap σ.nx all k) hk
  have hglm : ∀ g, M w EC (alook g gl') (.pointer (some ⟨g, 0, none⟩)) := by
    intro g
    rcases alook_mem (t := g) (l := gl') with h1 | h1
    · rw [h1]; trivial
    · have h2 := hgl _ h1
      have h3 := M.stays (stays_lent w EA L) _ _ (M.stays sa _ _ (hs.gl g))
      simp only at h2
      rw [h2] at h3
      exact M.unmap (Env.named w (EA.lent L) (ioMap σ.nx all)) _ _ h3
  have e4 : ∀ g, E.T g → (EC.cut io.length).T g := fun g h => Or.inl (Or.inl h)
  have hte : t = true → ∀ g, (EC.cut io.length).T g → E.T g := by
    intro he g hgT
    obtain ⟨h1, h2⟩ := htt he
    rcases hgT with (h3 | h3) | ⟨k, h3, _⟩
    · exact h3
    · exact absurd h3 (h2 g)
    · have h4 : k ∈ lb := h3
      rw [h1] at h4
      simp at h4
  have cbl : ∀ (j k : Nat), ios[j]? = some k → (EC.cut io.length).bl j = E.bl k := by
    intro j k hj
    have hjl : j < ios.length := by
      rcases Nat.lt_or_ge j ios.length with h1 | h1
      · exact h1
      · simp [List.getElem?_eq_none h1] at hj
    show (if j < io.length then EC.bl j else none) = _
    rw [if_pos (by omega)]
    exact cbl0 j k (by simp only [all]; rw [List.getElem?_append_left hjl]; exact hj)
  have hG : ∀ g, givenAt EC io.length (io ++ gv).length g → ∃ k ∈ gvs, E.bl k = some g := by
    rintro g ⟨j, h1, h2, h3⟩
    obtain ⟨k, _, hk, _⟩ := at_j j h2
    rw [cbl0 j k hk] at h3
    refine ⟨k, ?_, h3⟩
    have : gvs[j - ios.length]? = some k := by
      have := hk
      simp only [all] at this
      rw [List.getElem?_append_right (by omega)] at this
      exact this
    exact List.mem_of_getElem? this
  have hnd2 := List.nodup_append.1 hnd
  refine ⟨_, hspec EC w _ hmc hglm hiok hlim hlow hpx, ?_⟩
  rintro e w' ⟨x, io', nb, E', hR, ⟨v, rfl, hmv⟩, haf⟩
  refine ⟨fun g hgl hne => ?_, x, io', nb, hR, v, rfl, haf.len, fun hk hn8 d hd => ?_⟩
  · refine haf.keep.block g hgl ?_
    rintro (⟨j, hj, hjg⟩ | h0)
    · have hj' : ios[j]? = some ios[j] := List.getElem?_eq_getElem (by omega)
      rw [cbl j ios[j] hj'] at hjg
      exact hne _ (by simp) hjg
    · obtain ⟨k, hk, hkg⟩ := hG g h0
      exact hne k (by simp [hk]) hkg
  · have near : ∀ n, n ≤ 8 → Near b E (E.back E' b io.length n) := by
      intro n hn k hk
      constructor
      · show (if b ≤ k ∧ k < b + n then _ else _) = _
        rw [if_neg (by omega)]
      · constructor
        · rintro (⟨h1, h2, _⟩ | h1)
          · omega
          · exact h1
        · exact .inr
    have hk' : (t || x.kept) = true ∧ (∀ c ∈ io', (t || AVs.kept c) = true) ∧ (∀ c ∈ nb, (t || AVs.kept c) = true) := by
      cases he : t
      · rw [he] at hk
        simp [keptAll] at hk
        obtain ⟨⟨h1, h2⟩, h3⟩ := hk
        exact ⟨by simpa using h1, fun c hc => by simpa using h2 c hc, fun c hc => by simpa using h3 c hc⟩
      · simp
    obtain ⟨hgw, hg2, hs2⟩ := hs.behind hg hbf hN hbN (EC := EC.cut io.length) (ios := ios) cbl rfl e4 (gvs := gvs) (G := givenAt EC io.length (io ++ gv).length)
      (fun k hk => ⟨live k (by simp [all, hk]), fun hki => hnd2.2.2 k hki k hk rfl⟩) hG (io := io) (io' := io') (nb := nb) hnd2.1 hlen hlive haf hn8 (t := t) hte hk'.2.1 hk'.2.2 (a' := a.put d v) (tm := tput d (x.map (gMap b ios)) σ.tm)
      (by cases d <;> simp [Act.put]) (by cases d <;> rfl)
      (fun st fw => alook_put (fun t => M.stays st _ _ (hs.tm t)) hs.nt (dst_lt hd) (M.fwd fw x v hk'.1 hmv))
    exact ⟨_, hgw, near _ hn8, hg2, hs2⟩

/-- What the call operation enters. -/
theorem run_enter {o : Oper} {σ : St} {E : Env} {a : Act} {w : World} (hs : Sim X w0 E σ a w) {f : Operand} {fargs : Array Operand} {fty : Array TypeId} {K : FuncId} {caps : List AV}
    (ho : o.op = .call ⟨.value f, fargs, fty⟩) (hf : σ.ev f = .clo K caps) (hen : Enters P K) : ∃ cvs, Ms w E caps cvs ∧ (execOp a.eval o).run P w = .ok (.enter K ⟨fargs.toList.map a.eval ++ cvs⟩) w := by
  have hfv := hs.ev f
  rw [hf] at hfv
  obtain ⟨cvs, hfe, hcm⟩ := hfv
  refine ⟨cvs, hcm, ?_⟩
  have e : fargs.map a.eval ++ (⟨cvs⟩ : Array Value) = ⟨fargs.toList.map a.eval ++ cvs⟩ := Array.ext' (by simp)
  have e2 : (#[] : Array Value) ++ fargs.map a.eval ++ (⟨cvs⟩ : Array Value) = ⟨fargs.toList.map a.eval ++ cvs⟩ := by rw [Array.empty_append]; exact e
  simp only [execOp, ho, resolve, hfe, Deferred.ofValue, Sem.run_bind, Sem.run_pure, Result.andThen_ok, invoke]
  rw [e2]
  exact hen _ _

/-- The operation is carried out: it has no guard, or its guard holds. -/
def Wanted (ops : Array Oper) (σ : St) (o : Oper) : Prop := o.guard = none ∨ ∃ j t want, o.guard = some (j, want) ∧ gslot ops j = some t ∧ alook t σ.tm = .val (.bool want)

theorem AL_callW {ops : Array Oper} {o : Oper} {l : List Oper} {σ : St} {Q : Exit → St → Prop} {f : Operand} {fargs : Array Operand} {fty : Array TypeId} {K : FuncId} {caps : List AV} {gl' : List (Nat × AV)} {args' : List AV} {io : List (List AV)} {R : Out → Prop}
    (ho : o.op = .call ⟨.value f, fargs, fty⟩) (hgd : Wanted ops σ o) (hd : dstOk σ o.dst = true) (hf : σ.ev f = .clo K caps) (hen : Enters P K) (hspec : Spec P gl' K args' io R)
    (ios lb : List Nat) (hlen : ios.length = io.length) (hnd : ios.Nodup) (hne : ∀ cs ∈ io, cs ≠ [])
    (hargs : (evs σ fargs.toList ++ caps).map (lendA (lentBx lb σ)) = AVs.map (ioMap σ.nx ios) args')
    (hio : ∀ (j k : Nat) (cs : List AV), ios[j]? = some k → io[j]? = some cs → blook k σ.bx = some (AVs.map (ioMap σ.nx ios) cs))
    (hlb : ∀ k ∈ lb, (blook k σ.bx).isSome ∧ k ∉ ios)
    (hgl : ∀ p ∈ gl', alook p.1 σ.gl = p.2.map (ioMap σ.nx ios))
    (hret : ∀ x io' nb, R (.ret x io' nb) → io'.length = io.length → (lb.isEmpty || keptAll x io' nb) = true ∧ nb.length ≤ 8 ∧ AL P X w0 E0 ops l (σ.behind (tput o.dst (x.map (gMap σ.nx ios)) σ.tm) ios io' nb) Q)
    (hpan : ∀ v io', R (.pan v io') → io'.length = io.length → (lb.isEmpty || io'.all AVs.kept) = true ∧ Q (.panic [{ v, recovered := false }]) (σ.behind σ.tm ios io' [])) :
    AL P X w0 E0 ops (o :: l) σ Q := by
  intro i hi E a w hg hs
  obtain ⟨hoi, hl⟩ := drop_cons hi
  have ho' : ops[i]? = some o := by simpa using hoi
  simp only [List.length_cons, List.range', wpOpsIn, ho']
  have hw : Region.wanted o (yielded ops a.tmps) = true := by
    rcases hgd with hgd | ⟨j, t, want, hgd, hj, hb⟩
    · simp [Region.wanted, hgd]
    · have hy := yielded_of hs hj hb
      simp [Region.wanted, hgd, hy]
  rw [if_pos hw]
  obtain ⟨cvs, hcm, hrun⟩ := run_enter (P := P) hs ho hf hen
  obtain ⟨post, hcall, hpost⟩ := call_core hg hs (b := σ.nx) (N := σ.nx + 8) (fun k hk _ => hs.fr k hk) (by omega) (by omega) hcm hspec ios lb hlen hnd hne hargs hio hlb hgl
  refine oper_fr (by rw [ho]; intro c; simp) ?_
  rw [hrun, Oper.upon_enter]
  refine Calls.mono hcall ?_
  intro e w' he
  obtain ⟨out, hR, hout⟩ := hpost e w' he
  cases out with
  | ret x io' nb =>
    obtain ⟨v, rfl, hle, hk⟩ := hout
    obtain ⟨h1, h2, h3⟩ := hret x io' nb hR hle
    obtain ⟨E2, _, hg2, hs2⟩ := hk h1 h2 o.dst hd
    exact h3 (i + 1) hl _ _ w' hg2 hs2
  | pan v io' =>
    obtain ⟨rfl, hle, hk⟩ := hout
    obtain ⟨h1, h2⟩ := hpan v io' hR hle
    obtain ⟨E2, hg2, hs2⟩ := hk h1
    exact ⟨_, _, h2, hg2, hs2⟩

theorem AL_call {ops : Array Oper} {o : Oper} {l : List Oper} {σ : St} {Q : Exit → St → Prop} {f : Operand} {fargs : Array Operand} {fty : Array TypeId} {K : FuncId} {caps : List AV} {gl' : List (Nat × AV)} {args' : List AV} {io : List (List AV)} {R : Out → Prop}
    (ho : o.op = .call ⟨.value f, fargs, fty⟩) (hgd : o.guard = none) (hd : dstOk σ o.dst = true) (hf : σ.ev f = .clo K caps) (hen : Enters P K) (hspec : Spec P gl' K args' io R)
    (ios lb : List Nat) (hlen : ios.length = io.length) (hnd : ios.Nodup) (hne : ∀ cs ∈ io, cs ≠ [])
    (hargs : (evs σ fargs.toList ++ caps).map (lendA (lentBx lb σ)) = AVs.map (ioMap σ.nx ios) args')
    (hio : ∀ (j k : Nat) (cs : List AV), ios[j]? = some k → io[j]? = some cs → blook k σ.bx = some (AVs.map (ioMap σ.nx ios) cs))
    (hlb : ∀ k ∈ lb, (blook k σ.bx).isSome ∧ k ∉ ios)
    (hgl : ∀ p ∈ gl', alook p.1 σ.gl = p.2.map (ioMap σ.nx ios))
    (hret : ∀ x io' nb, R (.ret x io' nb) → io'.length = io.length → (lb.isEmpty || keptAll x io' nb) = true ∧ nb.length ≤ 8 ∧ AL P X w0 E0 ops l (σ.behind (tput o.dst (x.map (gMap σ.nx ios)) σ.tm) ios io' nb) Q)
    (hpan : ∀ v io', R (.pan v io') → io'.length = io.length → (lb.isEmpty || io'.all AVs.kept) = true ∧ Q (.panic [{ v, recovered := false }]) (σ.behind σ.tm ios io' [])) :
    AL P X w0 E0 ops (o :: l) σ Q :=
  AL_callW ho (.inl hgd) hd hf hen hspec ios lb hlen hnd hne hargs hio hlb hgl hret hpan

/-- A call that takes boxes over. -/
theorem AL_callV {ops : Array Oper} {o : Oper} {l : List Oper} {σ : St} {Q : Exit → St → Prop} {f : Operand} {fargs : Array Operand} {fty : Array TypeId} {K : FuncId} {caps : List AV} {gl' : List (Nat × AV)} {args' : List AV} {io gv : List (List AV)} {R : Out → Prop}
    (ho : o.op = .call ⟨.value f, fargs, fty⟩) (hgd : Wanted ops σ o) (hd : dstOk σ o.dst = true) (hf : σ.ev f = .clo K caps) (hen : Enters P K) (hspec : SpecV (Calls P K) gl' args' io gv R)
    (ios gvs lb : List Nat) (hlen : ios.length = io.length) (hlenv : gvs.length = gv.length) (hnd : (ios ++ gvs).Nodup) (hne : ∀ cs ∈ io, cs ≠ [])
    (hargs : (evs σ fargs.toList ++ caps).map (lendA (lentBx lb σ)) = AVs.map (ioMap σ.nx (ios ++ gvs)) args')
    (hio : ∀ (j k : Nat) (cs : List AV), (ios ++ gvs)[j]? = some k → (io ++ gv)[j]? = some cs → blook k σ.bx = some (AVs.map (ioMap σ.nx (ios ++ gvs)) cs))
    (hlb : ∀ k ∈ lb, (blook k σ.bx).isSome ∧ k ∉ ios ++ gvs)
    (hgl : ∀ p ∈ gl', alook p.1 σ.gl = p.2.map (ioMap σ.nx (ios ++ gvs)))
    (hret : ∀ x io' nb, R (.ret x io' nb) → io'.length = io.length → (lb.isEmpty || keptAll x io' nb) = true ∧ nb.length ≤ 8 ∧ AL P X w0 E0 ops l (σ.behindG σ.nx (σ.nx + 8) (tput o.dst (x.map (gMap σ.nx ios)) σ.tm) ios io' nb gvs) Q) :
    AL P X w0 E0 ops (o :: l) σ Q := by
  intro i hi E a w hg hs
  obtain ⟨hoi, hl⟩ := drop_cons hi
  have ho' : ops[i]? = some o := by simpa using hoi
  simp only [List.length_cons, List.range', wpOpsIn, ho']
  have hw : Region.wanted o (yielded ops a.tmps) = true := by
    rcases hgd with hgd | ⟨j, t, want, hgd, hj, hb⟩
    · simp [Region.wanted, hgd]
    · have hy := yielded_of hs hj hb
      simp [Region.wanted, hgd, hy]
  rw [if_pos hw]
  obtain ⟨cvs, hcm, hrun⟩ := run_enter (P := P) hs ho hf hen
  obtain ⟨post, hcall, hpost⟩ := call_coreV hg hs (b := σ.nx) (N := σ.nx + 8) (fun k hk _ => hs.fr k hk) (by omega) (by omega) (TL := fun _ => False) (fun _ h => h.elim) (Ms.stays (stays_addT w E _) _ _ hcm) hspec ios gvs lb hlen hlenv hnd hne hargs hio hlb hgl
    (t := lb.isEmpty) (fun h => ⟨by simpa using h, fun _ h => h⟩)
  refine oper_fr (by rw [ho]; intro c; simp) ?_
  rw [hrun, Oper.upon_enter]
  refine Calls.mono hcall ?_
  intro e w' he
  obtain ⟨_, x, io', nb, hR, v, rfl, hle, hk⟩ := hpost e w' he
  obtain ⟨h1, h2, h3⟩ := hret x io' nb hR hle
  obtain ⟨E2, _, _, hg2, hs2⟩ := hk h1 h2 o.dst hd
  exact h3 (i + 1) hl _ _ w' hg2 hs2

end
end Go.Proofs.YtgbpgplkhifgiaaDoor

/- Rules in the form in which a walk uses them. No condition. -/
set_option linter.unusedVariables false
set_option linter.unusedSimpArgs false
namespace Go.Proofs.YtgbpgplkhifgiaaDoor
open Go Go.RowKit

/-- A region's operations as far as the state decides them; 'done' behind the last, 'stop' ahead of the first that it does not. -/
def runR (T : TypeId → Option TI) (eqt : List TypeId) (ops : Array Oper) (done : St → Prop) (stop : List Oper → St → Prop) : List Oper → St → Prop
  | [], σ => done σ
  | o :: l, σ => match ostep T eqt ops σ o with
    | some σ' => runR T eqt ops done stop l σ'
    | none => stop (o :: l) σ

section
variable {P : Program} {X : Nat → Prop} {w0 : World} {E0 : Env} {T : TypeId → Option TI} {eqt : List TypeId}

theorem AL_runR (hT : Tab P T eqt) {ops : Array Oper} {Q : Exit → St → Prop} : ∀ (l : List Oper) (σ : St), (∀ D K, (∀ σ', Q .normal σ' → D σ') → (∀ l σ', AL P X w0 E0 ops l σ' Q → K l σ') → runR T eqt ops D K l σ) → AL P X w0 E0 ops l σ Q := by
  intro l σ h
  refine AL_run hT l σ ?_
  have := h (fun σ' => AL P X w0 E0 ops [] σ' Q) (fun l σ' => AL P X w0 E0 ops l σ' Q) (fun σ' h => AL_nil h) (fun _ _ h => h)
  clear h
  revert this
  induction l generalizing σ with
  | nil => exact fun h => h
  | cons o l ih =>
    intro h
    simp only [runR] at h
    simp only [runL]
    cases hs : ostep T eqt ops σ o with
    | some σ' => rw [hs] at h; exact ih σ' h
    | none => rw [hs] at h; exact h

/-- A region and what follows it. -/
theorem AW_reg (hT : Tab P T eqt) {id : Nat} {ops : Array Oper} {y : Code} {σ : St} {Q : Exit → St → Prop}
    (h : ∀ D K, (∀ σ', AW P X w0 E0 y σ' Q → D σ') → (∀ l σ', AL P X w0 E0 ops l σ' (seqQ P X w0 E0 y Q) → K l σ') → runR T eqt ops D K ops.toList σ) : AW P X w0 E0 (.seq (.region id ops false) y) σ Q :=
  AW_seq (AW_region (AL_runR hT _ _ h))

/-- A region that ends a piece. -/
theorem AW_regl (hT : Tab P T eqt) {id : Nat} {ops : Array Oper} {σ : St} {Q : Exit → St → Prop}
    (h : ∀ D K, (∀ σ', Q .normal σ' → D σ') → (∀ l σ', AL P X w0 E0 ops l σ' Q → K l σ') → runR T eqt ops D K ops.toList σ) : AW P X w0 E0 (.region id ops false) σ Q :=
  AW_region (AL_runR hT _ _ h)

/-- What follows, behind a name. -/
def kQ (K : St → Prop) (Q : Exit → St → Prop) : Exit → St → Prop
  | .normal, σ => K σ
  | e, σ => Q e σ

theorem AW_seqk {x y : Code} {σ : St} {Q : Exit → St → Prop} (h : ∀ K : St → Prop, (∀ σ', AW P X w0 E0 y σ' Q → K σ') → AW P X w0 E0 x σ (kQ K Q)) : AW P X w0 E0 (.seq x y) σ Q :=
  AW_seq (AW_mono (h (fun σ' => AW P X w0 E0 y σ' Q) (fun _ h => h)) fun e σ' q => by cases e <;> exact q)

theorem spec_of (hT : Tab P T eqt) {gl : List (Nat × AV)} {K : FuncId} {fn : Func} {c : Code} {args : List AV} {io : List (List AV)} {R : Out → Prop} (n : Nat) (rs : List ResultVar)
    (hf : P.funcs[K]? = some fn) (hb : fn.body = some c) (hn : fn.ntmps = n) (hr : fn.results.toList = rs) (hl : args.length ≤ n)
    (h : ∀ (X : Nat → Prop) (w0 : World) (E0 : Env), Low E0 io.length → (∀ g, X g → ∃ k, k < io.length ∧ E0.bl k = some g) → AW P X w0 E0 c { nt := n, nx := io.length, tm := idx 0 args, bx := idx 0 (io.map some), gl := gl, df := [] } (Ret T rs io.length R)) : Spec P gl K args io R := by
  subst hn; subst hr
  exact spec_of_AW hT hf hb hl (fun X w0 E0 _ => h X w0 E0)

/-- The same, where the frame's mode is wanted (a loop over a function). -/
theorem spec_of_fn (hT : Tab P T eqt) {gl : List (Nat × AV)} {K : FuncId} {fn : Func} {c : Code} {args : List AV} {io : List (List AV)} {R : Out → Prop} (n : Nat) (rs : List ResultVar)
    (hf : P.funcs[K]? = some fn) (hb : fn.body = some c) (hn : fn.ntmps = n) (hr : fn.results.toList = rs) (hl : args.length ≤ n)
    (h : ∀ (X : Nat → Prop) (w0 : World) (E0 : Env), E0.ro = .fn → Low E0 io.length → (∀ g, X g → ∃ k, k < io.length ∧ E0.bl k = some g) → AW P X w0 E0 c { nt := n, nx := io.length, tm := idx 0 args, bx := idx 0 (io.map some), gl := gl, df := [] } (Ret T rs io.length R)) : Spec P gl K args io R := by
  subst hn; subst hr
  exact spec_of_AW hT hf hb hl h

def RetX (T : TypeId → Option TI) (rs : List ResultVar) (m : Nat) (R : Out → Prop) : Exit → St → Prop
  | .normal, σ => RetV T rs m R σ
  | .ret, σ => RetV T rs m R σ
  | _, _ => False

/-- The same, of a function to which boxes are given away. -/
theorem spec_ofV (hT : Tab P T eqt) {gl : List (Nat × AV)} {K : FuncId} {fn : Func} {c : Code} {args : List AV} {io gv : List (List AV)} {R : Out → Prop} (n : Nat) (rs : List ResultVar)
    (hf : P.funcs[K]? = some fn) (hb : fn.body = some c) (hn : fn.ntmps = n) (hr : fn.results.toList = rs) (hl : args.length ≤ n)
    (h : ∀ (X : Nat → Prop) (w0 : World) (E0 : Env), E0.ro = .fn → Low E0 io.length → AW P X w0 E0 c { nt := n, nx := (io ++ gv).length, tm := idx 0 args, bx := idx 0 ((io ++ gv).map some), gl := gl, df := [] } (RetX T rs io.length R)) : SpecV (Calls P K) gl args io gv R := by
  subst hn; subst hr
  refine spec_of_AV hT hf hb hl (fun X w0 E0 h1 h2 => AW_mono (h X w0 E0 h1 h2) fun e σ q => ?_)
  cases e <;> first | exact q | exact q.elim

/-- The return of a value that holds no name. -/
theorem ret_plain {rs : List ResultVar} {m : Nat} {R : Out → Prop} {σ : St} (x : AV) (hm : m = 0) (hd : σ.df = []) (hx : resOf T σ rs = some x) (hmap : x.map (nmap σ.nx []) = x) (hR : R (.ret x [] [])) : RetV T rs m R σ := by
  subst hm
  refine ⟨x, [], [], [], rfl, by rw [hmap]; exact hx, ?_, hR⟩
  refine ⟨rfl, by simp [leftSt], ⟨hd, rfl⟩, by simp [leftSt], by simp [leftSt, idx], by simp, by simp [leftSt, idx], by simp⟩

end
end Go.Proofs.YtgbpgplkhifgiaaDoor

/- A region whose order is drawn: whatever the order, the same state. No condition. -/
set_option linter.unusedVariables false
set_option linter.unusedSimpArgs false
namespace Go.Proofs.YtgbpgplkhifgiaaDoor
open Go Go.RowKit

def preds (o : Oper) : List Nat := o.after.toList.filterMap fun e => if Region.binds .any e then some e.on else none

def onesOf (acc : List (List Nat)) : List Nat → List Nat
  | [] => []
  | p :: l => p :: (acc.getD p [] ++ onesOf acc l)

/-- For each operation those that come before it in every order. -/
def ancGo : List Oper → List (List Nat) → List (List Nat)
  | [], acc => acc
  | o :: l, acc => ancGo l (acc ++ [(onesOf acc (preds o)).eraseDups])

def cmp (ms : List (List Nat)) (a b : Nat) : Bool := (ms.getD b []).contains a

/-- The slots that an operation writes or looks at. -/
def onames (ops : Array Oper) (o : Oper) : List Tmp := o.dst.toList ++ o.looksAt ops

def noclash (ops : Array Oper) (p o : Oper) : Bool :=
  (match p.dst with | some d => !(onames ops o).contains d | none => true) && (match o.dst with | some d => !(onames ops p).contains d | none => true)

def statOk (ops : Array Oper) (ms : List (List Nat)) : Bool :=
  ops.toList.zipIdx.all fun (o, b) => (preds o).all (· < b) && ops.toList.zipIdx.all fun (p, a) => !(decide (a < b)) || cmp ms a b || noclash ops p o

abbrev Foot := List Nat × List Nat

def disj : List Nat → List Nat → Bool
  | [], _ => true
  | k :: l, m => !m.contains k && disj l m

def apart (g f : Foot) : Bool := disj g.1 (f.1 ++ f.2) && disj f.1 g.2

def fine (ms : List (List Nat)) (i : Nat) (f : Foot) : List (Nat × Foot) → Bool
  | [] => true
  | (j, g) :: l => (apart g f || cmp ms j i) && fine ms i f l

def addFoot (i : Nat) (f : Foot) (acc : List (Nat × Foot)) : List (Nat × Foot) := if f.1.isEmpty && f.2.isEmpty then acc else (i, f) :: acc

def AV.tops : List AV → List Nat
  | [] => []
  | .ptr k _ :: l => k :: AV.tops l
  | .sl k _ _ _ _ :: l => k :: AV.tops l
  | _ :: l => AV.tops l

structure Tk where
  e : Eff
  rd : List Nat

def Tk.foot (t : Tk) : Foot := (t.e.bxs.map (·.1), t.rd)

/-- The state with the effects of the operations that are listed. -/
def part (N : Nat) (ops : Array Oper) (L : Nat → Bool) : Nat → List Tk → St → St
  | _, [], σ => σ
  | i, t :: ts, σ => part N ops L (i + 1) ts (if L i = true then σ.app N (gslot ops i) t.e else σ)

section
variable (P : Program) (X : Nat → Prop) (w0 : World) (E0 : Env)

/-- Operation i comes to t in every state that is like σ where it looks. -/
def TaskOk (ops : Array Oper) (n0 N : Nat) (i : Nat) (o : Oper) (σ : St) (t : Tk) : Prop :=
  ∀ (σ' : St), σ'.nt = σ.nt → σ'.nx = N → σ'.gl = σ.gl → σ'.df = σ.df → (∀ q ∈ onames ops o, alook q σ'.tm = alook q σ.tm) → (∀ k ∈ t.rd, blook k σ'.bx = blook k σ.bx) →
  ∀ E a w (Q : Exit → Act → World → Prop) (K : Act → World → Prop), Grow w0 E0 E → Sim X w0 E σ' a w → (∀ k, n0 + 8 * i ≤ k → k < n0 + 8 * i + 8 → E.bl k = none ∧ ¬ E.ph k) →
    (∀ E' a' w', Near (n0 + 8 * i) E E' → Grow w0 E0 E' → Sim X w0 E' (σ'.app N o.dst t.e) a' w' → K a' w') → wpOpIn (FrO E0.ro) 0 P ops Q i K a w

def Chain (ops : Array Oper) (ms : List (List Nat)) (n0 N : Nat) : Nat → List (Nat × Foot) → St → List Tk → St → Prop
  | i, _, σ, [], σf => i = ops.size ∧ σf = σ
  | i, acc, σ, t :: ts, σf => (∃ o, ops[i]? = some o ∧ TaskOk P X w0 E0 ops n0 N i o σ t) ∧ fine ms i t.foot acc = true ∧ Chain ops ms n0 N (i + 1) (addFoot i t.foot acc) (σ.app N (gslot ops i) t.e) ts σf

/-- From operation i on, in the order of the text. -/
def DR (ops : Array Oper) (ms : List (List Nat)) (n0 N : Nat) (Q : St → Prop) (i : Nat) (acc : List (Nat × Foot)) (σ : St) : Prop := ∃ ts σf, Chain P X w0 E0 ops ms n0 N i acc σ ts σf ∧ Q σf

variable {P X w0 E0}

theorem disj_spec {l m : List Nat} (h : disj l m = true) : ∀ k ∈ l, k ∉ m := by
  induction l with
  | nil => simp
  | cons x l ih =>
    simp [disj] at h
    intro k hk
    rcases List.mem_cons.1 hk with rfl | hk
    · simpa using h.1
    · exact ih h.2 k hk

theorem apart_spec {g f : Foot} (h : apart g f = true) : (∀ k ∈ g.1, k ∉ f.1 ∧ k ∉ f.2) ∧ (∀ k ∈ f.1, k ∉ g.2) := by
  simp [apart] at h
  refine ⟨fun k hk => ?_, fun k hk => disj_spec h.2 k hk⟩
  have := disj_spec h.1 k hk
  simpa using this

theorem apart_empty {g f : Foot} (h : (g.1.isEmpty && g.2.isEmpty) = true) : apart g f = true := by
  simp at h
  obtain ⟨h1, h2⟩ := h
  have : ∀ l : List Nat, disj l [] = true := by
    intro l; induction l with
    | nil => rfl
    | cons x l ih => simp [disj, ih]
  simp [apart, h1, h2, disj, this]

theorem part_none (N : Nat) (ops : Array Oper) (L : Nat → Bool) : ∀ (ts : List Tk) (i : Nat) (σ : St), (∀ j, i ≤ j → j < i + ts.length → L j = false) → part N ops L i ts σ = σ
  | [], _, _, _ => rfl
  | t :: ts, i, σ, h => by
    simp only [part]
    rw [h i (Nat.le_refl _) (by simp), if_neg (by simp)]
    exact part_none N ops L ts (i + 1) σ (fun j h1 h2 => h j (by omega) (by simp at h2 ⊢; omega))

theorem chain_len {ops : Array Oper} {ms : List (List Nat)} {n0 N : Nat} : ∀ (ts : List Tk) (i : Nat) (acc : List (Nat × Foot)) (σ σf : St), Chain P X w0 E0 ops ms n0 N i acc σ ts σf → i + ts.length = ops.size
  | [], i, _, _, _, h => by simpa using h.1
  | t :: ts, i, acc, σ, σf, h => by
    have := chain_len ts (i + 1) _ _ _ h.2.2
    simp; omega

theorem chain_last {ops : Array Oper} {ms : List (List Nat)} {n0 N : Nat} (L : Nat → Bool) : ∀ (ts : List Tk) (i : Nat) (acc : List (Nat × Foot)) (σ σf : St), Chain P X w0 E0 ops ms n0 N i acc σ ts σf → (∀ j, i ≤ j → j < ops.size → L j = true) → σf = part N ops L i ts σ
  | [], i, _, _, _, h, _ => h.2
  | t :: ts, i, acc, σ, σf, h, hL => by
    have hl := chain_len _ _ _ _ _ h
    simp only [part]
    rw [hL i (Nat.le_refl _) (by simp at hl; omega), if_pos rfl]
    exact chain_last L ts (i + 1) _ _ _ h.2.2 (fun j h1 h2 => hL j (by omega) h2)

theorem chain_task {ops : Array Oper} {ms : List (List Nat)} {n0 N : Nat} : ∀ (ts : List Tk) (i : Nat) (acc : List (Nat × Foot)) (σ σf : St), Chain P X w0 E0 ops ms n0 N i acc σ ts σf →
    ∀ (m : Nat) (t : Tk), ts[m]? = some t → ∃ o, ops[i + m]? = some o ∧ TaskOk P X w0 E0 ops n0 N (i + m) o (part N ops (fun j => decide (j < i + m)) i ts σ) t
  | [], i, _, _, _, _, m, t, hm => by simp at hm
  | t :: ts, i, acc, σ, σf, h, m, t', hm => by
    cases m with
    | zero =>
      simp at hm
      subst hm
      rw [part_none N ops _ (t :: ts) i σ (fun j h1 _ => by simp; omega)]
      exact h.1
    | succ m =>
      simp at hm
      obtain ⟨o, h1, h2⟩ := chain_task ts (i + 1) _ _ _ h.2.2 m t' hm
      refine ⟨o, by rw [show i + (m + 1) = i + 1 + m by omega]; exact h1, ?_⟩
      rw [show i + (m + 1) = i + 1 + m by omega]
      simp only [part]
      rw [if_pos (by simp; omega)]
      exact h2

theorem fine_mem {ms : List (List Nat)} {i : Nat} {f : Foot} : ∀ {acc : List (Nat × Foot)}, fine ms i f acc = true → ∀ j g, (j, g) ∈ acc → apart g f = true ∨ cmp ms j i = true
  | [], _, j, g, hm => by simp at hm
  | (j', g') :: l, h, j, g, hm => by
    simp [fine] at h
    rcases List.mem_cons.1 hm with h1 | h1
    · simp at h1; obtain ⟨rfl, rfl⟩ := h1; exact h.1
    · exact fine_mem h.2 j g h1

theorem chain_acc {ops : Array Oper} {ms : List (List Nat)} {n0 N : Nat} : ∀ (ts : List Tk) (i : Nat) (acc : List (Nat × Foot)) (σ σf : St), Chain P X w0 E0 ops ms n0 N i acc σ ts σf →
    ∀ j g, (j, g) ∈ acc → ∀ (m : Nat) (t : Tk), ts[m]? = some t → apart g t.foot = true ∨ cmp ms j (i + m) = true
  | [], i, _, _, _, _, _, _, _, m, t, hm => by simp at hm
  | t :: ts, i, acc, σ, σf, h, j, g, hj, m, t', hm => by
    cases m with
    | zero => simp at hm; subst hm; exact fine_mem h.2.1 j g hj
    | succ m =>
      simp at hm
      rw [show i + (m + 1) = i + 1 + m by omega]
      refine chain_acc ts (i + 1) _ _ _ h.2.2 j g ?_ m t' hm
      unfold addFoot
      split
      · exact hj
      · simp [hj]

theorem chain_pairs {ops : Array Oper} {ms : List (List Nat)} {n0 N : Nat} : ∀ (ts : List Tk) (i : Nat) (acc : List (Nat × Foot)) (σ σf : St), Chain P X w0 E0 ops ms n0 N i acc σ ts σf →
    ∀ (m m' : Nat) (t t' : Tk), m < m' → ts[m]? = some t → ts[m']? = some t' → apart t.foot t'.foot = true ∨ cmp ms (i + m) (i + m') = true
  | [], i, _, _, _, _, m, _, t, _, _, hm, _ => by simp at hm
  | t0 :: ts, i, acc, σ, σf, h, m, m', t, t', hlt, hm, hm' => by
    cases m' with
    | zero => omega
    | succ m' =>
      simp at hm'
      rw [show i + (m' + 1) = i + 1 + m' by omega]
      cases m with
      | zero =>
        simp at hm
        subst hm
        by_cases he : (t0.foot.1.isEmpty && t0.foot.2.isEmpty) = true
        · exact .inl (apart_empty he)
        · exact chain_acc ts (i + 1) _ _ _ h.2.2 i t0.foot (by unfold addFoot; rw [if_neg he]; simp) m' t' hm'
      | succ m =>
        simp at hm
        rw [show i + (m + 1) = i + 1 + m by omega]
        exact chain_pairs ts (i + 1) _ _ _ h.2.2 m m' t t' (by omega) hm hm'

/-! ### Look-ups in a part -/

theorem alook_tput {d : Option Tmp} {x : AV} {l : List (Nat × AV)} {q : Nat} : alook q (tput d x l) = if d = some q then x else alook q l := by
  cases d with
  | none => simp [tput]
  | some s =>
    simp only [tput, alook, Option.some.injEq]
    by_cases h : q = s
    · subst h; simp
    · rw [if_neg h, if_neg (fun h' => h h'.symm)]

theorem blook_app_in {k : Nat} : ∀ {l m m' : List (Nat × Option (List AV))}, k ∈ l.map (·.1) → blook k (l ++ m) = blook k (l ++ m')
  | [], _, _, h => by simp at h
  | (s, c) :: l, m, m', h => by
    simp only [List.cons_append, blook]
    split
    · rfl
    · rename_i hne
      simp at h
      exact blook_app_in (by simpa using h.resolve_left hne)

theorem blook_app_out {k : Nat} : ∀ {l m : List (Nat × Option (List AV))}, k ∉ l.map (·.1) → blook k (l ++ m) = blook k m
  | [], _, _ => rfl
  | (s, c) :: l, m, h => by
    simp only [List.cons_append, blook]
    simp at h
    rw [if_neg h.1]
    exact blook_app_out (by simpa using h.2)

theorem part_tm (N : Nat) (ops : Array Oper) (L L' : Nat → Bool) (q : Nat) : ∀ (ts : List Tk) (i : Nat) (σ σ' : St), alook q σ.tm = alook q σ'.tm →
    (∀ m, m < ts.length → gslot ops (i + m) = some q → L (i + m) = L' (i + m)) → alook q (part N ops L i ts σ).tm = alook q (part N ops L' i ts σ').tm
  | [], _, _, _, h, _ => h
  | t :: ts, i, σ, σ', h, hL => by
    simp only [part]
    refine part_tm N ops L L' q ts (i + 1) _ _ ?_ (fun m hm => by have := hL (m + 1) (by simp; omega); rwa [show i + (m + 1) = i + 1 + m by omega] at this)
    by_cases hd : gslot ops i = some q
    · have := hL 0 (by simp) hd
      simp only [Nat.add_zero] at this
      rw [this]
      split
      · simp only [St.app, alook_tput, hd, if_true]
      · exact h
    · have e : ∀ (b : Bool) (s : St), alook q (if b = true then s.app N (gslot ops i) t.e else s).tm = alook q s.tm := by
        intro b s
        cases b
        · simp
        · simp only [if_true, St.app, alook_tput]; rw [if_neg hd]
      rw [e, e, h]

theorem part_bx (N : Nat) (ops : Array Oper) (L L' : Nat → Bool) (k : Nat) : ∀ (ts : List Tk) (i : Nat) (σ σ' : St), blook k σ.bx = blook k σ'.bx →
    (∀ m t, ts[m]? = some t → k ∈ t.foot.1 → L (i + m) = L' (i + m)) → blook k (part N ops L i ts σ).bx = blook k (part N ops L' i ts σ').bx
  | [], _, _, _, h, _ => h
  | t :: ts, i, σ, σ', h, hL => by
    simp only [part]
    refine part_bx N ops L L' k ts (i + 1) _ _ ?_ (fun m t' hm => by have := hL (m + 1) t' (by simpa using hm); rwa [show i + (m + 1) = i + 1 + m by omega] at this)
    by_cases hd : k ∈ t.foot.1
    · have := hL 0 t (by simp) hd
      simp only [Nat.add_zero] at this
      rw [this]
      split
      · exact blook_app_in hd
      · exact h
    · have e : ∀ (b : Bool) (s : St), blook k (if b = true then s.app N (gslot ops i) t.e else s).bx = blook k s.bx := by
        intro b s
        cases b
        · simp
        · simp only [if_true]; exact blook_app_out hd
      rw [e, e, h]

theorem part_tm_last (N : Nat) (ops : Array Oper) (L : Nat → Bool) (q : Nat) : ∀ (ts : List Tk) (i m : Nat) (t : Tk) (σ : St), ts[m]? = some t → L (i + m) = true → gslot ops (i + m) = some q →
    (∀ m', m < m' → m' < ts.length → gslot ops (i + m') = some q → L (i + m') = false) → alook q (part N ops L i ts σ).tm = t.e.dst
  | [], _, _, _, _, h, _, _, _ => by simp at h
  | t :: ts, i, 0, t', σ, h, hL, hd, hn => by
    simp at h
    subst h
    simp only [Nat.add_zero] at hL hd
    simp only [part]
    rw [if_pos hL]
    rw [part_tm N ops L (fun _ => false) q ts (i + 1) _ _ rfl (fun m hm hg => by
      have := hn (m + 1) (by omega) (by simp; omega) (by rw [show i + (m + 1) = i + 1 + m by omega]; exact hg)
      rwa [show i + (m + 1) = i + 1 + m by omega] at this), part_none N ops _ ts (i + 1) _ (fun _ _ _ => rfl)]
    simp only [St.app, alook_tput, hd, if_true]
  | t :: ts, i, m + 1, t', σ, h, hL, hd, hn => by
    simp only [part]
    rw [show i + (m + 1) = i + 1 + m by omega] at hL hd
    refine part_tm_last N ops L q ts (i + 1) m t' _ (by simpa using h) hL hd (fun m' h1 h2 h3 => ?_)
    have := hn (m' + 1) (by omega) (by simp; omega) (by rw [show i + (m' + 1) = i + 1 + m' by omega]; exact h3)
    rwa [show i + (m' + 1) = i + 1 + m' by omega] at this

theorem part_bx_last (N : Nat) (ops : Array Oper) (L : Nat → Bool) (k : Nat) : ∀ (ts : List Tk) (i m : Nat) (t : Tk) (σ : St), ts[m]? = some t → L (i + m) = true → k ∈ t.foot.1 →
    (∀ m' t', m < m' → ts[m']? = some t' → k ∈ t'.foot.1 → L (i + m') = false) → ∀ r, blook k (part N ops L i ts σ).bx = blook k (t.e.bxs ++ r)
  | [], _, _, _, _, h, _, _, _, _ => by simp at h
  | t :: ts, i, 0, t', σ, h, hL, hd, hn, r => by
    simp at h
    subst h
    simp only [Nat.add_zero] at hL
    simp only [part]
    rw [if_pos hL]
    rw [part_bx N ops L (fun _ => false) k ts (i + 1) _ _ rfl (fun m t' hm hg => by
      have := hn (m + 1) t' (by omega) (by simpa using hm) hg
      rwa [show i + (m + 1) = i + 1 + m by omega] at this), part_none N ops _ ts (i + 1) _ (fun _ _ _ => rfl)]
    exact blook_app_in hd
  | t :: ts, i, m + 1, t', σ, h, hL, hd, hn, r => by
    simp only [part]
    rw [show i + (m + 1) = i + 1 + m by omega] at hL
    refine part_bx_last N ops L k ts (i + 1) m t' _ (by simpa using h) hL hd (fun m' t'' h1 h2 h3 => ?_) r
    have := hn (m' + 1) t'' (by omega) (by simpa using h2) h3
    rwa [show i + (m' + 1) = i + 1 + m' by omega] at this

theorem part_rest (N : Nat) (ops : Array Oper) (L : Nat → Bool) : ∀ (ts : List Tk) (i : Nat) (σ : St), σ.nx = N → (part N ops L i ts σ).nx = N ∧ (part N ops L i ts σ).nt = σ.nt ∧ (part N ops L i ts σ).gl = σ.gl ∧ (part N ops L i ts σ).df = σ.df
  | [], _, _, h => ⟨h, rfl, rfl, rfl⟩
  | t :: ts, i, σ, h => by
    simp only [part]
    split
    · exact part_rest N ops L ts (i + 1) (σ.app N (gslot ops i) t.e) rfl
    · exact part_rest N ops L ts (i + 1) σ h

/-! ### What comes before -/

def Closed (ops : Array Oper) (L : Nat → Bool) : Prop := ∀ (j : Nat) (o : Oper), ops[j]? = some o → L j = true → ∀ p ∈ preds o, L p = true

theorem onesOf_mem {acc : List (List Nat)} {a : Nat} : ∀ {l : List Nat}, a ∈ onesOf acc l → ∃ p ∈ l, a = p ∨ a ∈ acc.getD p []
  | [], h => by simp [onesOf] at h
  | p :: l, h => by
    simp only [onesOf, List.mem_cons, List.mem_append] at h
    rcases h with rfl | h | h
    · exact ⟨a, by simp, .inl rfl⟩
    · exact ⟨p, by simp, .inr h⟩
    · obtain ⟨p', h1, h2⟩ := onesOf_mem h
      exact ⟨p', by simp [h1], h2⟩

theorem ancGo_sound {ops : Array Oper} {L : Nat → Bool} (hc : Closed ops L) : ∀ (l : List Oper) (acc : List (List Nat)), l = ops.toList.drop acc.length → acc.length ≤ ops.size →
    (∀ b a, a ∈ acc.getD b [] → ∀ o, ops[b]? = some o → (∀ p ∈ preds o, L p = true) → L a = true) →
    ∀ b a, a ∈ (ancGo l acc).getD b [] → ∀ o, ops[b]? = some o → (∀ p ∈ preds o, L p = true) → L a = true
  | [], acc, _, _, h => h
  | o :: l, acc, hl, hle, h => by
    simp only [ancGo]
    obtain ⟨h1, h2⟩ := drop_cons hl
    have hlt : acc.length < ops.size := by
      rcases Nat.lt_or_ge acc.length ops.size with h3 | h3
      · exact h3
      · rw [List.drop_eq_nil_of_le (by simpa using h3)] at hl; simp at hl
    refine ancGo_sound hc l _ (by simpa using h2) (by simp; omega) ?_
    intro b a ha o' ho' hp
    rcases Nat.lt_trichotomy b acc.length with h3 | h3 | h3
    · refine h b a ?_ o' ho' hp
      rw [List.getD_eq_getElem?_getD, List.getElem?_append_left h3] at ha
      rwa [List.getD_eq_getElem?_getD]
    · subst h3
      have hoo : o' = o := by
        have : ops[acc.length]? = some o := by simpa using h1
        rw [this] at ho'; simpa using ho'.symm
      subst hoo
      rw [List.getD_eq_getElem?_getD, List.getElem?_append_right (Nat.le_refl _)] at ha
      simp at ha
      obtain ⟨p, hp1, hp2⟩ := onesOf_mem ha
      rcases hp2 with rfl | hp2
      · exact hp a hp1
      · have hpl : p < acc.length := by
          rcases Nat.lt_or_ge p acc.length with h4 | h4
          · exact h4
          · rw [List.getD_eq_getElem?_getD, List.getElem?_eq_none h4] at hp2; simp at hp2
        have hop : ops[p]? = some ops[p] := Array.getElem?_eq_getElem (by omega)
        exact h p a hp2 ops[p] hop (hc p _ hop (hp p hp1))
    · rw [List.getD_eq_getElem?_getD, List.getElem?_eq_none (by simp; omega)] at ha
      simp at ha

theorem anc_sound {ops : Array Oper} {ms : List (List Nat)} (hms : ancGo ops.toList [] = ms) {L : Nat → Bool} (hc : Closed ops L) {a b : Nat} (h : cmp ms a b = true) {o : Oper} (ho : ops[b]? = some o) (hp : ∀ p ∈ preds o, L p = true) : L a = true := by
  subst hms
  refine ancGo_sound hc ops.toList [] (by simp) (by simp) (fun b a ha => by simp at ha) b a ?_ o ho hp
  simpa [cmp] using h

theorem statOk_spec {ops : Array Oper} {ms : List (List Nat)} (h : statOk ops ms = true) :
    (∀ (b : Nat) (o : Oper), ops[b]? = some o → ∀ p ∈ preds o, p < b) ∧ (∀ (a b : Nat) (p o : Oper), a < b → ops[a]? = some p → ops[b]? = some o → cmp ms a b = true ∨ noclash ops p o = true) := by
  unfold statOk at h
  rw [List.all_eq_true] at h
  have at' : ∀ (b : Nat) (o : Oper), ops[b]? = some o → (o, b) ∈ ops.toList.zipIdx := by
    intro b o ho
    rw [List.mem_zipIdx_iff_getElem?]
    simpa using ho
  constructor
  · intro b o ho p hp
    have := h _ (at' b o ho)
    simp only [Bool.and_eq_true, List.all_eq_true] at this
    simpa using this.1 p hp
  · intro a b p o hlt hp ho
    have := h _ (at' b o ho)
    simp only [Bool.and_eq_true, List.all_eq_true] at this
    have h2 := this.2 _ (at' a p hp)
    simp only [Bool.or_eq_true] at h2
    rcases h2 with (h2 | h2) | h2
    · simp at h2; omega
    · exact .inl h2
    · exact .inr h2

theorem noclash_spec {ops : Array Oper} {p o : Oper} (h : noclash ops p o = true) : (∀ d, p.dst = some d → d ∉ onames ops o) ∧ (∀ d, o.dst = some d → d ∉ onames ops p) := by
  unfold noclash at h
  simp only [Bool.and_eq_true] at h
  constructor
  · intro d hd
    have := h.1
    rw [hd] at this
    simpa using this
  · intro d hd
    have := h.2
    rw [hd] at this
    simpa using this

end
end Go.Proofs.YtgbpgplkhifgiaaDoor

/- The rule of a region whose order is drawn. No condition. -/
set_option linter.unusedVariables false
set_option linter.unusedSimpArgs false
namespace Go.Proofs.YtgbpgplkhifgiaaDoor
open Go Go.RowKit

section
variable {P : Program} {X : Nat → Prop} {w0 : World} {E0 : Env} {T : TypeId → Option TI} {eqt : List TypeId}

theorem Sim.same {E : Env} {σ σ' : St} {a : Act} {w : World} (h : Sim X w0 E σ a w) (h1 : σ'.nt = σ.nt) (h2 : σ.nx ≤ σ'.nx) (h3 : σ'.gl = σ.gl) (h4 : σ'.df = σ.df) (h5 : ∀ q, alook q σ'.tm = alook q σ.tm) (h6 : ∀ k, blook k σ'.bx = blook k σ.bx) : Sim X w0 E σ' a w :=
  ⟨h.nt.trans h1.symm, fun t => by rw [h5]; exact h.tm t, fun g => by rw [h3]; exact h.gl g, fun k cs hk => h.bx k cs (by rw [← h6]; exact hk), fun k g hk => h.own k g (by rw [← h6]; exact hk),
   fun k k' g hk hk' => h.inj k k' g (by rw [← h6]; exact hk) (by rw [← h6]; exact hk'), h.lim, h.keep, h.rw, fun k hk => h.fr k (Nat.le_trans h2 hk), h.px, by rw [h4]; exact h.df⟩

theorem Sim.drawn {E : Env} {σ : St} {a : Act} {w : World} (h : Sim X w0 E σ a w) (n : Nat) : Sim X w0 E σ a { w with drawn := n } := by
  have st : Stays w E { w with drawn := n } E := ⟨fun _ _ h => h, fun _ h => h, fun _ h => h, fun _ h => h, fun _ _ h => h, fun _ _ => rfl⟩
  refine ⟨h.nt, fun t => M.stays st _ _ (h.tm t), fun g => M.stays st _ _ (h.gl g), fun k cs hk => (h.bx k cs hk).stays_other st (fun _ _ => rfl), h.own, h.inj, h.lim, ⟨h.keep.os, h.keep.tape, h.keep.output, h.keep.size, h.keep.block⟩, h.rw, h.fr, h.px, Md.stays st ⟨fun _ h => h, rfl⟩ h.df⟩

theorem gslot_some {ops : Array Oper} {m : Nat} {q : Tmp} (h : gslot ops m = some q) : ∃ p, ops[m]? = some p ∧ p.dst = some q := by
  unfold gslot at h
  simpa [Option.bind_eq_some_iff] using h

theorem mem_onames {ops : Array Oper} {p : Oper} {q : Tmp} (h : p.dst = some q) : q ∈ onames ops p := by simp [onames, h]

/-- One operation more. -/
theorem part_step {ops : Array Oper} {ms : List (List Nat)} (hms : ancGo ops.toList [] = ms) (hst : statOk ops ms = true) {n0 N : Nat} {σ σf : St} (hσ : σ.nx = N) {ts : List Tk}
    (hch : Chain P X w0 E0 ops ms n0 N 0 [] σ ts σf) {L : Nat → Bool} (hcl : Closed ops L) {i : Nat} {o : Oper} (ho : ops[i]? = some o) (hLi : L i = false) (hp : ∀ p ∈ preds o, L p = true)
    {E : Env} {a : Act} {w : World} (hg : Grow w0 E0 E) (hs : Sim X w0 E (part N ops L 0 ts σ) a w) (hfr : ∀ j, j < ops.size → L j = false → ∀ k, n0 + 8 * j ≤ k → k < n0 + 8 * j + 8 → E.bl k = none ∧ ¬ E.ph k)
    (Q : Exit → Act → World → Prop) (K : Act → World → Prop)
    (hK : ∀ E' a' w', Grow w0 E0 E' → Sim X w0 E' (part N ops (fun j => decide (j = i) || L j) 0 ts σ) a' w' → (∀ j, j < ops.size → (decide (j = i) || L j) = false → ∀ k, n0 + 8 * j ≤ k → k < n0 + 8 * j + 8 → E'.bl k = none ∧ ¬ E'.ph k) → K a' w') :
    wpOpIn (FrO E0.ro) 0 P ops Q i K a w := by
  have hlen : ts.length = ops.size := by simpa using chain_len _ _ _ _ _ hch
  have hi : i < ops.size := by
    rcases Nat.lt_or_ge i ops.size with h1 | h1
    · exact h1
    · simp [Array.getElem?_eq_none h1] at ho
  have hti : ts[i]? = some ts[i] := List.getElem?_eq_getElem (by omega)
  obtain ⟨o', ho', htask⟩ := chain_task _ _ _ _ _ hch i _ hti
  simp only [Nat.zero_add] at ho' htask
  obtain rfl : o = o' := by rw [ho] at ho'; simpa using ho'
  obtain ⟨hs1, hs2⟩ := statOk_spec hst
  -- listed or not, by the order
  have before : ∀ m, cmp ms m i = true → L m = true := fun m hm => anc_sound hms hcl hm ho hp
  have behind : ∀ m p, ops[m]? = some p → cmp ms i m = true → L m = false := by
    intro m p hpm hm
    cases hLm : L m with
    | false => rfl
    | true =>
      have := anc_sound hms hcl hm hpm (hcl m p hpm hLm)
      rw [hLi] at this
      simp at this
  have inb : ∀ (m : Nat) (t : Tk), ts[m]? = some t → ∃ p, ops[m]? = some p := by
    intro m t hm
    have : m < ts.length := by
      rcases Nat.lt_or_ge m ts.length with h1 | h1
      · exact h1
      · simp [List.getElem?_eq_none h1] at hm
    exact ⟨ops[m], Array.getElem?_eq_getElem (by omega)⟩
  have slotAgree : ∀ q, q ∈ onames ops o → ∀ m, gslot ops m = some q → L m = decide (m < i) := by
    intro q hq m hm
    obtain ⟨p, hpm, hpd⟩ := gslot_some hm
    rcases Nat.lt_trichotomy m i with h1 | h1 | h1
    · rcases hs2 m i p o h1 hpm ho with h2 | h2
      · rw [before m h2]; simp [h1]
      · exact absurd hq ((noclash_spec h2).1 q hpd)
    · subst h1; simp [hLi]
    · rcases hs2 i m o p h1 ho hpm with h2 | h2
      · rw [behind m p hpm h2]; simp; omega
      · exact absurd hq ((noclash_spec h2).2 q hpd)
  have boxAgree : ∀ k, k ∈ ts[i].rd → ∀ (m : Nat) (t : Tk), ts[m]? = some t → k ∈ t.foot.1 → L m = decide (m < i) := by
    intro k hk m t hm hkt
    obtain ⟨p, hpm⟩ := inb m t hm
    rcases Nat.lt_trichotomy m i with h1 | h1 | h1
    · rcases chain_pairs _ _ _ _ _ hch m i t _ h1 hm hti with h2 | h2
      · exact absurd hk ((apart_spec h2).1 k hkt).2
      · simp only [Nat.zero_add] at h2
        rw [before m h2]; simp [h1]
    · subst h1; simp [hLi]
    · rcases chain_pairs _ _ _ _ _ hch i m _ t h1 hti hm with h2 | h2
      · exact absurd hk ((apart_spec h2).2 k hkt)
      · simp only [Nat.zero_add] at h2
        rw [behind m p hpm h2]; simp; omega
  obtain ⟨r1, r2, r3, r4⟩ := part_rest N ops L ts 0 σ hσ
  obtain ⟨q1, q2, q3, q4⟩ := part_rest N ops (fun j => decide (j < i)) ts 0 σ hσ
  refine htask (part N ops L 0 ts σ) (by rw [r2, q2]) r1 (by rw [r3, q3]) (by rw [r4, q4])
    (fun q hq => part_tm N ops L _ q ts 0 σ σ rfl (fun m _ hm => by simp only [Nat.zero_add] at hm ⊢; exact slotAgree q hq m hm))
    (fun k hk => part_bx N ops L _ k ts 0 σ σ rfl (fun m t hm hkt => by simp only [Nat.zero_add]; exact boxAgree k hk m t hm hkt))
    E a w Q K hg hs (hfr i hi hLi) ?_
  intro E' a' w' hnear hg' hs'
  have hgs : gslot ops i = o.dst := by simp [gslot, ho]
  refine hK E' a' w' hg' (hs'.same ?_ ?_ ?_ ?_ ?_ ?_) ?_
  · rw [(part_rest N ops _ ts 0 σ hσ).2.1]; exact r2.symm
  · rw [(part_rest N ops _ ts 0 σ hσ).1]; exact Nat.le_refl _
  · rw [(part_rest N ops _ ts 0 σ hσ).2.2.1]; exact r3.symm
  · rw [(part_rest N ops _ ts 0 σ hσ).2.2.2]; exact r4.symm
  · intro q
    simp only [St.app, alook_tput]
    by_cases hd : o.dst = some q
    · rw [if_pos hd]
      refine part_tm_last N ops _ q ts 0 i _ σ hti (by simp) (by simp only [Nat.zero_add]; rw [hgs]; exact hd) (fun m h1 h2 h3 => ?_)
      simp only [Nat.zero_add] at h3 ⊢
      obtain ⟨p, hpm, hpd⟩ := gslot_some h3
      have : L m = false := by
        rcases hs2 i m o p h1 ho hpm with h4 | h4
        · exact behind m p hpm h4
        · exact absurd (mem_onames hpd) ((noclash_spec h4).1 q hd)
      simp [this]; omega
    · rw [if_neg hd]
      refine part_tm N ops _ L q ts 0 σ σ rfl (fun m _ hm => ?_)
      simp only [Nat.zero_add] at hm ⊢
      have : m ≠ i := by rintro rfl; rw [hgs] at hm; exact hd hm
      simp [this]
  · intro k
    show _ = blook k (ts[i].e.bxs ++ (part N ops L 0 ts σ).bx)
    by_cases hk : k ∈ ts[i].foot.1
    · refine part_bx_last N ops _ k ts 0 i _ σ hti (by simp) hk (fun m t h1 h2 h3 => ?_) _
      simp only [Nat.zero_add]
      obtain ⟨p, hpm⟩ := inb m t h2
      have : L m = false := by
        rcases chain_pairs _ _ _ _ _ hch i m _ t h1 hti h2 with h4 | h4
        · exact absurd (show k ∈ t.foot.1 from h3) ((apart_spec h4).1 k hk).1
        · simp only [Nat.zero_add] at h4
          exact behind m p hpm h4
      simp [this]; omega
    · rw [blook_app_out hk]
      refine part_bx N ops _ L k ts 0 σ σ rfl (fun m t hm hkt => ?_)
      simp only [Nat.zero_add]
      have : m ≠ i := by
        rintro rfl
        rw [hti] at hm
        simp at hm
        subst hm
        exact hk hkt
      simp [this]
  · intro j hj hL k h1 h2
    simp at hL
    have hn := hnear k (by omega)
    rw [hn.1]
    have := hfr j hj hL.2 k h1 h2
    exact ⟨this.1, fun h3 => this.2 (hn.2.1 h3)⟩

theorem draw_any {ops : Array Oper} {ms : List (List Nat)} (hms : ancGo ops.toList [] = ms) (hst : statOk ops ms = true) {n0 N : Nat} {σ σf : St} (hσ : σ.nx = N) {ts : List Tk}
    (hch : Chain P X w0 E0 ops ms n0 N 0 [] σ ts σf) {Q : Exit → St → Prop} (hq : Q .normal σf) : ∀ (fuel : Nat) (listed : Array Bool) (U : List Nat) (a : Act) (w : World), listed.size = ops.size → U.Nodup → U.length = fuel → (∀ j, j ∈ U ↔ (j < ops.size ∧ listed.getD j false = false)) →
    Closed ops (fun j => listed.getD j false) → (∃ E, Grow w0 E0 E ∧ Sim X w0 E (part N ops (fun j => listed.getD j false) 0 ts σ) a w ∧ ∀ j, j < ops.size → listed.getD j false = false → ∀ k, n0 + 8 * j ≤ k → k < n0 + 8 * j + 8 → E.bl k = none ∧ ¬ E.ph k) →
    wpAnyIn (FrO E0.ro) 0 P .any ops (Conc X w0 E0 Q) fuel listed a w := by
  have hlen : ts.length = ops.size := by simpa using chain_len _ _ _ _ _ hch
  have fin : ∀ (listed : Array Bool) (a : Act) (w : World), (∀ j, j < ops.size → listed.getD j false = true) → (∃ E, Grow w0 E0 E ∧ Sim X w0 E (part N ops (fun j => listed.getD j false) 0 ts σ) a w ∧ ∀ j, j < ops.size → listed.getD j false = false → ∀ k, n0 + 8 * j ≤ k → k < n0 + 8 * j + 8 → E.bl k = none ∧ ¬ E.ph k) → Conc X w0 E0 Q .normal a w := by
    rintro listed a w hall ⟨E, hg, hs, _⟩
    rw [← chain_last (fun j => listed.getD j false) ts 0 [] σ σf hch (fun j _ h => hall j h)] at hs
    exact ⟨E, σf, hq, hg, hs⟩
  intro fuel
  induction fuel with
  | zero =>
    intro listed U a w hsz hnd hU hUm hcl hinv
    have hU0 : U = [] := List.eq_nil_of_length_eq_zero hU
    subst hU0
    have hall : ∀ j, j < ops.size → listed.getD j false = true := by
      intro j hj
      cases h : listed.getD j false with
      | true => rfl
      | false => exact absurd ((hUm j).2 ⟨hj, h⟩) (by simp)
    refine ⟨?_, fin listed a w hall hinv⟩
    unfold Region.ready
    rw [List.filter_eq_nil_iff]
    intro i hi
    have := hall i (by simpa using hi)
    rw [Array.getD_eq_getD_getElem?] at this
    have h2 : listed[i]? = some true := by
      cases h : listed[i]? with
      | none => rw [h] at this; simp at this
      | some b => rw [h] at this; simp at this; subst this; rfl
    simp [h2]
  | succ fuel ih =>
    intro listed U a w hsz hnd hU hUm hcl hinv
    obtain ⟨hs1, hs2⟩ := statOk_spec hst
    have rdy : ∀ i, i ∈ Region.ready .any ops listed ↔ (i < ops.size ∧ listed.getD i false = false ∧ ∀ o, ops[i]? = some o → ∀ p ∈ preds o, listed.getD p false = true) := by
      intro i
      unfold Region.ready
      rw [List.mem_filter]
      constructor
      · rintro ⟨h1, h2⟩
        have hi : i < ops.size := by simpa using h1
        have ho : ops[i]? = some ops[i] := Array.getElem?_eq_getElem hi
        rw [ho] at h2
        simp only [Option.map_some, Option.getD_some, Bool.and_eq_true, Bool.not_eq_true'] at h2
        refine ⟨hi, ?_, fun o ho' p hp => ?_⟩
        · have := h2.1
          rw [Array.getD_eq_getD_getElem?] at this ⊢
          rw [Array.getElem?_eq_getElem (by omega)] at this ⊢
          simpa using this
        · obtain rfl : ops[i] = o := by rw [ho] at ho'; simpa using ho'
          have h3 := h2.2
          rw [Array.all_eq_true_iff_forall_mem] at h3
          unfold preds at hp
          rw [List.mem_filterMap] at hp
          obtain ⟨e, he, hpe⟩ := hp
          have h4 := h3 e (by simpa using he)
          split at hpe
          · rename_i hb
            simp at hpe
            subst hpe
            simpa [hb] using h4
          · simp at hpe
      · rintro ⟨hi, h2, h3⟩
        have ho : ops[i]? = some ops[i] := Array.getElem?_eq_getElem hi
        refine ⟨by simpa using hi, ?_⟩
        rw [ho]
        simp only [Option.map_some, Option.getD_some, Bool.and_eq_true, Bool.not_eq_true']
        refine ⟨?_, ?_⟩
        · rw [Array.getD_eq_getD_getElem?] at h2 ⊢
          rw [Array.getElem?_eq_getElem (by omega)] at h2 ⊢
          simpa using h2
        · rw [Array.all_eq_true_iff_forall_mem]
          intro e he
          cases hb : Region.binds .any e with
          | false => simp
          | true =>
            have := h3 _ ho e.on (by unfold preds; rw [List.mem_filterMap]; exact ⟨e, by simpa using he, by simp [hb]⟩)
            simp [this]
    refine ⟨fun hnil => ?_, fun i hi => ?_⟩
    · -- nothing is ready: all are listed
      refine fin listed a w (fun j => ?_) hinv
      induction j using Nat.strongRecOn with
      | _ j ihj =>
        intro hj
        cases h : listed.getD j false with
        | true => rfl
        | false =>
          have : j ∈ Region.ready .any ops listed := (rdy j).2 ⟨hj, h, fun o ho p hp => by
            have hlt := hs1 j o ho p hp
            exact ihj p hlt (by omega)⟩
          rw [hnil] at this
          simp at this
    · obtain ⟨hi1, hi2, hi3⟩ := (rdy i).1 hi
      have ho : ops[i]? = some ops[i] := Array.getElem?_eq_getElem hi1
      obtain ⟨E, hg, hs, hfr⟩ := hinv
      have hset : ∀ j, (listed.setIfInBounds i true).getD j false = (decide (j = i) || listed.getD j false) := by
        intro j
        rw [Array.getD_eq_getD_getElem?, Array.getD_eq_getD_getElem?]
        by_cases hji : j = i
        · subst hji
          rw [Array.getElem?_setIfInBounds_self_of_lt (by omega)]
          simp
        · rw [Array.getElem?_setIfInBounds_ne (fun h => hji h.symm)]
          simp [hji]
      have hcl' : Closed ops (fun j => (listed.setIfInBounds i true).getD j false) := by
        intro j o ho' hj p hp
        simp only [hset] at hj ⊢
        by_cases hji : j = i
        · subst hji
          simp [hi3 o ho' p hp]
        · simp [hji] at hj
          have := hcl j o ho' (by simpa using hj) p hp
          simp only at this
          simp [this]
      have hfun : (fun j => (listed.setIfInBounds i true).getD j false) = fun j => decide (j = i) || listed.getD j false := funext hset
      refine part_step hms hst hσ hch hcl ho hi2 (hi3 _ ho) hg hs hfr _ _ (fun E' a' w' hg' hs' hfr' => ?_)
      refine ih (listed.setIfInBounds i true) (U.erase i) a' w' (by simpa using hsz) (hnd.erase i) ?_ ?_ hcl' ⟨E', hg', by rw [hfun]; exact hs', fun j hj hL => hfr' j hj (by rw [← hset]; exact hL)⟩
      · rw [List.length_erase_of_mem ((hUm i).2 ⟨hi1, hi2⟩)]
        omega
      · intro j
        rw [hnd.mem_erase_iff, hUm j, hset]
        simp
        constructor
        · rintro ⟨h1, h2, h3⟩; exact ⟨h2, h1, h3⟩
        · rintro ⟨h1, h2, h3⟩; exact ⟨h2, h1, h3⟩

/-- A region whose order is drawn. -/
theorem AW_draw (hm : P.follows .mixedOrders = true) {id : Nat} {ops : Array Oper} {ms : List (List Nat)} (hms : ancGo ops.toList [] = ms) (hst : statOk ops ms = true) {σ : St} {Q : Exit → St → Prop}
    (h : DR P X w0 E0 ops ms σ.nx (σ.nx + 8 * ops.size) (Q .normal) 0 [] { σ with nx := σ.nx + 8 * ops.size }) : AW P X w0 E0 (.region id ops true) σ Q := by
  intro E a w hg hs
  obtain ⟨ts, σf, hch, hq⟩ := h
  refine wpIn_region_any hm ?_
  have hget : ∀ j, (Array.replicate ops.size false).getD j false = false := by
    intro j
    rw [Array.getD_eq_getD_getElem?, Array.getElem?_replicate]
    split <;> rfl
  refine draw_any (n0 := σ.nx) (N := σ.nx + 8 * ops.size) (σ := { σ with nx := σ.nx + 8 * ops.size }) hms hst rfl hch hq ops.size _ (List.range ops.size) a _ (by simp) List.nodup_range (by simp) (fun j => by rw [hget]; simp) ?_ ⟨E, hg, ?_, fun j hj _ k h1 h2 => hs.fr k (by omega)⟩
  · intro j o _ hj
    simp only [hget] at hj
    simp at hj
  · rw [part_none _ _ _ _ _ _ (fun j _ _ => hget j)]
    exact (hs.drawn _).same rfl (by simp) rfl rfl (fun _ => rfl) (fun _ => rfl)

end
end Go.Proofs.YtgbpgplkhifgiaaDoor

/- The walk through a region whose order is drawn. No condition. -/
set_option linter.unusedVariables false
set_option linter.unusedSimpArgs false
namespace Go.Proofs.YtgbpgplkhifgiaaDoor
open Go Go.RowKit

section
variable {T : TypeId → Option TI} {eqt : List TypeId}

theorem evs_congr {σ σ' : St} : ∀ {l : List Operand}, (∀ x ∈ l, σ'.ev x = σ.ev x) → evs σ' l = evs σ l
  | [], _ => rfl
  | x :: l, h => by simp only [evs]; rw [h x (by simp), evs_congr (fun y hy => h y (by simp [hy]))]

theorem evp_congr {σ σ' : St} : ∀ {l : List (Nat × Operand)}, (∀ x ∈ l.map (·.2), σ'.ev x = σ.ev x) → evp σ' l = evp σ l
  | [], _ => rfl
  | (i, x) :: l, h => by simp only [evp]; rw [h x (by simp), evp_congr (fun y hy => h y (by simp at hy ⊢; exact .inr hy))]

theorem tops_mem {k : Nat} {x : AV} : ∀ {l : List AV}, x ∈ l → k ∈ AV.tops [x] → k ∈ AV.tops l
  | [], h, _ => by simp at h
  | y :: l, h, hk => by
    rcases List.mem_cons.1 h with rfl | h
    · cases x <;> simp [AV.tops] at hk ⊢ <;> exact .inl hk
    · have := tops_mem h hk
      cases y <;> simp [AV.tops, this]

theorem evs_mem {σ : St} {x : Operand} : ∀ {l : List Operand}, x ∈ l → σ.ev x ∈ evs σ l
  | [], h => by simp at h
  | y :: l, h => by
    rcases List.mem_cons.1 h with rfl | h
    · simp [evs]
    · simp [evs, evs_mem h]

/-- The two states are alike where an operation with these operands looks. -/
structure Alike (σ σ' : St) (l : List Operand) : Prop where
  ev : ∀ x ∈ l, σ'.ev x = σ.ev x
  bx : ∀ k ∈ AV.tops (evs σ l), blook k σ'.bx = blook k σ.bx

theorem Alike.box {σ σ' : St} {l : List Operand} (h : Alike σ σ' l) {x : Operand} (hx : x ∈ l) {k : Nat} (hk : k ∈ AV.tops [σ.ev x]) : aBox σ' k = aBox σ k := h.bx k (tops_mem (evs_mem hx) hk)

theorem srcOf_congr {σ σ' : St} {size : Nat} {x : AV} (h : ∀ k ∈ AV.tops [x], aBox σ' k = aBox σ k) : srcOf σ' size x = srcOf σ size x := by
  cases x with
  | sl k off n z gr => simp only [srcOf]; rw [h k (by simp [AV.tops])]
  | val v =>
    cases v <;> try rfl
    rename_i a n c
    cases a <;> try rfl
    cases n <;> try rfl
    cases c <;> rfl
  | _ => rfl

theorem dstOf_congr {σ σ' : St} {e : TypeId} {size : Nat} {x : AV} (h : ∀ k ∈ AV.tops [x], aBox σ' k = aBox σ k) : dstOf σ' e size x = dstOf σ e size x := by
  cases x with
  | sl k off n z gr => simp only [dstOf]; rw [h k (by simp [AV.tops])]
  | val v =>
    cases v <;> try rfl
    rename_i a n c
    cases a <;> try rfl
    cases n <;> try rfl
    cases c <;> rfl
  | _ => rfl

theorem opt_congr {σ σ' : St} {x : Option Operand} (h : ∀ y, x = some y → σ'.ev y = σ.ev y) : x.map σ'.ev = x.map σ.ev := by
  cases x with
  | none => rfl
  | some y => simp [h y rfl]

theorem aval_congr {σ σ' : St} (op : Op) (h : Alike σ σ' op.operands.toList) : aval T eqt σ' op = aval T eqt σ op := by
  cases op
  case move x => simp only [aval]; rw [h.ev x (by simp [Op.operands])]
  case assign x => simp only [aval]; rw [h.ev x (by simp [Op.operands])]
  case pick c x y => simp only [aval]; rw [h.ev c (by simp [Op.operands]), h.ev x (by simp [Op.operands]), h.ev y (by simp [Op.operands])]
  case load t x =>
    have hb := fun k hk => h.box (x := x) (by simp [Op.operands]) (k := k) hk
    simp only [aval]
    rw [h.ev x (by simp [Op.operands])]
    cases hx : σ.ev x <;> try rfl
    rename_i k off
    rw [hx] at hb
    simp only [hb k (by simp [AV.tops])]
  case nilCheck x => simp only [aval]; rw [h.ev x (by simp [Op.operands])]
  case binOp op t x y u => simp only [aval]; rw [h.ev x (by simp [Op.operands]), h.ev y (by simp [Op.operands])]
  case unOp op t x => simp only [aval]; rw [h.ev x (by simp [Op.operands])]
  case convert s d x =>
    have hb := fun k hk => h.box (x := x) (by simp [Op.operands]) (k := k) hk
    simp only [aval]
    rw [h.ev x (by simp [Op.operands])]
    generalize σ.ev x = y at hb
    cases T s <;> cases T d <;> try rfl
    rename_i si di
    obtain ⟨d1, _, _, _⟩ := si
    obtain ⟨d2, _, _, _⟩ := di
    cases y
    case val v => cases v <;> first | rfl | (cases d1 <;> first | rfl | (cases d2 <;> rfl))
    case sl k off n z gr =>
      have := hb k (by simp [AV.tops])
      cases d1 <;> first | rfl | (cases d2 <;> first | rfl | simp only [this])
    all_goals (cases d1 <;> first | rfl | (cases d2 <;> rfl))
  case sliceToArrayPointer t x => simp only [aval]; rw [h.ev x (by simp [Op.operands])]
  case makeInterface t x => simp only [aval]; rw [h.ev x (by simp [Op.operands])]
  case makeFunc fn first caps =>
    have := evs_congr (σ := σ) (σ' := σ') (l := caps.toList) (fun x hx => h.ev x (by simp [Op.operands]; exact .inr (by simpa using hx)))
    cases fn <;> simp only [aval]
    rw [this]
  case build t ps =>
    simp only [aval]
    rw [evp_congr (fun x hx => h.ev x (by simpa [Op.operands] using hx))]
  case slice t x lo hi mx =>
    have hb := fun k hk => h.box (x := x) (by simp [Op.operands]) (k := k) hk
    have e1 := opt_congr (σ := σ) (σ' := σ') (x := lo) (fun y hy => h.ev y (by subst hy; simp [Op.operands]))
    have e2 := opt_congr (σ := σ) (σ' := σ') (x := hi) (fun y hy => h.ev y (by subst hy; simp [Op.operands]))
    have e3 := opt_congr (σ := σ) (σ' := σ') (x := mx) (fun y hy => h.ev y (by subst hy; simp [Op.operands]))
    simp only [aval]
    rw [h.ev x (by simp [Op.operands]), e1, e2, e3]
    have e4 : ∀ ti eti, aSlice ti eti (fun k => blook k σ'.bx) (σ.ev x) (lo.map σ.ev) (hi.map σ.ev) (mx.map σ.ev) = aSlice ti eti (fun k => blook k σ.bx) (σ.ev x) (lo.map σ.ev) (hi.map σ.ev) (mx.map σ.ev) := by
      intro ti eti
      unfold aSlice
      generalize σ.ev x = y at hb
      cases y
      case ptr k off =>
        have := hb k (by simp [AV.tops])
        unfold aBox at this
        cases ti.d <;> first | rfl | simp only [this]
      all_goals (cases ti.d <;> rfl)
    simp only [e4]
  case fieldAddr t x i => simp only [aval]; rw [h.ev x (by simp [Op.operands])]
  case field t x i => simp only [aval]; rw [h.ev x (by simp [Op.operands])]
  case indexAddr t x i => simp only [aval]; rw [h.ev x (by simp [Op.operands]), h.ev i (by simp [Op.operands])]
  case index t x i => simp only [aval]; rw [h.ev x (by simp [Op.operands]), h.ev i (by simp [Op.operands])]
  case extract x i => simp only [aval]; rw [h.ev x (by simp [Op.operands])]
  case typeAssert x a b c => simp only [aval]; rw [h.ev x (by simp [Op.operands])]
  case call c =>
    obtain ⟨callee, args, argTypes⟩ := c
    cases callee
    case builtin bi =>
      have := evs_congr (σ := σ) (σ' := σ') (l := args.toList) (fun x hx => h.ev x (by simp [Op.operands, Call.operands]; simpa using hx))
      have one : ∀ x ∈ args.toList, σ'.ev x = σ.ev x := fun x hx => h.ev x (by simp [Op.operands, Call.operands]; simpa using hx)
      cases bi <;> simp only [aval]
      case len =>
        split
        · rename_i x t h1 h2
          rw [one x (by simp [h1])]
        · rfl
      all_goals rw [this]
    all_goals simp only [aval]
  all_goals simp only [aval]

theorem aeff_congr {σ σ' : St} {b : Nat} (o : Oper) (h : Alike σ σ' o.op.operands.toList) : aeff T b σ' o = aeff T b σ o := by
  generalize ho : o.op = op at h
  cases op
  case box t x => simp only [aeff, ho]; rw [h.ev x (by simp [Op.operands])]
  case buildSlice t n ps => simp only [aeff, ho]; rw [evp_congr (fun x hx => h.ev x (by simpa [Op.operands] using hx))]
  case makeSlice t l c => simp only [aeff, ho]; rw [h.ev l (by simp [Op.operands]), h.ev c (by simp [Op.operands])]
  case store t x y =>
    have hb := fun k hk => h.box (x := x) (by simp [Op.operands]) (k := k) hk
    simp only [aeff, ho]
    rw [h.ev x (by simp [Op.operands]), h.ev y (by simp [Op.operands])]
    generalize σ.ev x = u at hb
    cases T t <;> try rfl
    cases u
    case ptr k off => cases (σ.ev y).cs <;> first | rfl | simp only [hb k (by simp [AV.tops])]
    all_goals rfl
  case move x =>
    unfold aeff
    rw [ho]
    cases x <;> try rfl
    rename_i v
    cases v <;> try rfl
    rename_i a n c
    cases a <;> try rfl
    cases n <;> try rfl
    cases c <;> rfl
  case assign x =>
    unfold aeff
    rw [ho]
    cases x <;> try rfl
    rename_i v
    cases v <;> try rfl
    rename_i a n c
    cases a <;> try rfl
    cases n <;> try rfl
    cases c <;> rfl
  case convert s d x => simp only [aeff, ho]; rw [h.ev x (by simp [Op.operands])]
  case call c =>
    obtain ⟨callee, args, argTypes⟩ := c
    cases callee
    case builtin bi =>
      have one : ∀ x ∈ args.toList, σ'.ev x = σ.ev x := fun x hx => h.ev x (by simp [Op.operands, Call.operands]; simpa using hx)
      have bxs : ∀ x ∈ args.toList, ∀ k ∈ AV.tops [σ.ev x], aBox σ' k = aBox σ k := fun x hx k hk => h.box (x := x) (by simp [Op.operands, Call.operands]; simpa using hx) hk
      cases bi
      case append =>
        simp only [aeff, ho]
        split
        · rename_i s x t u h1 h2
          rw [one s (by simp [h1]), one x (by simp [h1])]
          simp only [dstOf_congr (bxs s (by simp [h1])), srcOf_congr (bxs x (by simp [h1]))]
        · rfl
      case copy =>
        simp only [aeff, ho]
        split
        · rename_i s x t u h1 h2
          rw [one s (by simp [h1]), one x (by simp [h1])]
          simp only [srcOf_congr (bxs x (by simp [h1]))]
          have hb := bxs s (by simp [h1])
          generalize σ.ev s = u at hb
          cases T t <;> try rfl
          rename_i ti
          obtain ⟨d1, _, _, _⟩ := ti
          cases d1 <;> try rfl
          rename_i e
          dsimp only
          cases u
          case sl k off n z gr => cases T e <;> first | rfl | simp only [hb k (by simp [AV.tops])]
          all_goals (cases T e <;> rfl)
        · rfl
      all_goals simp only [aeff, ho]
    all_goals simp only [aeff, ho]
  all_goals simp only [aeff, ho]

/-- One operation that is no call of a function, at the base b: what it comes to, and the boxes at which it looks. -/
def aopB (T : TypeId → Option TI) (eqt : List TypeId) (b : Nat) (σ : St) (o : Oper) : Option Tk :=
  if dstOk σ o.dst = true then
    match aeff T b σ o with
    | some e => some ⟨e, AV.tops (evs σ o.op.operands.toList)⟩
    | none => match aval T eqt σ o.op with
      | some x => some ⟨⟨x, []⟩, AV.tops (evs σ o.op.operands.toList)⟩
      | none => none
  else none

def ostepB (T : TypeId → Option TI) (eqt : List TypeId) (ops : Array Oper) (b : Nat) (σ : St) (o : Oper) : Option Tk :=
  match o.guard with
  | none => aopB T eqt b σ o
  | some (j, want) => match gslot ops j with
    | some t => match alook t σ.tm with
      | .val (.bool c) => if c = want then aopB T eqt b σ o else if dstOk σ o.dst = true then some ⟨⟨.tup [], []⟩, []⟩ else none
      | .tup [] => if dstOk σ o.dst = true then some ⟨⟨.tup [], []⟩, []⟩ else none
      | _ => none
    | none => none

section
variable {P : Program} {X : Nat → Prop} {w0 : World} {E0 : Env}

theorem operand_onames {ops : Array Oper} {o : Oper} {t : Tmp} (h : Operand.tmp t ∈ o.op.operands.toList) : t ∈ onames ops o := by
  simp only [onames, Oper.looksAt, List.mem_append, List.mem_filterMap]
  exact .inr (.inl ⟨.tmp t, h, rfl⟩)

theorem guard_onames {ops : Array Oper} {o : Oper} {j : Nat} {want : Bool} {t : Tmp} (hg : o.guard = some (j, want)) (h : gslot ops j = some t) : t ∈ onames ops o := by
  simp only [onames, Oper.looksAt, List.mem_append, hg]
  unfold gslot at h
  exact .inr (.inr (by simp [h]))

theorem aopB_run (hT : Tab P T eqt) {E : Env} {σ σ' : St} {a : Act} {w : World} {b N : Nat} {o : Oper} {t : Tk} (hv : aopB T eqt b σ o = some t) (hal : Alike σ σ' o.op.operands.toList) (hnt : σ'.nt = σ.nt) (hnx : σ'.nx = N) (hb : b + 8 ≤ N)
    (hg : Grow w0 E0 E) (h : Sim X w0 E σ' a w) (hfr : ∀ k, b ≤ k → k < b + 8 → E.bl k = none ∧ ¬ E.ph k) (K : Act → World → Prop) (Q : Exit → Act → World → Prop)
    (hK : ∀ E' a' w', Near b E E' → Grow w0 E0 E' → Sim X w0 E' (σ'.app N o.dst t.e) a' w' → K a' w') {m : Mode} {n : Nat} : o.wpIn (FrO m) n P a w K Q := by
  subst hnx
  have free : Free E σ' b σ'.nx := ⟨(hfr b (by omega) (by omega)).1, (hfr b (by omega) (by omega)).2, by omega, Nat.le_refl _, fun k hk => h.fr k hk⟩
  unfold aopB at hv
  split at hv
  · rename_i hd
    have hd' : dstOk σ' o.dst = true := by rw [← hd]; unfold dstOk; rw [hnt]
    split at hv
    · rename_i e he
      simp at hv
      subst hv
      rw [← aeff_congr o hal] at he
      obtain ⟨r, w', E', v, hn, hr, hrv, hg', hs⟩ := aeff_run hT.t h free o (dst_lt hd') he
      refine oper_fr (aeff_nodefer he) ?_
      rw [hr]
      rcases hrv with rfl | ⟨rfl, rfl⟩ <;> exact hK E' _ _ hn (hg.trans hg') hs
    · split at hv
      · rename_i x hx
        simp at hv
        subst hv
        rw [← aval_congr o.op hal] at hx
        obtain ⟨v, hr, hm⟩ := aval_run hT h o hx
        refine oper_fr (aval_nodefer hx) ?_
        rw [hr]
        exact hK E _ _ (near_refl _ _) hg (h.val (dst_lt hd') hm (Nat.le_refl _))
      · simp at hv
  · simp at hv

theorem alike_of {ops : Array Oper} {σ σ' : St} {o : Oper} (hgl : σ'.gl = σ.gl) (hq : ∀ q ∈ onames ops o, alook q σ'.tm = alook q σ.tm) (hb : ∀ k ∈ AV.tops (evs σ o.op.operands.toList), blook k σ'.bx = blook k σ.bx) : Alike σ σ' o.op.operands.toList := by
  refine ⟨fun x hx => ?_, hb⟩
  cases x with
  | tmp t => exact hq t (operand_onames hx)
  | const v => rfl
  | global g => simp only [St.ev, hgl]
  | func f => rfl

theorem ostepB_task (hT : Tab P T eqt) {ops : Array Oper} {n0 N i : Nat} {σ : St} {o : Oper} {t : Tk} (ho : ops[i]? = some o) (hN : n0 + 8 * i + 8 ≤ N) (hv : ostepB T eqt ops (n0 + 8 * i) σ o = some t) : TaskOk P X w0 E0 ops n0 N i o σ t := by
  intro σ' hnt hnx hgl hdf hq hb E a w Q K hg hs hfr hK
  unfold wpOpIn
  simp only [ho]
  unfold ostepB at hv
  split at hv
  · rename_i hgd
    have hw : Region.wanted o (yielded ops a.tmps) = true := by simp [Region.wanted, hgd]
    rw [if_pos hw]
    refine aopB_run hT hv (alike_of hgl hq ?_) hnt hnx hN hg hs hfr K Q hK
    intro k hk
    refine hb k ?_
    unfold aopB at hv
    split at hv
    · split at hv
      · simp at hv; subst hv; exact hk
      · split at hv
        · simp at hv; subst hv; exact hk
        · simp at hv
    · simp at hv
  · rename_i j want hgd
    split at hv
    · rename_i q hj
      split at hv
      · rename_i c hc
        have hc' : alook q σ'.tm = .val (.bool c) := by rw [hq q (guard_onames hgd hj)]; exact hc
        have hy := yielded_of hs hj hc'
        split at hv
        · rename_i hcw
          have hw : Region.wanted o (yielded ops a.tmps) = true := by simp [Region.wanted, hgd, hy, hcw]
          rw [if_pos hw]
          refine aopB_run hT hv (alike_of hgl hq ?_) hnt hnx hN hg hs hfr K Q hK
          intro k hk
          refine hb k ?_
          unfold aopB at hv
          split at hv
          · split at hv
            · simp at hv; subst hv; exact hk
            · split at hv
              · simp at hv; subst hv; exact hk
              · simp at hv
          · simp at hv
        · rename_i hcw
          have hw : ¬ Region.wanted o (yielded ops a.tmps) = true := by simp [Region.wanted, hgd, hy, hcw]
          rw [if_neg hw]
          split at hv
          · rename_i hd
            simp at hv
            subst hv
            have hd' : dstOk σ' o.dst = true := by rw [← hd]; unfold dstOk; rw [hnt]
            exact ⟨fun _ _ => frO_fn _ _, hK E _ w (near_refl _ _) hg (hs.val (dst_lt hd') ⟨[], rfl, rfl⟩ (by omega))⟩
          · simp at hv
      · rename_i hc
        have hc' : alook q σ'.tm = .tup [] := by rw [hq q (guard_onames hgd hj)]; exact hc
        have hy := yielded_undef hs hj hc'
        have hw : ¬ Region.wanted o (yielded ops a.tmps) = true := by simp [Region.wanted, hgd, hy]
        rw [if_neg hw]
        split at hv
        · rename_i hd
          simp at hv
          subst hv
          have hd' : dstOk σ' o.dst = true := by rw [← hd]; unfold dstOk; rw [hnt]
          exact ⟨fun _ _ => frO_fn _ _, hK E _ w (near_refl _ _) hg (hs.val (dst_lt hd') ⟨[], rfl, rfl⟩ (by omega))⟩
        · simp at hv
      · simp at hv
    · simp at hv

/-- As far as the state decides. -/
def runD (T : TypeId → Option TI) (eqt : List TypeId) (ops : Array Oper) (ms : List (List Nat)) (n0 N : Nat) (done : St → Prop) (stop : Nat → List (Nat × Foot) → List Oper → St → Prop) : Nat → List (Nat × Foot) → List Oper → St → Prop
  | _, _, [], σ => done σ
  | i, acc, o :: l, σ => match ostepB T eqt ops (n0 + 8 * i) σ o with
    | some t => if fine ms i t.foot acc = true then runD T eqt ops ms n0 N done stop (i + 1) (addFoot i t.foot acc) l (σ.app N o.dst t.e) else stop i acc (o :: l) σ
    | none => stop i acc (o :: l) σ

theorem DR_task {ops : Array Oper} {ms : List (List Nat)} {n0 N i : Nat} {acc : List (Nat × Foot)} {σ : St} {o : Oper} {t : Tk} {Q : St → Prop} (ho : ops[i]? = some o) (ht : TaskOk P X w0 E0 ops n0 N i o σ t) (hf : fine ms i t.foot acc = true)
    (h : DR P X w0 E0 ops ms n0 N Q (i + 1) (addFoot i t.foot acc) (σ.app N o.dst t.e)) : DR P X w0 E0 ops ms n0 N Q i acc σ := by
  obtain ⟨ts, σf, hch, hq⟩ := h
  refine ⟨t :: ts, σf, ⟨⟨o, ho, ht⟩, hf, ?_⟩, hq⟩
  have : gslot ops i = o.dst := by simp [gslot, ho]
  rw [this]
  exact hch

theorem DR_done {ops : Array Oper} {ms : List (List Nat)} {n0 N : Nat} {acc : List (Nat × Foot)} {σ : St} {Q : St → Prop} (h : Q σ) : DR P X w0 E0 ops ms n0 N Q ops.size acc σ := ⟨[], σ, ⟨rfl, rfl⟩, h⟩

/-- The rest of a drawn region. -/
def DL (P : Program) (X : Nat → Prop) (w0 : World) (E0 : Env) (ops : Array Oper) (ms : List (List Nat)) (n0 N : Nat) (Q : St → Prop) (i : Nat) (acc : List (Nat × Foot)) (l : List Oper) (σ : St) : Prop := i + l.length = ops.size → l = ops.toList.drop i → DR P X w0 E0 ops ms n0 N Q i acc σ

theorem DL_run (hT : Tab P T eqt) {ops : Array Oper} {ms : List (List Nat)} {n0 N : Nat} (hN : N = n0 + 8 * ops.size) {Q : St → Prop} {D : St → Prop} {K : Nat → List (Nat × Foot) → List Oper → St → Prop} (hD : ∀ σ, D σ → Q σ) (hK : ∀ i acc l σ, K i acc l σ → DL P X w0 E0 ops ms n0 N Q i acc l σ) :
    ∀ (l : List Oper) (i : Nat) (acc : List (Nat × Foot)) (σ : St), runD T eqt ops ms n0 N D K i acc l σ → DL P X w0 E0 ops ms n0 N Q i acc l σ
  | [], i, acc, σ, h => by
    intro hn hl
    simp only [runD] at h
    simp at hn
    subst hn
    exact DR_done (hD σ h)
  | o :: l, i, acc, σ, h => by
    intro hn hl
    simp only [runD] at h
    obtain ⟨h1, h2⟩ := drop_cons hl
    have ho : ops[i]? = some o := by simpa using h1
    simp at hn
    split at h
    · rename_i t ht
      split at h
      · rename_i hf
        exact DR_task ho (ostepB_task hT ho (by omega) ht) hf (DL_run hT hN hD hK l (i + 1) _ _ h (by omega) h2)
      · exact hK _ _ _ _ h (by simpa using hn) hl
    · exact hK _ _ _ _ h (by simpa using hn) hl

/-- A call of a function in a drawn region: its contract says all of what it comes to. -/
theorem DL_call {ops : Array Oper} {ms : List (List Nat)} {n0 N i : Nat} (hN : N = n0 + 8 * ops.size) {acc : List (Nat × Foot)} {o : Oper} {l : List Oper} {σ : St} {Q : St → Prop} {f : Operand} {fargs : Array Operand} {fty : Array TypeId} {K : FuncId} {caps : List AV} {gl' : List (Nat × AV)} {args' : List AV} {io io' nb : List (List AV)} {x : AV} {R : Out → Prop}
    (ho : o.op = .call ⟨.value f, fargs, fty⟩) (hgd : o.guard = none) (hd : dstOk σ o.dst = true) (hf : σ.ev f = .clo K caps) (hen : Enters P K) (hspec : Spec P gl' K args' io R) (hR : ∀ out, R out → out = .ret x io' nb)
    (ios lb : List Nat) (hlen : ios.length = io.length) (hlen' : io'.length = io.length) (hnd : ios.Nodup) (hne : ∀ cs ∈ io, cs ≠ [])
    (hargs : (evs σ fargs.toList ++ caps).map (lendA (lentBx lb σ)) = AVs.map (ioMap N ios) args')
    (hio : ∀ (j k : Nat) (cs : List AV), ios[j]? = some k → io[j]? = some cs → blook k σ.bx = some (AVs.map (ioMap N ios) cs))
    (hlb : ∀ k ∈ lb, (blook k σ.bx).isSome ∧ k ∉ ios)
    (hgl : ∀ p ∈ gl', alook p.1 σ.gl = p.2.map (ioMap N ios))
    (hkept : (lb.isEmpty || keptAll x io' nb) = true) (hnb : nb.length ≤ 8)
    (hfine : fine ms i (ios ++ (newIo (gMap (n0 + 8 * i) ios) (n0 + 8 * i) nb).map (·.1), ios ++ lb) acc = true)
    (h : DL P X w0 E0 ops ms n0 N Q (i + 1) (addFoot i (ios ++ (newIo (gMap (n0 + 8 * i) ios) (n0 + 8 * i) nb).map (·.1), ios ++ lb) acc) l (σ.behindB (n0 + 8 * i) N (tput o.dst (x.map (gMap (n0 + 8 * i) ios)) σ.tm) ios io' nb)) :
    DL P X w0 E0 ops ms n0 N Q i acc (o :: l) σ := by
  intro hn hl
  obtain ⟨h1, h2⟩ := drop_cons hl
  have hoi : ops[i]? = some o := by simpa using h1
  simp at hn
  have hb8 : n0 + 8 * i + 8 ≤ N := by omega
  let b := n0 + 8 * i
  let t : Tk := ⟨⟨x.map (gMap b ios), zipIo (gMap b ios) ios io' ++ newIo (gMap b ios) b nb⟩, ios ++ lb⟩
  have zk : ∀ (ios : List Nat) (io' : List (List AV)) (g : Nat → Nat), ios.length = io'.length → (zipIo g ios io').map (·.1) = ios := by
    intro ios
    induction ios with
    | nil => intro io' g h; cases io' <;> simp [zipIo]
    | cons k ks ih =>
      intro io' g h
      cases io' with
      | nil => simp at h
      | cons c cs => simp [zipIo, ih cs g (by simpa using h)]
  have hfoot : t.foot = (ios ++ (newIo (gMap b ios) b nb).map (·.1), ios ++ lb) := by
    show (List.map _ (zipIo _ _ _ ++ _), _) = _
    rw [List.map_append, zk ios io' _ (by omega)]
  have hbeh : σ.behindB b N (tput o.dst (x.map (gMap b ios)) σ.tm) ios io' nb = σ.app N o.dst t.e := by
    simp only [St.behindB, St.app, t, List.append_assoc]
  refine DR_task hoi (t := t) ?_ (by rw [hfoot]; exact hfine) (by rw [hfoot, ← hbeh]; exact h (by omega) h2)
  intro σ' hnt hnx hgl' hdf hq hbx E a w Q' K' hg hs hfr hK
  have evEq : ∀ y ∈ o.op.operands.toList, σ'.ev y = σ.ev y := by
    intro y hy
    cases y with
    | tmp t => exact hq t (operand_onames hy)
    | const v => rfl
    | global g => simp only [St.ev, hgl']
    | func f => rfl
  have hf' : σ'.ev f = .clo K caps := by rw [evEq f (by rw [ho]; simp [Op.operands, Call.operands]), hf]
  have hevs : evs σ' fargs.toList = evs σ fargs.toList := evs_congr fun y hy => evEq y (by rw [ho]; simp [Op.operands, Call.operands]; exact .inr (by simpa using hy))
  obtain ⟨cvs, hcm, hrun⟩ := run_enter (P := P) hs ho hf' hen
  have hlook : ∀ k, k ∈ ios ++ lb → blook k σ'.bx = blook k σ.bx := hbx
  have hlent : ∀ y, lendA (lentBx lb σ') y = lendA (lentBx lb σ) y := by
    have : lentBx lb σ' = lentBx lb σ := by
      funext k
      unfold lentBx
      split
      · rename_i hc; exact hlook k (by simp; exact .inr (by simpa using hc))
      · rfl
    intro y
    rw [this]
  obtain ⟨post, hcall, hpost⟩ := call_core hg hs (b := b) (N := N) hfr (by omega) hb8 hcm hspec ios lb hlen hnd hne
    (by rw [hevs, hnx]; rw [← hargs]; exact List.map_congr_left fun y _ => hlent y)
    (by
      intro j k cs hj hc
      rw [hlook k (by simp; exact .inl (List.mem_of_getElem? hj)), hnx]
      exact hio j k cs hj hc)
    (by
      intro k hk
      rw [hlook k (by simp [hk])]
      exact hlb k hk)
    (by intro p hp; rw [hgl', hnx]; exact hgl p hp)
  unfold wpOpIn
  simp only [hoi]
  have hw : Region.wanted o (yielded ops a.tmps) = true := by simp [Region.wanted, hgd]
  rw [if_pos hw]
  refine oper_fr (by rw [ho]; intro c; simp) ?_
  rw [hrun, Oper.upon_enter]
  refine Calls.mono hcall ?_
  intro e w' he
  obtain ⟨out, hRo, hout⟩ := hpost e w' he
  have hout' := hR out hRo
  subst hout'
  obtain ⟨v, rfl, hle, hk⟩ := hout
  have hd' : dstOk σ' o.dst = true := by rw [← hd]; unfold dstOk; rw [hnt]
  obtain ⟨E2, hn2, hg2, hs2⟩ := hk hkept hnb o.dst hd'
  refine hK E2 _ _ hn2 hg2 ?_
  have : σ'.behindB b N (tput o.dst (x.map (gMap b ios)) σ'.tm) ios io' nb = σ'.app N o.dst t.e := by
    simp only [St.behindB, St.app, t, List.append_assoc]
  rw [← this]
  exact hs2

/-- A drawn region and what follows it. -/
theorem AW_dreg (hT : Tab P T eqt) (hm : P.follows .mixedOrders = true) {id : Nat} {ops : Array Oper} {y : Code} {σ : St} {Q : Exit → St → Prop} (ms : List (List Nat)) (hms : ancGo ops.toList [] = ms) (hst : statOk ops ms = true)
    (h : ∀ D K, (∀ σ', AW P X w0 E0 y σ' Q → D σ') → (∀ i acc l σ', DL P X w0 E0 ops ms σ.nx (σ.nx + 8 * ops.size) (fun σ' => AW P X w0 E0 y σ' Q) i acc l σ' → K i acc l σ') →
      runD T eqt ops ms σ.nx (σ.nx + 8 * ops.size) D K 0 [] ops.toList { σ with nx := σ.nx + 8 * ops.size }) : AW P X w0 E0 (.seq (.region id ops true) y) σ Q :=
  AW_seq (AW_draw hm hms hst (DL_run hT rfl (fun _ h => h) (fun _ _ _ _ h => h) _ 0 [] _ (h (fun σ' => AW P X w0 E0 y σ' Q) _ (fun _ h => h) (fun _ _ _ _ h => h)) (by simp) (by simp)))

/-- A drawn region that ends a piece. -/
theorem AW_dregl (hT : Tab P T eqt) (hm : P.follows .mixedOrders = true) {id : Nat} {ops : Array Oper} {σ : St} {Q : Exit → St → Prop} (ms : List (List Nat)) (hms : ancGo ops.toList [] = ms) (hst : statOk ops ms = true)
    (h : ∀ D K, (∀ σ', Q .normal σ' → D σ') → (∀ i acc l σ', DL P X w0 E0 ops ms σ.nx (σ.nx + 8 * ops.size) (Q .normal) i acc l σ' → K i acc l σ') →
      runD T eqt ops ms σ.nx (σ.nx + 8 * ops.size) D K 0 [] ops.toList { σ with nx := σ.nx + 8 * ops.size }) : AW P X w0 E0 (.region id ops true) σ Q :=
  AW_draw hm hms hst (DL_run hT rfl (fun _ h => h) (fun _ _ _ _ h => h) _ 0 [] _ (h (Q .normal) _ (fun _ h => h) (fun _ _ _ _ h => h)) (by simp) (by simp))

end
end
end Go.Proofs.YtgbpgplkhifgiaaDoor
