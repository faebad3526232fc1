/- The walk through a region whose order is drawn. No condition. -/
import Derived.Test.YtdnmnafadondkaaAw19
set_option linter.unusedVariables false
set_option linter.unusedSimpArgs false
namespace Go.Proofs.Ytdnmnafadondkaa
open Go Go.RowKit

section
variable {T : TypeId → Option TI} {eqt : List TypeId}

theorem evs_congr {σ σ' : St} : ∀ {l : List Operand}, (∀ x ∈ l, σ'.ev x = σ.ev x) → evs σ' l = evs σ l
  | [], _ => rfl
  | x :: l, h => by simp only [evs]; rw [h x (by simp), evs_congr (fun y hy => h y (by simp [hy]))]

theorem evp_congr {σ σ' : St} : ∀ {l : List (Nat × Operand)}, (∀ x ∈ l.map (·.2), σ'.ev x = σ.ev x) → evp σ' l = evp σ l
  | [], _ => rfl
  | (i, x) :: l, h => by simp only [evp]; rw [h x (by simp), evp_congr (fun y hy => h y (by simp at hy ⊢; exact .inr hy))]

theorem tops_mem {k : Nat} {x : AV} : ∀ {l : List AV}, x ∈ l → k ∈ AV.tops [x] → k ∈ AV.tops l
  | [], h, _ => by simp at h
  | y :: l, h, hk => by
    rcases List.mem_cons.1 h with rfl | h
    · cases x <;> simp [AV.tops] at hk ⊢ <;> exact .inl hk
    · have := tops_mem h hk
      cases y <;> simp [AV.tops, this]

theorem evs_mem {σ : St} {x : Operand} : ∀ {l : List Operand}, x ∈ l → σ.ev x ∈ evs σ l
  | [], h => by simp at h
  | y :: l, h => by
    rcases List.mem_cons.1 h with rfl | h
    · simp [evs]
    · simp [evs, evs_mem h]

/-- The two states are alike where an operation with these operands looks. -/
structure Alike (σ σ' : St) (l : List Operand) : Prop where
  ev : ∀ x ∈ l, σ'.ev x = σ.ev x
  bx : ∀ k ∈ AV.tops (evs σ l), blook k σ'.bx = blook k σ.bx

theorem Alike.box {σ σ' : St} {l : List Operand} (h : Alike σ σ' l) {x : Operand} (hx : x ∈ l) {k : Nat} (hk : k ∈ AV.tops [σ.ev x]) : aBox σ' k = aBox σ k := h.bx k (tops_mem (evs_mem hx) hk)

theorem srcOf_congr {σ σ' : St} {size : Nat} {x : AV} (h : ∀ k ∈ AV.tops [x], aBox σ' k = aBox σ k) : srcOf σ' size x = srcOf σ size x := by
  cases x with
  | sl k off n z gr => simp only [srcOf]; rw [h k (by simp [AV.tops])]
  | val v =>
    cases v <;> try rfl
    rename_i a n c
    cases a <;> try rfl
    cases n <;> try rfl
    cases c <;> rfl
  | _ => rfl

theorem dstOf_congr {σ σ' : St} {e : TypeId} {size : Nat} {x : AV} (h : ∀ k ∈ AV.tops [x], aBox σ' k = aBox σ k) : dstOf σ' e size x = dstOf σ e size x := by
  cases x with
  | sl k off n z gr => simp only [dstOf]; rw [h k (by simp [AV.tops])]
  | val v =>
    cases v <;> try rfl
    rename_i a n c
    cases a <;> try rfl
    cases n <;> try rfl
    cases c <;> rfl
  | _ => rfl

theorem opt_congr {σ σ' : St} {x : Option Operand} (h : ∀ y, x = some y → σ'.ev y = σ.ev y) : x.map σ'.ev = x.map σ.ev := by
  cases x with
  | none => rfl
  | some y => simp [h y rfl]

theorem aval_congr {σ σ' : St} (op : Op) (h : Alike σ σ' op.operands.toList) : aval T eqt σ' op = aval T eqt σ op := by
  cases op
  case move x => simp only [aval]; rw [h.ev x (by simp [Op.operands])]
  case assign x => simp only [aval]; rw [h.ev x (by simp [Op.operands])]
  case pick c x y => simp only [aval]; rw [h.ev c (by simp [Op.operands]), h.ev x (by simp [Op.operands]), h.ev y (by simp [Op.operands])]
  case load t x =>
    have hb := fun k hk => h.box (x := x) (by simp [Op.operands]) (k := k) hk
    simp only [aval]
    rw [h.ev x (by simp [Op.operands])]
    cases hx : σ.ev x <;> try rfl
    rename_i k off
    rw [hx] at hb
    simp only [hb k (by simp [AV.tops])]
  case nilCheck x => simp only [aval]; rw [h.ev x (by simp [Op.operands])]
  case binOp op t x y u => simp only [aval]; rw [h.ev x (by simp [Op.operands]), h.ev y (by simp [Op.operands])]
  case unOp op t x => simp only [aval]; rw [h.ev x (by simp [Op.operands])]
  case convert s d x =>
    have hb := fun k hk => h.box (x := x) (by simp [Op.operands]) (k := k) hk
    simp only [aval]
    rw [h.ev x (by simp [Op.operands])]
    generalize σ.ev x = y at hb
    cases T s <;> cases T d <;> try rfl
    rename_i si di
    obtain ⟨d1, _, _, _⟩ := si
    obtain ⟨d2, _, _, _⟩ := di
    cases y
    case val v => cases v <;> first | rfl | (cases d1 <;> first | rfl | (cases d2 <;> rfl))
    case sl k off n z gr =>
      have := hb k (by simp [AV.tops])
      cases d1 <;> first | rfl | (cases d2 <;> first | rfl | simp only [this])
    all_goals (cases d1 <;> first | rfl | (cases d2 <;> rfl))
  case sliceToArrayPointer t x => simp only [aval]; rw [h.ev x (by simp [Op.operands])]
  case makeInterface t x => simp only [aval]; rw [h.ev x (by simp [Op.operands])]
  case makeFunc fn first caps =>
    have := evs_congr (σ := σ) (σ' := σ') (l := caps.toList) (fun x hx => h.ev x (by simp [Op.operands]; exact .inr (by simpa using hx)))
    cases fn <;> simp only [aval]
    rw [this]
  case build t ps =>
    simp only [aval]
    rw [evp_congr (fun x hx => h.ev x (by simpa [Op.operands] using hx))]
  case slice t x lo hi mx =>
    have hb := fun k hk => h.box (x := x) (by simp [Op.operands]) (k := k) hk
    have e1 := opt_congr (σ := σ) (σ' := σ') (x := lo) (fun y hy => h.ev y (by subst hy; simp [Op.operands]))
    have e2 := opt_congr (σ := σ) (σ' := σ') (x := hi) (fun y hy => h.ev y (by subst hy; simp [Op.operands]))
    have e3 := opt_congr (σ := σ) (σ' := σ') (x := mx) (fun y hy => h.ev y (by subst hy; simp [Op.operands]))
    simp only [aval]
    rw [h.ev x (by simp [Op.operands]), e1, e2, e3]
    have e4 : ∀ ti eti, aSlice ti eti (fun k => blook k σ'.bx) (σ.ev x) (lo.map σ.ev) (hi.map σ.ev) (mx.map σ.ev) = aSlice ti eti (fun k => blook k σ.bx) (σ.ev x) (lo.map σ.ev) (hi.map σ.ev) (mx.map σ.ev) := by
      intro ti eti
      unfold aSlice
      generalize σ.ev x = y at hb
      cases y
      case ptr k off =>
        have := hb k (by simp [AV.tops])
        unfold aBox at this
        cases ti.d <;> first | rfl | simp only [this]
      all_goals (cases ti.d <;> rfl)
    simp only [e4]
  case fieldAddr t x i => simp only [aval]; rw [h.ev x (by simp [Op.operands])]
  case field t x i => simp only [aval]; rw [h.ev x (by simp [Op.operands])]
  case indexAddr t x i => simp only [aval]; rw [h.ev x (by simp [Op.operands]), h.ev i (by simp [Op.operands])]
  case index t x i => simp only [aval]; rw [h.ev x (by simp [Op.operands]), h.ev i (by simp [Op.operands])]
  case extract x i => simp only [aval]; rw [h.ev x (by simp [Op.operands])]
  case typeAssert x a b c => simp only [aval]; rw [h.ev x (by simp [Op.operands])]
  case call c =>
    obtain ⟨callee, args, argTypes⟩ := c
    cases callee
    case builtin bi =>
      have := evs_congr (σ := σ) (σ' := σ') (l := args.toList) (fun x hx => h.ev x (by simp [Op.operands, Call.operands]; simpa using hx))
      have one : ∀ x ∈ args.toList, σ'.ev x = σ.ev x := fun x hx => h.ev x (by simp [Op.operands, Call.operands]; simpa using hx)
      cases bi <;> simp only [aval]
      case len =>
        split
        · rename_i x t h1 h2
          rw [one x (by simp [h1])]
        · rfl
      all_goals rw [this]
    all_goals simp only [aval]
  all_goals simp only [aval]

theorem aeff_congr {σ σ' : St} {b : Nat} (o : Oper) (h : Alike σ σ' o.op.operands.toList) : aeff T b σ' o = aeff T b σ o := by
  generalize ho : o.op = op at h
  cases op
  case box t x => simp only [aeff, ho]; rw [h.ev x (by simp [Op.operands])]
  case buildSlice t n ps => simp only [aeff, ho]; rw [evp_congr (fun x hx => h.ev x (by simpa [Op.operands] using hx))]
  case makeSlice t l c => simp only [aeff, ho]; rw [h.ev l (by simp [Op.operands]), h.ev c (by simp [Op.operands])]
  case store t x y =>
    have hb := fun k hk => h.box (x := x) (by simp [Op.operands]) (k := k) hk
    simp only [aeff, ho]
    rw [h.ev x (by simp [Op.operands]), h.ev y (by simp [Op.operands])]
    generalize σ.ev x = u at hb
    cases T t <;> try rfl
    cases u
    case ptr k off => cases (σ.ev y).cs <;> first | rfl | simp only [hb k (by simp [AV.tops])]
    all_goals rfl
  case move x =>
    unfold aeff
    rw [ho]
    cases x <;> try rfl
    rename_i v
    cases v <;> try rfl
    rename_i a n c
    cases a <;> try rfl
    cases n <;> try rfl
    cases c <;> rfl
  case assign x =>
    unfold aeff
    rw [ho]
    cases x <;> try rfl
    rename_i v
    cases v <;> try rfl
    rename_i a n c
    cases a <;> try rfl
    cases n <;> try rfl
    cases c <;> rfl
  case convert s d x => simp only [aeff, ho]; rw [h.ev x (by simp [Op.operands])]
  case call c =>
    obtain ⟨callee, args, argTypes⟩ := c
    cases callee
    case builtin bi =>
      have one : ∀ x ∈ args.toList, σ'.ev x = σ.ev x := fun x hx => h.ev x (by simp [Op.operands, Call.operands]; simpa using hx)
      have bxs : ∀ x ∈ args.toList, ∀ k ∈ AV.tops [σ.ev x], aBox σ' k = aBox σ k := fun x hx k hk => h.box (x := x) (by simp [Op.operands, Call.operands]; simpa using hx) hk
      cases bi
      case append =>
        simp only [aeff, ho]
        split
        · rename_i s x t u h1 h2
          rw [one s (by simp [h1]), one x (by simp [h1])]
          simp only [dstOf_congr (bxs s (by simp [h1])), srcOf_congr (bxs x (by simp [h1]))]
        · rfl
      case copy =>
        simp only [aeff, ho]
        split
        · rename_i s x t u h1 h2
          rw [one s (by simp [h1]), one x (by simp [h1])]
          simp only [srcOf_congr (bxs x (by simp [h1]))]
          have hb := bxs s (by simp [h1])
          generalize σ.ev s = u at hb
          cases T t <;> try rfl
          rename_i ti
          obtain ⟨d1, _, _, _⟩ := ti
          cases d1 <;> try rfl
          rename_i e
          dsimp only
          cases u
          case sl k off n z gr => cases T e <;> first | rfl | simp only [hb k (by simp [AV.tops])]
          all_goals (cases T e <;> rfl)
        · rfl
      all_goals simp only [aeff, ho]
    all_goals simp only [aeff, ho]
  all_goals simp only [aeff, ho]

/-- One operation that is no call of a function, at the base b: what it comes to, and the boxes at which it looks. -/
def aopB (T : TypeId → Option TI) (eqt : List TypeId) (b : Nat) (σ : St) (o : Oper) : Option Tk :=
  if dstOk σ o.dst = true then
    match aeff T b σ o with
    | some e => some ⟨e, AV.tops (evs σ o.op.operands.toList)⟩
    | none => match aval T eqt σ o.op with
      | some x => some ⟨⟨x, []⟩, AV.tops (evs σ o.op.operands.toList)⟩
      | none => none
  else none

def ostepB (T : TypeId → Option TI) (eqt : List TypeId) (ops : Array Oper) (b : Nat) (σ : St) (o : Oper) : Option Tk :=
  match o.guard with
  | none => aopB T eqt b σ o
  | some (j, want) => match gslot ops j with
    | some t => match alook t σ.tm with
      | .val (.bool c) => if c = want then aopB T eqt b σ o else if dstOk σ o.dst = true then some ⟨⟨.tup [], []⟩, []⟩ else none
      | .tup [] => if dstOk σ o.dst = true then some ⟨⟨.tup [], []⟩, []⟩ else none
      | _ => none
    | none => none

section
variable {P : Program} {X : Nat → Prop} {w0 : World} {E0 : Env}

theorem operand_onames {ops : Array Oper} {o : Oper} {t : Tmp} (h : Operand.tmp t ∈ o.op.operands.toList) : t ∈ onames ops o := by
  simp only [onames, Oper.looksAt, List.mem_append, List.mem_filterMap]
  exact .inr (.inl ⟨.tmp t, h, rfl⟩)

theorem guard_onames {ops : Array Oper} {o : Oper} {j : Nat} {want : Bool} {t : Tmp} (hg : o.guard = some (j, want)) (h : gslot ops j = some t) : t ∈ onames ops o := by
  simp only [onames, Oper.looksAt, List.mem_append, hg]
  unfold gslot at h
  exact .inr (.inr (by simp [h]))

theorem aopB_run (hT : Tab P T eqt) {E : Env} {σ σ' : St} {a : Act} {w : World} {b N : Nat} {o : Oper} {t : Tk} (hv : aopB T eqt b σ o = some t) (hal : Alike σ σ' o.op.operands.toList) (hnt : σ'.nt = σ.nt) (hnx : σ'.nx = N) (hb : b + 8 ≤ N)
    (hg : Grow w0 E0 E) (h : Sim X w0 E σ' a w) (hfr : ∀ k, b ≤ k → k < b + 8 → E.bl k = none ∧ ¬ E.ph k) (K : Act → World → Prop) (Q : Exit → Act → World → Prop)
    (hK : ∀ E' a' w', Near b E E' → Grow w0 E0 E' → Sim X w0 E' (σ'.app N o.dst t.e) a' w' → K a' w') : o.wp P a w K Q := by
  subst hnx
  have free : Free E σ' b σ'.nx := ⟨(hfr b (by omega) (by omega)).1, (hfr b (by omega) (by omega)).2, by omega, Nat.le_refl _, fun k hk => h.fr k hk⟩
  unfold aopB at hv
  split at hv
  · rename_i hd
    have hd' : dstOk σ' o.dst = true := by rw [← hd]; unfold dstOk; rw [hnt]
    split at hv
    · rename_i e he
      simp at hv
      subst hv
      rw [← aeff_congr o hal] at he
      obtain ⟨r, w', E', v, hn, hr, hrv, hg', hs⟩ := aeff_run hT.t h free o (dst_lt hd') he
      unfold Oper.wp
      rw [hr]
      rcases hrv with rfl | ⟨rfl, rfl⟩ <;> exact hK E' _ _ hn (hg.trans hg') hs
    · split at hv
      · rename_i x hx
        simp at hv
        subst hv
        rw [← aval_congr o.op hal] at hx
        obtain ⟨v, hr, hm⟩ := aval_run hT h o hx
        unfold Oper.wp
        rw [hr]
        exact hK E _ _ (near_refl _ _) hg (h.val (dst_lt hd') hm (Nat.le_refl _))
      · simp at hv
  · simp at hv

theorem alike_of {ops : Array Oper} {σ σ' : St} {o : Oper} (hgl : σ'.gl = σ.gl) (hq : ∀ q ∈ onames ops o, alook q σ'.tm = alook q σ.tm) (hb : ∀ k ∈ AV.tops (evs σ o.op.operands.toList), blook k σ'.bx = blook k σ.bx) : Alike σ σ' o.op.operands.toList := by
  refine ⟨fun x hx => ?_, hb⟩
  cases x with
  | tmp t => exact hq t (operand_onames hx)
  | const v => rfl
  | global g => simp only [St.ev, hgl]
  | func f => rfl

theorem ostepB_task (hT : Tab P T eqt) {ops : Array Oper} {n0 N i : Nat} {σ : St} {o : Oper} {t : Tk} (ho : ops[i]? = some o) (hN : n0 + 8 * i + 8 ≤ N) (hv : ostepB T eqt ops (n0 + 8 * i) σ o = some t) : TaskOk P X w0 E0 ops n0 N i o σ t := by
  intro σ' hnt hnx hgl hdf hq hb E a w Q K hg hs hfr hK
  unfold wpOp
  simp only [ho]
  unfold ostepB at hv
  split at hv
  · rename_i hgd
    have hw : Region.wanted o (yielded ops a.tmps) = true := by simp [Region.wanted, hgd]
    rw [if_pos hw]
    refine .inl (aopB_run hT hv (alike_of hgl hq ?_) hnt hnx hN hg hs hfr K Q hK)
    intro k hk
    refine hb k ?_
    unfold aopB at hv
    split at hv
    · split at hv
      · simp at hv; subst hv; exact hk
      · split at hv
        · simp at hv; subst hv; exact hk
        · simp at hv
    · simp at hv
  · rename_i j want hgd
    split at hv
    · rename_i q hj
      split at hv
      · rename_i c hc
        have hc' : alook q σ'.tm = .val (.bool c) := by rw [hq q (guard_onames hgd hj)]; exact hc
        have hy := yielded_of hs hj hc'
        split at hv
        · rename_i hcw
          have hw : Region.wanted o (yielded ops a.tmps) = true := by simp [Region.wanted, hgd, hy, hcw]
          rw [if_pos hw]
          refine .inl (aopB_run hT hv (alike_of hgl hq ?_) hnt hnx hN hg hs hfr K Q hK)
          intro k hk
          refine hb k ?_
          unfold aopB at hv
          split at hv
          · split at hv
            · simp at hv; subst hv; exact hk
            · split at hv
              · simp at hv; subst hv; exact hk
              · simp at hv
          · simp at hv
        · rename_i hcw
          have hw : ¬ Region.wanted o (yielded ops a.tmps) = true := by simp [Region.wanted, hgd, hy, hcw]
          rw [if_neg hw]
          split at hv
          · rename_i hd
            simp at hv
            subst hv
            have hd' : dstOk σ' o.dst = true := by rw [← hd]; unfold dstOk; rw [hnt]
            exact hK E _ w (near_refl _ _) hg (hs.val (dst_lt hd') ⟨[], rfl, rfl⟩ (by omega))
          · simp at hv
      · rename_i hc
        have hc' : alook q σ'.tm = .tup [] := by rw [hq q (guard_onames hgd hj)]; exact hc
        have hy := yielded_undef hs hj hc'
        have hw : ¬ Region.wanted o (yielded ops a.tmps) = true := by simp [Region.wanted, hgd, hy]
        rw [if_neg hw]
        split at hv
        · rename_i hd
          simp at hv
          subst hv
          have hd' : dstOk σ' o.dst = true := by rw [← hd]; unfold dstOk; rw [hnt]
          exact hK E _ w (near_refl _ _) hg (hs.val (dst_lt hd') ⟨[], rfl, rfl⟩ (by omega))
        · simp at hv
      · simp at hv
    · simp at hv

/-- As far as the state decides. -/
def runD (T : TypeId → Option TI) (eqt : List TypeId) (ops : Array Oper) (ms : List (List Nat)) (n0 N : Nat) (done : St → Prop) (stop : Nat → List (Nat × Foot) → List Oper → St → Prop) : Nat → List (Nat × Foot) → List Oper → St → Prop
  | _, _, [], σ => done σ
  | i, acc, o :: l, σ => match ostepB T eqt ops (n0 + 8 * i) σ o with
    | some t => if fine ms i t.foot acc = true then runD T eqt ops ms n0 N done stop (i + 1) (addFoot i t.foot acc) l (σ.app N o.dst t.e) else stop i acc (o :: l) σ
    | none => stop i acc (o :: l) σ

theorem DR_task {ops : Array Oper} {ms : List (List Nat)} {n0 N i : Nat} {acc : List (Nat × Foot)} {σ : St} {o : Oper} {t : Tk} {Q : St → Prop} (ho : ops[i]? = some o) (ht : TaskOk P X w0 E0 ops n0 N i o σ t) (hf : fine ms i t.foot acc = true)
    (h : DR P X w0 E0 ops ms n0 N Q (i + 1) (addFoot i t.foot acc) (σ.app N o.dst t.e)) : DR P X w0 E0 ops ms n0 N Q i acc σ := by
  obtain ⟨ts, σf, hch, hq⟩ := h
  refine ⟨t :: ts, σf, ⟨⟨o, ho, ht⟩, hf, ?_⟩, hq⟩
  have : gslot ops i = o.dst := by simp [gslot, ho]
  rw [this]
  exact hch

theorem DR_done {ops : Array Oper} {ms : List (List Nat)} {n0 N : Nat} {acc : List (Nat × Foot)} {σ : St} {Q : St → Prop} (h : Q σ) : DR P X w0 E0 ops ms n0 N Q ops.size acc σ := ⟨[], σ, ⟨rfl, rfl⟩, h⟩

/-- The rest of a drawn region. -/
def DL (P : Program) (X : Nat → Prop) (w0 : World) (E0 : Env) (ops : Array Oper) (ms : List (List Nat)) (n0 N : Nat) (Q : St → Prop) (i : Nat) (acc : List (Nat × Foot)) (l : List Oper) (σ : St) : Prop := i + l.length = ops.size → l = ops.toList.drop i → DR P X w0 E0 ops ms n0 N Q i acc σ

theorem DL_run (hT : Tab P T eqt) {ops : Array Oper} {ms : List (List Nat)} {n0 N : Nat} (hN : N = n0 + 8 * ops.size) {Q : St → Prop} {D : St → Prop} {K : Nat → List (Nat × Foot) → List Oper → St → Prop} (hD : ∀ σ, D σ → Q σ) (hK : ∀ i acc l σ, K i acc l σ → DL P X w0 E0 ops ms n0 N Q i acc l σ) :
    ∀ (l : List Oper) (i : Nat) (acc : List (Nat × Foot)) (σ : St), runD T eqt ops ms n0 N D K i acc l σ → DL P X w0 E0 ops ms n0 N Q i acc l σ
  | [], i, acc, σ, h => by
    intro hn hl
    simp only [runD] at h
    simp at hn
    subst hn
    exact DR_done (hD σ h)
  | o :: l, i, acc, σ, h => by
    intro hn hl
    simp only [runD] at h
    obtain ⟨h1, h2⟩ := drop_cons hl
    have ho : ops[i]? = some o := by simpa using h1
    simp at hn
    split at h
    · rename_i t ht
      split at h
      · rename_i hf
        exact DR_task ho (ostepB_task hT ho (by omega) ht) hf (DL_run hT hN hD hK l (i + 1) _ _ h (by omega) h2)
      · exact hK _ _ _ _ h (by simpa using hn) hl
    · exact hK _ _ _ _ h (by simpa using hn) hl

/-- A call of a function in a drawn region: its contract says all of what it comes to. -/
theorem DL_call {ops : Array Oper} {ms : List (List Nat)} {n0 N i : Nat} (hN : N = n0 + 8 * ops.size) {acc : List (Nat × Foot)} {o : Oper} {l : List Oper} {σ : St} {Q : St → Prop} {f : Operand} {fargs : Array Operand} {fty : Array TypeId} {K : FuncId} {caps : List AV} {gl' : List (Nat × AV)} {args' : List AV} {io io' nb : List (List AV)} {x : AV} {R : Out → Prop}
    (ho : o.op = .call ⟨.value f, fargs, fty⟩) (hgd : o.guard = none) (hd : dstOk σ o.dst = true) (hf : σ.ev f = .clo K caps) (hen : Enters P K) (hspec : Spec P gl' K args' io R) (hR : ∀ out, R out → out = .ret x io' nb)
    (ios lb : List Nat) (hlen : ios.length = io.length) (hlen' : io'.length = io.length) (hnd : ios.Nodup) (hne : ∀ cs ∈ io, cs ≠ [])
    (hargs : (evs σ fargs.toList ++ caps).map (lendA (lentBx lb σ)) = AVs.map (ioMap N ios) args')
    (hio : ∀ (j k : Nat) (cs : List AV), ios[j]? = some k → io[j]? = some cs → blook k σ.bx = some (AVs.map (ioMap N ios) cs))
    (hlb : ∀ k ∈ lb, (blook k σ.bx).isSome ∧ k ∉ ios)
    (hgl : ∀ p ∈ gl', alook p.1 σ.gl = p.2.map (ioMap N ios))
    (hkept : (lb.isEmpty || keptAll x io' nb) = true) (hnb : nb.length ≤ 8)
    (hfine : fine ms i (ios ++ (newIo (gMap (n0 + 8 * i) ios) (n0 + 8 * i) nb).map (·.1), ios ++ lb) acc = true)
    (h : DL P X w0 E0 ops ms n0 N Q (i + 1) (addFoot i (ios ++ (newIo (gMap (n0 + 8 * i) ios) (n0 + 8 * i) nb).map (·.1), ios ++ lb) acc) l (σ.behindB (n0 + 8 * i) N (tput o.dst (x.map (gMap (n0 + 8 * i) ios)) σ.tm) ios io' nb)) :
    DL P X w0 E0 ops ms n0 N Q i acc (o :: l) σ := by
  intro hn hl
  obtain ⟨h1, h2⟩ := drop_cons hl
  have hoi : ops[i]? = some o := by simpa using h1
  simp at hn
  have hb8 : n0 + 8 * i + 8 ≤ N := by omega
  let b := n0 + 8 * i
  let t : Tk := ⟨⟨x.map (gMap b ios), zipIo (gMap b ios) ios io' ++ newIo (gMap b ios) b nb⟩, ios ++ lb⟩
  have zk : ∀ (ios : List Nat) (io' : List (List AV)) (g : Nat → Nat), ios.length = io'.length → (zipIo g ios io').map (·.1) = ios := by
    intro ios
    induction ios with
    | nil => intro io' g h; cases io' <;> simp [zipIo]
    | cons k ks ih =>
      intro io' g h
      cases io' with
      | nil => simp at h
      | cons c cs => simp [zipIo, ih cs g (by simpa using h)]
  have hfoot : t.foot = (ios ++ (newIo (gMap b ios) b nb).map (·.1), ios ++ lb) := by
    show (List.map _ (zipIo _ _ _ ++ _), _) = _
    rw [List.map_append, zk ios io' _ (by omega)]
  have hbeh : σ.behindB b N (tput o.dst (x.map (gMap b ios)) σ.tm) ios io' nb = σ.app N o.dst t.e := by
    simp only [St.behindB, St.app, t, List.append_assoc]
  refine DR_task hoi (t := t) ?_ (by rw [hfoot]; exact hfine) (by rw [hfoot, ← hbeh]; exact h (by omega) h2)
  intro σ' hnt hnx hgl' hdf hq hbx E a w Q' K' hg hs hfr hK
  have evEq : ∀ y ∈ o.op.operands.toList, σ'.ev y = σ.ev y := by
    intro y hy
    cases y with
    | tmp t => exact hq t (operand_onames hy)
    | const v => rfl
    | global g => simp only [St.ev, hgl']
    | func f => rfl
  have hf' : σ'.ev f = .clo K caps := by rw [evEq f (by rw [ho]; simp [Op.operands, Call.operands]), hf]
  have hevs : evs σ' fargs.toList = evs σ fargs.toList := evs_congr fun y hy => evEq y (by rw [ho]; simp [Op.operands, Call.operands]; exact .inr (by simpa using hy))
  obtain ⟨cvs, hcm, hrun⟩ := run_enter (P := P) hs ho hf' hen
  have hlook : ∀ k, k ∈ ios ++ lb → blook k σ'.bx = blook k σ.bx := hbx
  have hlent : ∀ y, lendA (lentBx lb σ') y = lendA (lentBx lb σ) y := by
    have : lentBx lb σ' = lentBx lb σ := by
      funext k
      unfold lentBx
      split
      · rename_i hc; exact hlook k (by simp; exact .inr (by simpa using hc))
      · rfl
    intro y
    rw [this]
  obtain ⟨post, hcall, hpost⟩ := call_core hg hs (b := b) (N := N) hfr (by omega) hb8 hcm hspec ios lb hlen hnd hne
    (by rw [hevs, hnx]; rw [← hargs]; exact List.map_congr_left fun y _ => hlent y)
    (by
      intro j k cs hj hc
      rw [hlook k (by simp; exact .inl (List.mem_of_getElem? hj)), hnx]
      exact hio j k cs hj hc)
    (by
      intro k hk
      rw [hlook k (by simp [hk])]
      exact hlb k hk)
    (by intro p hp; rw [hgl', hnx]; exact hgl p hp)
  unfold wpOp
  simp only [hoi]
  have hw : Region.wanted o (yielded ops a.tmps) = true := by simp [Region.wanted, hgd]
  rw [if_pos hw]
  refine .inl ?_
  unfold Oper.wp
  rw [hrun, Oper.upon_enter]
  refine Calls.mono hcall ?_
  intro e w' he
  obtain ⟨out, hRo, hout⟩ := hpost e w' he
  have hout' := hR out hRo
  subst hout'
  obtain ⟨v, rfl, hle, hk⟩ := hout
  have hd' : dstOk σ' o.dst = true := by rw [← hd]; unfold dstOk; rw [hnt]
  obtain ⟨E2, hn2, hg2, hs2⟩ := hk hkept hnb o.dst hd'
  refine hK E2 _ _ hn2 hg2 ?_
  have : σ'.behindB b N (tput o.dst (x.map (gMap b ios)) σ'.tm) ios io' nb = σ'.app N o.dst t.e := by
    simp only [St.behindB, St.app, t, List.append_assoc]
  rw [← this]
  exact hs2

/-- A drawn region and what follows it. -/
theorem AW_dreg (hT : Tab P T eqt) (hm : P.follows .mixedOrders = true) {id : Nat} {ops : Array Oper} {y : Code} {σ : St} {Q : Exit → St → Prop} (ms : List (List Nat)) (hms : ancGo ops.toList [] = ms) (hst : statOk ops ms = true)
    (h : ∀ D K, (∀ σ', AW P X w0 E0 y σ' Q → D σ') → (∀ i acc l σ', DL P X w0 E0 ops ms σ.nx (σ.nx + 8 * ops.size) (fun σ' => AW P X w0 E0 y σ' Q) i acc l σ' → K i acc l σ') →
      runD T eqt ops ms σ.nx (σ.nx + 8 * ops.size) D K 0 [] ops.toList { σ with nx := σ.nx + 8 * ops.size }) : AW P X w0 E0 (.seq (.region id ops true) y) σ Q :=
  AW_seq (AW_draw hm hms hst (DL_run hT rfl (fun _ h => h) (fun _ _ _ _ h => h) _ 0 [] _ (h (fun σ' => AW P X w0 E0 y σ' Q) _ (fun _ h => h) (fun _ _ _ _ h => h)) (by simp) (by simp)))

/-- A drawn region that ends a piece. -/
theorem AW_dregl (hT : Tab P T eqt) (hm : P.follows .mixedOrders = true) {id : Nat} {ops : Array Oper} {σ : St} {Q : Exit → St → Prop} (ms : List (List Nat)) (hms : ancGo ops.toList [] = ms) (hst : statOk ops ms = true)
    (h : ∀ D K, (∀ σ', Q .normal σ' → D σ') → (∀ i acc l σ', DL P X w0 E0 ops ms σ.nx (σ.nx + 8 * ops.size) (Q .normal) i acc l σ' → K i acc l σ') →
      runD T eqt ops ms σ.nx (σ.nx + 8 * ops.size) D K 0 [] ops.toList { σ with nx := σ.nx + 8 * ops.size }) : AW P X w0 E0 (.region id ops true) σ Q :=
  AW_draw hm hms hst (DL_run hT rfl (fun _ h => h) (fun _ _ _ _ h => h) _ 0 [] _ (h (Q .normal) _ (fun _ h => h) (fun _ _ _ _ h => h)) (by simp) (by simp))

end
end
end Go.Proofs.Ytdnmnafadondkaa
