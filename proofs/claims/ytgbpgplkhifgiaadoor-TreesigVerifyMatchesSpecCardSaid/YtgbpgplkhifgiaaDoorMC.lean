/- Panics, deferred calls, recover; forgetting. No condition. -/
import Derived.Test.YtgbpgplkhifgiaaDoorMB
import Derived.Recover
import Derived.Scope
import Derived.LoopNIn
import Derived.RangeFuncRecord
set_option linter.unusedVariables false
set_option linter.unusedSimpArgs false
namespace Go.Proofs.YtgbpgplkhifgiaaDoor
open Go Go.RowKit

mutual
def AV.conc : AV → Option Value
  | .val v => some v
  | .agg cs => (AVs.conc cs).map fun vs => .agg ⟨vs⟩
  | .ifc t x => x.conc.map (.iface t)
  | _ => none
def AVs.conc : List AV → Option (List Value)
  | [] => some []
  | x :: l => match x.conc, AVs.conc l with
    | some v, some vs => some (v :: vs)
    | _, _ => none
end

section
variable {P : Program} {X : Nat → Prop} {w0 : World} {E0 : Env} {T : TypeId → Option TI} {eqt : List TypeId}

mutual
theorem M.conc {w : World} {E : Env} : ∀ (x : AV) (v u : Value), x.conc = some v → M w E x u → u = v
  | .val y, v, u, h, hm => by simp [AV.conc] at h; subst h; exact hm
  | .agg cs, v, u, h, hm => by
    simp [AV.conc] at h
    obtain ⟨vs, h1, rfl⟩ := h
    obtain ⟨us, rfl, h2⟩ := hm
    rw [Ms.conc cs vs us h1 h2]
  | .ifc t x, v, u, h, hm => by
    simp [AV.conc] at h
    obtain ⟨y, h1, rfl⟩ := h
    obtain ⟨z, rfl, h2⟩ := hm
    rw [M.conc x y z h1 h2]
  | .any, _, _, h, _ => by simp [AV.conc] at h
  | .ptr _ _, _, _, h, _ => by simp [AV.conc] at h
  | .sl _ _ _ _ _, _, _, h, _ => by simp [AV.conc] at h
  | .ds _ _ _, _, _, h, _ => by simp [AV.conc] at h
  | .dp _ _, _, _, h, _ => by simp [AV.conc] at h
  | .tup _, _, _, h, _ => by simp [AV.conc] at h
  | .clo _ _, _, _, h, _ => by simp [AV.conc] at h
  | .yld _ _, _, _, h, _ => by simp [AV.conc] at h
theorem Ms.conc {w : World} {E : Env} : ∀ (cs : List AV) (vs us : List Value), AVs.conc cs = some vs → Ms w E cs us → us = vs
  | [], vs, us, h, hm => by simp [AVs.conc] at h; subst h; exact hm
  | x :: l, vs, us, h, hm => by
    simp only [AVs.conc] at h
    split at h
    · rename_i v vs' h1 h2
      simp at h
      subst h
      obtain ⟨u, us', rfl, h3, h4⟩ := hm
      rw [M.conc x v u h1 h3, Ms.conc l vs' us' h2 h4]
    · simp at h
end

theorem AL_panic {ops : Array Oper} {o : Oper} {l : List Oper} {σ : St} {Q : Exit → St → Prop} {x : Operand} {t : TypeId} {y : Value} (ho : o.op = .panic x) (hgd : o.guard = none)
    (hc : (σ.ev x).conc = some (.iface t y)) (hq : Q (.panic [{ v := .iface t y, recovered := false }]) σ) : AL P X w0 E0 ops (o :: l) σ Q := by
  intro i hi E a w hg hs
  obtain ⟨hoi, hl⟩ := drop_cons hi
  have ho' : ops[i]? = some o := by simpa using hoi
  simp only [List.length_cons, List.range', wpOpsIn, ho']
  have hw : Region.wanted o (yielded ops a.tmps) = true := by simp [Region.wanted, hgd]
  rw [if_pos hw]
  have hv := M.conc _ _ _ hc (hs.ev x)
  have hrun : (execOp a.eval o).run P w = .halt (.panic (.iface t y)) w := by
    simp only [execOp, ho, hv]
    simp [Instr.panic, goPanic, Sem.halt]
  refine oper_fr (by rw [ho]; intro c; simp) ?_
  rw [hrun, Oper.upon_panic]
  exact ⟨E, σ, hq, hg, hs⟩

theorem AL_defer (hro : ∀ l, E0.ro ≠ .rnd l) {ops : Array Oper} {o : Oper} {l : List Oper} {σ : St} {Q : Exit → St → Prop} {f : Operand} {K : FuncId} {caps : List AV} (ho : o.op = .defer ⟨.value f, #[], #[]⟩) (hgd : o.guard = none) (hd : o.dst = none)
    (hf : σ.ev f = .clo K caps) (h : AL P X w0 E0 ops l { σ with df := (K, caps) :: σ.df } Q) : AL P X w0 E0 ops (o :: l) σ Q := by
  intro i hi E a w hg hs
  obtain ⟨hoi, hl⟩ := drop_cons hi
  have ho' : ops[i]? = some o := by simpa using hoi
  simp only [List.length_cons, List.range', wpOpsIn, ho']
  have hw : Region.wanted o (yielded ops a.tmps) = true := by simp [Region.wanted, hgd]
  rw [if_pos hw]
  have hfv := hs.ev f
  rw [hf] at hfv
  obtain ⟨cvs, hfe, hcm⟩ := hfv
  have hrun : (execOp a.eval o).run P w = .ok (.defer { target := .fn (.func K) ⟨cvs⟩, args := #[] }) w := by
    have e : (#[] : Array Value) ++ (#[] : Array Operand).map a.eval = #[] := by simp
    simp only [execOp, ho, resolve, hfe, Deferred.ofValue, Sem.run_bind, Sem.run_pure, Result.andThen_ok]
    rw [e]
  have hr : (FrO E0.ro).round = none := by
    cases hm : E0.ro with
    | rnd l => exact absurd hm (hro l)
    | _ => rfl
  refine ⟨fun _ _ => frO_fn _ _, ?_⟩
  rw [hr, Oper.semAt_none, hrun, Oper.uponIn_defer, hd]
  refine h (i + 1) hl E _ w hg ⟨hs.nt, hs.tm, hs.gl, hs.bx, hs.own, hs.inj, hs.lim, hs.keep, hs.rw, hs.fr, hs.px, ?_⟩
  exact .inr ⟨K, caps, _, cvs, rfl, rfl, hcm, hs.df⟩

/-! ### Deferred closures -/

/-- A deferred call, entered in mode u and left in mode U. -/
def CallsDm (P : Program) (F : FuncId) (u U : FrameMode) (args : Array Value) (w : World) (R : Ending → World → Prop) : Prop := CallsD P F args u w fun e u' w' => u' = U ∧ R e w'

/-- A frame that defers or is deferred bears no mark. -/
theorem Md.nomark {w0 w : World} {E : Env} (h : E.ro = .dfr) {l : List (FuncId × List AV)} {ds : List Deferred} (hm : Md w0 w E l ds) :
    (l = [] → ds = []) ∧ ∀ f caps l', l = (f, caps) :: l' → ∃ vs ds', ds = { target := .fn (.func f) ⟨vs⟩, args := #[] } :: ds' ∧ Ms w E caps vs ∧ Md w0 w E l' ds' := by
  cases ds with
  | nil => exact ⟨fun _ => rfl, fun f caps l' e => by have : l = [] := hm; rw [this] at e; simp at e⟩
  | cons d ds =>
    rcases hm with ⟨ho, _⟩ | ⟨f, caps, l', vs, e1, e2, h1, h2⟩
    · rw [h] at ho; simp at ho
    · refine ⟨fun e => by rw [e] at e1; simp at e1, fun f2 caps2 l2 e => ?_⟩
      rw [e] at e1
      simp at e1
      obtain ⟨⟨rfl, rfl⟩, rfl⟩ := e1
      exact ⟨vs, ds, by rw [e2], h1, h2⟩

/-- The end of a frame with one deferred closure. -/
def RetD (P : Program) (T : TypeId → Option TI) (rs : List ResultVar) (m : Nat) (R : Out → Prop) (u : FrameMode) (σ : St) : Prop :=
  ∃ F caps U gl' args' io R' ios, σ.df = [(F, caps)] ∧ u ≠ .run ∧ settle U = .returning ∧ Enters P F ∧ SpecG (CallsDm P F u U) gl' args' io R' ∧
    ios.length = io.length ∧ ios.Nodup ∧ (∀ cs ∈ io, cs ≠ []) ∧ caps.map (lendA (lentBx [] σ)) = AVs.map (ioMap σ.nx ios) args' ∧
    (∀ (j k : Nat) (cs : List AV), ios[j]? = some k → io[j]? = some cs → blook k σ.bx = some (AVs.map (ioMap σ.nx ios) cs)) ∧ (∀ p ∈ gl', alook p.1 σ.gl = p.2.map (ioMap σ.nx ios)) ∧
    ∀ out, R' out → ∃ x io' nb, out = .ret x io' nb ∧ nb.length ≤ 8 ∧ (io'.length = io.length → RetV T rs m R { σ.behind σ.tm ios io' nb with df := [] })

def RetDQ (P : Program) (T : TypeId → Option TI) (rs : List ResultVar) (m : Nat) (R : Out → Prop) : Exit → St → Prop
  | .normal, σ => RetD P T rs m R .returning σ
  | .ret, σ => RetD P T rs m R .returning σ
  | .panic chain, σ => RetD P T rs m R (.panicking chain) σ
  | _, _ => False

theorem spec_of_defer (hT : Tab P T eqt) {gl : List (Nat × AV)} {K : FuncId} {fn : Func} {c : Code} {args : List AV} {io : List (List AV)} {R : Out → Prop} (n : Nat) (rs : List ResultVar)
    (hf : P.funcs[K]? = some fn) (hb : fn.body = some c) (hnt : fn.ntmps = n) (hr : fn.results.toList = rs) (hn : args.length ≤ n)
    (h : ∀ (X : Nat → Prop) (w0 : World) (E0 : Env), (∀ l, E0.ro ≠ .rnd l) → Low E0 io.length → (∀ g, X g → ∃ k, k < io.length ∧ E0.bl k = some g) → AW P X w0 E0 c { nt := n, nx := io.length, tm := idx 0 args, bx := idx 0 (io.map some), gl := gl, df := [] } (RetDQ P T rs io.length R)) : Spec P gl K args io R := by
  subst hnt; subst hr
  intro E w vs hm hgl hio hlim hlow hpx
  refine calls_of_wp_defers hf hb ?_
  have hl := hm.len
  have st := stays_ro w E .dfr
  have hm := Ms.stays st _ _ hm
  have hgl := fun g => M.stays st _ _ (hgl g)
  have hio := hio.ro .dfr
  let X : Nat → Prop := fun g => ∃ k, k < io.length ∧ E.bl k = some g
  have bk : ∀ k, blook k (entry fn gl args io).bx = io[k]? := fun k => by
    show blook k (idx 0 (io.map some)) = _
    rw [blook_idx 0 k]; simp
  have lt_of : ∀ k, (blook k (entry fn gl args io).bx).isSome → k < io.length := fun k hk => by
    rw [bk] at hk
    rcases Nat.lt_or_ge k io.length with h1 | h1
    · exact h1
    · simp [List.getElem?_eq_none h1] at hk
  have hsim : Sim X w { E with ro := .dfr } (entry fn gl args io) { tmps := (⟨vs⟩ : Array Value) ++ Array.replicate (fn.ntmps - (⟨vs⟩ : Array Value).size) undef, defers := [] } w := by
    refine ⟨by simp [entry]; omega, fun t => ?_, hgl, fun k cs hk => hio.bx k cs (by rw [← bk]; exact hk), fun k g hk hg => ⟨(hio.own k g (lt_of k hk) hg).1, (hio.own k g (lt_of k hk) hg).2, .inr ⟨k, lt_of k hk, hg⟩⟩,
      fun k k' g hk hk' => hio.inj k k' g (lt_of k hk) (lt_of k' hk'), hlim, Keeps.refl _ _, fun _ _ h => h, hlow, hpx, rfl⟩
    have := alook_idx (w := w) (E := { E with ro := .dfr }) 0 hm t undef
    rw [getD_entry]
    simpa [entry] using this
  refine (wpIn_fr (m := .dfr) (n := 0) (by simp)).1 (wpIn_mono (h X w { E with ro := .dfr } (by simp) hlow (fun _ h => h) { E with ro := .dfr } _ w (Grow.refl _ _) hsim) ?_)
  rintro e a' w' ⟨E', σ', q, hg', hs'⟩
  have leave : ∀ u, RetD P T fn.results.toList io.length R u σ' → Leaves P fn a'.tmps (fun e w' => ∃ out E', R out ∧ match out with
      | .ret x io' nb => (∃ v, e = .returned v ∧ M w' E' x v) ∧ After w E w' E' io.length io' nb
      | .pan v io' => e = .panicked [{ v, recovered := false }] ∧ After w E w' E' io.length io' []) a'.defers u w' := by
    rintro u ⟨F, caps, U, gl', args', io2, R', ios, hdf, hu, hset, hen, hspec, hlen, hnd, hne, hargs, hio2, hgl2, hout⟩
    obtain ⟨cvs, ds', hds, hcm, hnil⟩ := (hs'.df.nomark hg'.ro).2 _ _ _ hdf
    obtain rfl := (hnil.nomark hg'.ro).1 rfl
    rw [hds]
    obtain ⟨post, hcall, hpost⟩ := call_core hg' hs' (b := σ'.nx) (N := σ'.nx + 8) (fun k hk _ => hs'.fr k hk) (by omega) (by omega) (fargs := []) hcm hspec ios [] hlen hnd hne
      (by simpa [evs] using hargs) hio2 (by simp) hgl2
    have hinv : (invoke (.fn (.func F) ⟨cvs⟩) #[]).run P w' = .ok (.enter F ⟨cvs⟩) w' := by
      have e2 : (#[] : Array Value) ++ (⟨cvs⟩ : Array Value) = ⟨cvs⟩ := by simp
      simp only [invoke]
      rw [e2]
      exact hen _ _
    refine leaves_cons hu hinv ?_
    have hcall' : CallsD P F ⟨cvs⟩ u w' fun e u' w'' => u' = U ∧ post e w'' := by simpa [CallsDm] using hcall
    refine CallsD.mono hcall' ?_
    rintro e u' w'' ⟨rfl, he⟩
    obtain ⟨out, hR', ho⟩ := hpost e w'' he
    obtain ⟨x, io', nb, rfl, hnb, hret⟩ := hout out hR'
    obtain ⟨v, rfl, hle, hk⟩ := ho
    obtain ⟨E2, _, hg2, hs2⟩ := hk (by simp) hnb none rfl
    obtain ⟨x2, io2', nb2, l, hlen2, hres, hsub, hR⟩ := hret hle
    simp only [hset, Leaves]
    have hs3 : Sim X w E2 { σ'.behind σ'.tm ios io' nb with df := [] } { a' with defers := [] } w'' :=
      ⟨hs2.nt, hs2.tm, hs2.gl, hs2.bx, hs2.own, hs2.inj, hs2.lim, hs2.keep, hs2.rw, hs2.fr, hs2.px, rfl⟩
    obtain ⟨v2, hr2, hmv⟩ := run_resOf hT hs3 hres
    obtain ⟨hg4, hs4⟩ := hs3.sub hg2 hsub hlow
    exact ⟨v2, hr2, .ret x2 io2' nb2, _, hR, ⟨v2, rfl, M.stays (stays_ro _ _ _) _ _ (M.unmap (Env.named w'' E2 (nmap _ l)) x2 v2 hmv)⟩, (After.of_sim hlen2 hg4 hs4).of_ro⟩
  cases e with
  | normal => exact leave .returning q
  | ret => exact leave .returning q
  | panic chain => exact leave (.panicking chain) q
  | _ => exact q.elim

/-- A deferred closure that first recovers. -/
theorem specD_of (hT : Tab P T eqt) {gl : List (Nat × AV)} {K : FuncId} {fn : Func} {c : Code} {id : Nat} {o : Oper} {args : List AV} {io : List (List AV)} {R : Out → Prop} (n : Nat) (rs : List ResultVar) {u U : FrameMode} {rv : Value} {t : Tmp}
    (hf : P.funcs[K]? = some fn) (hb : fn.body = some (.seq (.region id #[o] false) c)) (hnt : fn.ntmps = n) (hr : fn.results.toList = rs) (hn : args.length ≤ n)
    (ho : o.op = .call ⟨.builtin .recover, #[], #[]⟩) (hgd : o.guard = none) (hd : o.dst = some t) (ht : t < n)
    (hrec : ∀ (c₀ : Frame) (cs : List Frame), c₀.mode = u → (match recoverD (c₀ :: cs) with | some (v, cs') => v = rv ∧ cs' = { c₀ with mode := U } :: cs | none => rv = .nilIface ∧ U = u))
    (h : ∀ (X : Nat → Prop) (w0 : World) (E0 : Env), Low E0 io.length → (∀ g, X g → ∃ k, k < io.length ∧ E0.bl k = some g) → AW P X w0 E0 c { nt := n, nx := io.length, tm := (t, .val rv) :: idx 0 args, bx := idx 0 (io.map some), gl := gl, df := [] } (Ret T rs io.length R)) : SpecG (CallsDm P K u U) gl args io R := by
  subst hnt; subst hr
  intro E w vs hm hgl hio hlim hlow hpx
  have hl := hm.len
  have st := stays_ro w E .dfr
  have hm := Ms.stays st _ _ hm
  have hgl := fun g => M.stays st _ _ (hgl g)
  have hio := hio.ro .dfr
  let X : Nat → Prop := fun g => ∃ k, k < io.length ∧ E.bl k = some g
  have bk : ∀ k, blook k (entry fn gl args io).bx = io[k]? := fun k => by
    show blook k (idx 0 (io.map some)) = _
    rw [blook_idx 0 k]; simp
  have lt_of : ∀ k, (blook k (entry fn gl args io).bx).isSome → k < io.length := fun k hk => by
    rw [bk] at hk
    rcases Nat.lt_or_ge k io.length with h1 | h1
    · exact h1
    · simp [List.getElem?_eq_none h1] at hk
  have hsim : Sim X w { E with ro := .dfr } (entry fn gl args io) { tmps := (⟨vs⟩ : Array Value) ++ Array.replicate (fn.ntmps - (⟨vs⟩ : Array Value).size) undef, defers := [] } w := by
    refine ⟨by simp [entry]; omega, fun t => ?_, hgl, fun k cs hk => hio.bx k cs (by rw [← bk]; exact hk), fun k g hk hg => ⟨(hio.own k g (lt_of k hk) hg).1, (hio.own k g (lt_of k hk) hg).2, .inr ⟨k, lt_of k hk, hg⟩⟩,
      fun k k' g hk hk' => hio.inj k k' g (lt_of k hk) (lt_of k' hk'), hlim, Keeps.refl _ _, fun _ _ h => h, hlow, hpx, rfl⟩
    have := alook_idx (w := w) (E := { E with ro := .dfr }) 0 hm t undef
    rw [getD_entry]
    simpa [entry] using this
  refine callsD_of_wpS hf hb ?_
  intro c₀ cs hu
  refine wpS_seq (wpS_region ?_)
  have hrun : ∀ a : Act, (execOp a.eval o).run P w = .ok .recover w := by
    intro a
    simp only [execOp, ho]
    rfl
  have hw : ∀ a : Array Value, Region.wanted o (yielded #[o] a) = true := fun a => by simp [Region.wanted, hgd]
  have hsim2 := (hsim.val (d := some t) (x := .val rv) (v := rv) (nx := io.length) (by intro t' ht'; simp at ht'; subst ht'; exact ht) rfl (Nat.le_refl _))
  have cont : ∀ cs', cs' = { c₀ with mode := U } :: cs → c.wpS P (bodyPostS P fn c₀ cs fun e u' w' => u' = U ∧ ∃ out E', R out ∧ match out with
      | .ret x io' nb => (∃ v, e = .returned v ∧ M w' E' x v) ∧ After w E w' E' io.length io' nb
      | .pan v io' => e = .panicked [{ v, recovered := false }] ∧ After w E w' E' io.length io' [])
      (({ tmps := (⟨vs⟩ : Array Value) ++ Array.replicate (fn.ntmps - (⟨vs⟩ : Array Value).size) undef, defers := [] } : Act).put o.dst rv) cs' w := by
    intro cs' hcs
    subst hcs
    refine wpS_of_wp ((wpIn_fr (m := .dfr) (n := 0) (by simp)).1 (wpIn_mono (h X w { E with ro := .dfr } hlow (fun _ h => h) { E with ro := .dfr } _ w (Grow.refl _ _) (by rw [hd]; exact hsim2)) ?_))
    rintro e a' w' ⟨E', σ', q, hg', hs'⟩
    have hdf : σ'.df = [] → a'.defers = [] := (hs'.df.nomark hg'.ro).1
    have back : RetV T fn.results.toList io.length R σ' → bodyPostS P fn c₀ cs (fun e u' w' => u' = U ∧ ∃ out E', R out ∧ match out with
        | .ret x io' nb => (∃ v, e = .returned v ∧ M w' E' x v) ∧ After w E w' E' io.length io' nb
        | .pan v io' => e = .panicked [{ v, recovered := false }] ∧ After w E w' E' io.length io' []) .ret a' ({ c₀ with mode := U } :: cs) w' := by
      rintro ⟨x, io', nb, l, hlen, hres, hsub, hR⟩
      obtain ⟨v, hr, hmv⟩ := run_resOf hT hs' hres
      obtain ⟨hg2, hs2⟩ := hs'.sub hg' hsub hlow
      exact ⟨hdf hsub.df.1, U, rfl, v, hr, rfl, .ret x io' nb, _, hR, ⟨v, rfl, M.stays (stays_ro _ _ _) _ _ (M.unmap (Env.named w' E' (nmap σ'.nx l)) x v hmv)⟩, (After.of_sim hlen hg2 hs2).of_ro⟩
    cases e with
    | normal => exact back q
    | ret => exact back q
    | panic chain =>
      obtain ⟨v, rfl, io', l, hlen, hsub, hR⟩ := q
      obtain ⟨hg2, hs2⟩ := hs'.sub hg' hsub hlow
      exact ⟨hdf hsub.df.1, U, rfl, rfl, .pan v io', _, hR, rfl, (After.of_sim hlen hg2 hs2).of_ro⟩
    | _ => exact q.elim
  have hr := hrec c₀ cs hu
  have e1 : List.range (#[o] : Array Oper).size = [0] := rfl
  have e2 : (#[o] : Array Oper)[0]? = some o := rfl
  rw [e1]
  simp only [wpOpsS, e2]
  rw [if_pos (hw _)]
  simp only [hrun]
  split at hr
  · rename_i v cs' hrr
    obtain ⟨rfl, rfl⟩ := hr
    rw [hrr]
    exact cont _ rfl
  · rename_i hrr
    obtain ⟨rfl, rfl⟩ := hr
    rw [hrr]
    refine cont _ ?_
    subst hu
    rfl

/-! ### Forgetting -/

def St.keepTm (σ : St) (ks : List Nat) : St := { σ with tm := σ.tm.filter fun p => ks.contains p.1 }

theorem alook_filter {ks : List Nat} {q : Nat} : ∀ {l : List (Nat × AV)}, alook q (l.filter fun p => ks.contains p.1) = if ks.contains q = true then alook q l else .any
  | [] => by simp [alook]
  | (s, x) :: l => by
    rw [List.filter_cons]
    by_cases h : ks.contains s = true
    · rw [if_pos h]
      simp only [alook]
      by_cases hq : q = s
      · subst hq; simp only [if_true]; rw [if_pos h]
      · rw [if_neg hq, if_neg hq, alook_filter]
    · rw [if_neg h, alook_filter]
      simp only [alook]
      by_cases hq : q = s
      · subst hq; rw [if_neg h, if_neg h]
      · rw [if_neg hq]

/-- Only the slots ks are looked at from here on. -/
theorem AW_keep (ks : List Nat) {c : Code} {σ : St} {Q : Exit → St → Prop} (h : AW P X w0 E0 c { σ with tm := σ.tm.filter fun p => ks.contains p.1 } Q) : AW P X w0 E0 c σ Q := by
  intro E a w hg hs
  refine h E a w hg ⟨hs.nt, fun t => ?_, hs.gl, hs.bx, hs.own, hs.inj, hs.lim, hs.keep, hs.rw, hs.fr, hs.px, hs.df⟩
  simp only [alook_filter]
  split
  · exact hs.tm t
  · trivial

end
end Go.Proofs.YtgbpgplkhifgiaaDoor

/- Small laws that the walks use. No condition. -/
set_option linter.unusedVariables false
set_option linter.unusedSimpArgs false
namespace Go.Proofs.YtgbpgplkhifgiaaDoor
open Go Go.RowKit

abbrev iv (n : Int) : AV := .val (.int .i64 n)
abbrev bv (b : Bool) : AV := .val (.bool b)
abbrev yv (n : Int) : AV := .val (.int .u8 n)
abbrev sv (s : ByteArray) : AV := .val (.string s)

theorem wrap_i64 {x : Int} (h1 : -9223372036854775808 ≤ x) (h2 : x < 9223372036854775808) : IntKind.i64.wrap x = x := by
  simp only [IntKind.wrap, IntKind.signed, IntKind.bits]; simp; omega

theorem wrap_u8 {x : Int} (h1 : 0 ≤ x) (h2 : x < 256) : IntKind.u8.wrap x = x := by
  simp only [IntKind.wrap, IntKind.signed, IntKind.bits]; simp; omega

theorem AVs_map_eq {f : Nat → Nat} : ∀ {l : List AV}, (∀ x ∈ l, x.map f = x) → AVs.map f l = l
  | [], _ => rfl
  | x :: l, h => by simp only [AVs.map]; rw [h x (by simp), AVs_map_eq (fun y hy => h y (by simp [hy]))]

theorem AVs_map_map {α : Type} {f : Nat → Nat} {g : α → AV} (hg : ∀ a, (g a).map f = g a) (l : List α) : AVs.map f (l.map g) = l.map g :=
  AVs_map_eq fun x hx => by obtain ⟨a, _, rfl⟩ := List.mem_map.1 hx; exact hg a

theorem drop_head {α : Type} {l : List α} {i : Nat} (h : i < l.length) : (l.drop i)[0]? = l[i]? := by simp

theorem loadC_one {ti : TI} {cs : List AV} {off : Nat} {x : AV} (hd : ti.d.isAgg = false) (hx : cs[off]? = some x) (hk : x.known = some x) : loadC ti cs off = some x := by
  unfold loadC
  rw [hd, hx]
  cases x <;> simp [AV.known] at hk ⊢

theorem cast_lit0 : ((0 : Nat) : Int) = 0 := rfl
theorem cast_lit1 : ((1 : Nat) : Int) = 1 := rfl
theorem cast_lit2 : ((2 : Nat) : Int) = 2 := rfl
theorem cast_lit3 : ((3 : Nat) : Int) = 3 := rfl
theorem zero_le_true (n : Nat) : (0 ≤ n) = True := by simp

end Go.Proofs.YtgbpgplkhifgiaaDoor

/- Boxes that are only read from here on; calls whose contracts say one thing. No condition. -/
set_option linter.unusedVariables false
set_option linter.unusedSimpArgs false
namespace Go.Proofs.YtgbpgplkhifgiaaDoor
open Go Go.RowKit

mutual
def frz (k : Nat) (cs : List AV) : AV → AV
  | .sl j off n z gr => if j = k then .ds true n ((cs.drop off).take (n * z)) else .sl j off n z gr
  | .ptr j off => if j = k then .dp true (cs.drop off) else .ptr j off
  | .ds b n l => .ds b n (frzs k cs l)
  | .dp b l => .dp b (frzs k cs l)
  | .agg l => .agg (frzs k cs l)
  | .tup l => .tup (frzs k cs l)
  | .clo f l => .clo f (frzs k cs l)
  | .ifc t x => .ifc t (frz k cs x)
  | .any => .any
  | .val v => .val v
  | .yld c l => .yld c (frzs k cs l)
def frzs (k : Nat) (cs : List AV) : List AV → List AV
  | [] => []
  | x :: l => frz k cs x :: frzs k cs l
end

def Env.frz (E : Env) (k : Nat) : Env := { E with S := fun g => E.S g ∨ E.bl k = some g }

def St.freeze (σ : St) (k : Nat) (cs : List AV) : St :=
  { σ with tm := σ.tm.map fun p => (p.1, frz k cs p.2), bx := (k, none) :: σ.bx.map fun p => (p.1, p.2.map (frzs k cs)) }

section
variable {P : Program} {X : Nat → Prop} {w0 : World} {E0 : Env} {T : TypeId → Option TI} {eqt : List TypeId}

theorem Stays.frz {w : World} {E : Env} {k : Nat} : Stays w E w (E.frz k) := ⟨fun _ _ h => h, fun _ h => h, fun _ h => .inl h, fun _ h => h, fun _ _ h => h, fun _ _ => rfl⟩

mutual
theorem M.frz {w : World} {E : Env} {k : Nat} {cs : List AV} (hb : boxAt w E k cs) (hp : E.ph k → E.bl k = none) : ∀ (x : AV) (v : Value), M w E x v → M w (E.frz k) (frz k cs x) v
  | .any, _, _ => trivial
  | .val _, _, hm => hm
  | .ptr j off, v, hm => by
    simp only [Go.Proofs.YtgbpgplkhifgiaaDoor.frz]
    split
    · rename_i h
      subst h
      obtain ⟨g, hg, rfl⟩ := hm
      rcases hb with ⟨h1, _⟩ | ⟨g', c, ty, vs, h1, h2, h3, h4, h5⟩
      · rw [hp h1] at hg; simp at hg
      · obtain rfl : g = g' := by rw [hg] at h1; simpa using h1
        refine ⟨g, off, vs.drop off, rfl, .inl (.inr hg), ⟨c, ty, _, h2, fun i hi => ?_⟩, Ms.stays Stays.frz _ _ (h5.drop off)⟩
        simp at hi
        rw [h4 (off + i) (by omega), List.getElem?_drop]
    · exact M.stays Stays.frz _ _ hm
  | .sl j off n z gr, v, hm => by
    simp only [Go.Proofs.YtgbpgplkhifgiaaDoor.frz]
    split
    · rename_i h
      subst h
      rcases hm with ⟨_, _, rfl, _, rfl⟩ | ⟨_, rfl, a, cap, rfl⟩ | ⟨g, cap, ty, sz, hg, rfl, hc, hr, _, _⟩
      · exact .inl ⟨rfl, by simp, none, 0, rfl⟩
      · exact .inl ⟨rfl, by simp, a, cap, rfl⟩
      · rcases hb with ⟨h1, _⟩ | ⟨g', c, ty', vs, h1, h2, h3, h4, h5⟩
        · rw [hp h1] at hg; simp at hg
        · obtain rfl : g = g' := by rw [hg] at h1; simpa using h1
          refine .inr ⟨g, off, cap, (vs.drop off).take (n * z), rfl, hc, .inl (.inr hg), ⟨c, ty', _, h2, fun i hi => ?_⟩, Ms.stays Stays.frz _ _ ((h5.drop off).take _)⟩
          simp at hi
          rw [h4 (off + i) (by omega), List.getElem?_take, if_pos (by omega), List.getElem?_drop]
    · exact M.stays Stays.frz _ _ hm
  | .ds b n l, v, hm => by
    rcases hm with ⟨h1, h2, h3⟩ | ⟨g, off, cap, vs, h1, h2, h3, h4, h5⟩
    · subst h2; exact .inl ⟨h1, rfl, h3⟩
    · exact .inr ⟨g, off, cap, vs, h1, h2, h3.imp .inl id, h4, Ms.frz hb hp l vs h5⟩
  | .dp b l, v, hm => by
    obtain ⟨g, off, vs, h1, h3, h4, h5⟩ := hm
    exact ⟨g, off, vs, h1, h3.imp .inl id, h4, Ms.frz hb hp l vs h5⟩
  | .agg l, v, ⟨vs, h1, h2⟩ => ⟨vs, h1, Ms.frz hb hp l vs h2⟩
  | .tup l, v, ⟨vs, h1, h2⟩ => ⟨vs, h1, Ms.frz hb hp l vs h2⟩
  | .clo _ l, v, ⟨vs, h1, h2⟩ => ⟨vs, h1, Ms.frz hb hp l vs h2⟩
  | .ifc _ x, v, ⟨u, h1, h2⟩ => ⟨u, h1, M.frz hb hp x u h2⟩
  | .yld _ l, v, ⟨g, r, h1, h2, h3, h4, h5⟩ => ⟨g, r, h1, h2, h3, h4, Ms.frz hb hp l _ h5⟩
theorem Ms.frz {w : World} {E : Env} {k : Nat} {cs : List AV} (hb : boxAt w E k cs) (hp : E.ph k → E.bl k = none) : ∀ (l : List AV) (vs : List Value), Ms w E l vs → Ms w (E.frz k) (frzs k cs l) vs
  | [], _, hm => hm
  | x :: l, _, ⟨v, vs', h1, h2, h3⟩ => ⟨v, vs', h1, M.frz hb hp x v h2, Ms.frz hb hp l vs' h3⟩
end

theorem alook_mapf {f : AV → AV} (hf : f .any = .any) {q : Nat} : ∀ {l : List (Nat × AV)}, alook q (l.map fun p => (p.1, f p.2)) = f (alook q l)
  | [] => by simp [alook, hf]
  | (s, x) :: l => by
    simp only [List.map_cons, alook]
    split
    · rfl
    · exact alook_mapf hf

theorem blook_mapf {f : List AV → List AV} {q : Nat} : ∀ {l : List (Nat × Option (List AV))}, blook q (l.map fun p => (p.1, p.2.map f)) = (blook q l).map f
  | [] => by simp [blook]
  | (s, x) :: l => by
    simp only [List.map_cons, blook]
    split
    · rfl
    · exact blook_mapf

/-- From here on box k is only read, and may be kept. -/
theorem AW_freeze (k : Nat) {cs : List AV} {c : Code} {σ : St} {Q : Exit → St → Prop} (hX : ∀ g, ¬ X g) (hk : blook k σ.bx = some cs) (h : AW P X w0 E0 c (σ.freeze k cs) Q) : AW P X w0 E0 c σ Q := by
  intro E a w hg hs
  have hb := hs.bx k cs hk
  have live : (blook k σ.bx).isSome := by rw [hk]; rfl
  have bk : ∀ k', blook k' (σ.freeze k cs).bx = if k' = k then none else (blook k' σ.bx).map (frzs k cs) := by
    intro k'
    simp only [St.freeze, blook]
    split
    · rfl
    · exact blook_mapf
  have olive : ∀ k', (blook k' (σ.freeze k cs).bx).isSome → k' ≠ k ∧ (blook k' σ.bx).isSome := by
    intro k' h'
    rw [bk] at h'
    split at h'
    · simp at h'
    · rename_i hne; exact ⟨hne, by simpa using h'⟩
  refine h (E.frz k) a w (hg.trans ⟨fun _ _ h => h, fun _ h => h, fun _ h => .inl h, fun _ => Iff.rfl, fun g hg' => ?_, rfl⟩) ⟨hs.nt, fun t => ?_, fun g => M.stays Stays.frz _ _ (hs.gl g), fun k' cs' hk' => ?_, fun k' g h1 h2 => ?_, fun k1 k2 g h1 h2 => ?_, fun g hg' => ?_, hs.keep, hs.rw, hs.fr, hs.px, Md.stays Stays.frz ⟨fun _ h => h, rfl⟩ hs.df⟩
  · rcases hg' with h1 | h1
    · exact .inl h1
    · exact .inr ((hs.own k g live h1).2.2.resolve_right (hX g))
  · have := M.frz hb (hs.px k) _ _ (hs.tm t)
    rw [← alook_mapf (f := frz k cs) rfl] at this
    exact this
  · rw [bk] at hk'
    split at hk'
    · simp at hk'
    · simp only [Option.map_eq_some_iff] at hk'
      obtain ⟨cs0, h0, rfl⟩ := hk'
      rcases hs.bx k' cs0 h0 with ⟨h1, rfl⟩ | ⟨g, c, ty, vs, h1, h2, h3, h4, h5⟩
      · exact .inl ⟨h1, rfl⟩
      · exact .inr ⟨g, c, ty, vs, h1, h2, h3, h4, Ms.frz hb (hs.px k) _ _ h5⟩
  · obtain ⟨hne, hl⟩ := olive k' h1
    obtain ⟨o1, o2, o3⟩ := hs.own k' g hl h2
    refine ⟨fun hS => ?_, o2, o3⟩
    rcases hS with h3 | h3
    · exact o1 h3
    · exact hne (hs.inj k' k g hl live h2 h3)
  · exact hs.inj k1 k2 g (olive k1 h1).2 (olive k2 h2).2
  · rcases hg' with (h1 | h1) | h1
    · exact hs.lim g (.inl h1)
    · exact hs.live_lt live h1
    · exact hs.lim g (.inr h1)

/-- A call whose contract says one thing. -/
theorem AL_callD {ops : Array Oper} {o : Oper} {l : List Oper} {σ : St} {Q : Exit → St → Prop} {f : Operand} {fargs : Array Operand} {fty : Array TypeId} {K : FuncId} {caps : List AV} {args' : List AV} {io io' nb : List (List AV)} {x : AV}
    (ho : o.op = .call ⟨.value f, fargs, fty⟩) (hgd : o.guard = none) (hd : dstOk σ o.dst = true) (hf : σ.ev f = .clo K caps) (hen : Enters P K) (hspec : Spec P [] K args' io (fun out => out = .ret x io' nb))
    (ios lb : List Nat) (hlen : ios.length = io.length) (hnd : ios.Nodup) (hne : ∀ cs ∈ io, cs ≠ [])
    (hargs : (evs σ fargs.toList ++ caps).map (lendA (lentBx lb σ)) = AVs.map (ioMap σ.nx ios) args')
    (hio : ∀ (j k : Nat) (cs : List AV), ios[j]? = some k → io[j]? = some cs → blook k σ.bx = some (AVs.map (ioMap σ.nx ios) cs))
    (hlb : ∀ k ∈ lb, (blook k σ.bx).isSome ∧ k ∉ ios) (hk : (lb.isEmpty || keptAll x io' nb) = true) (hn : nb.length ≤ 8)
    (h : AL P X w0 E0 ops l (σ.behind (tput o.dst (x.map (gMap σ.nx ios)) σ.tm) ios io' nb) Q) : AL P X w0 E0 ops (o :: l) σ Q :=
  AL_call ho hgd hd hf hen hspec ios lb hlen hnd hne hargs hio hlb (by simp) (fun x2 io2 nb2 hR _ => by simp only [Out.ret.injEq] at hR; obtain ⟨rfl, rfl, rfl⟩ := hR; exact ⟨hk, hn, h⟩) (fun v io2 hR _ => by simp at hR)

/-- A call that only computes. -/
theorem AL_callP {ops : Array Oper} {o : Oper} {l : List Oper} {σ : St} {Q : Exit → St → Prop} {f : Operand} {fargs : Array Operand} {fty : Array TypeId} {K : FuncId} {caps : List AV} {args' : List AV} {x : AV}
    (ho : o.op = .call ⟨.value f, fargs, fty⟩) (hgd : o.guard = none) (hd : dstOk σ o.dst = true) (hf : σ.ev f = .clo K caps) (hen : Enters P K) (hspec : Spec P [] K args' [] (fun out => out = .ret x [] []))
    (lb : List Nat) (hargs : (evs σ fargs.toList ++ caps).map (lendA (lentBx lb σ)) = AVs.map (ioMap σ.nx []) args')
    (hlb : ∀ k ∈ lb, (blook k σ.bx).isSome) (hk : (lb.isEmpty || x.kept) = true) (hx : x.map (gMap σ.nx []) = x)
    (h : AL P X w0 E0 ops l { σ with nx := σ.nx + 8, tm := tput o.dst x σ.tm } Q) : AL P X w0 E0 ops (o :: l) σ Q :=
  AL_callD ho hgd hd hf hen hspec [] lb rfl List.nodup_nil (by simp) hargs (by simp) (fun k hk => ⟨hlb k hk, by simp⟩) (by simpa [keptAll] using hk) (by simp) (by rw [hx]; exact h)

/-- A call whose contract says one thing. -/
theorem AL_callDW {ops : Array Oper} {o : Oper} {l : List Oper} {σ : St} {Q : Exit → St → Prop} {f : Operand} {fargs : Array Operand} {fty : Array TypeId} {K : FuncId} {caps : List AV} {args' : List AV} {io io' nb : List (List AV)} {x : AV}
    (ho : o.op = .call ⟨.value f, fargs, fty⟩) (hgd : Wanted ops σ o) (hd : dstOk σ o.dst = true) (hf : σ.ev f = .clo K caps) (hen : Enters P K) (hspec : Spec P [] K args' io (fun out => out = .ret x io' nb))
    (ios lb : List Nat) (hlen : ios.length = io.length) (hnd : ios.Nodup) (hne : ∀ cs ∈ io, cs ≠ [])
    (hargs : (evs σ fargs.toList ++ caps).map (lendA (lentBx lb σ)) = AVs.map (ioMap σ.nx ios) args')
    (hio : ∀ (j k : Nat) (cs : List AV), ios[j]? = some k → io[j]? = some cs → blook k σ.bx = some (AVs.map (ioMap σ.nx ios) cs))
    (hlb : ∀ k ∈ lb, (blook k σ.bx).isSome ∧ k ∉ ios) (hk : (lb.isEmpty || keptAll x io' nb) = true) (hn : nb.length ≤ 8)
    (h : AL P X w0 E0 ops l (σ.behind (tput o.dst (x.map (gMap σ.nx ios)) σ.tm) ios io' nb) Q) : AL P X w0 E0 ops (o :: l) σ Q :=
  AL_callW ho hgd hd hf hen hspec ios lb hlen hnd hne hargs hio hlb (by simp) (fun x2 io2 nb2 hR _ => by simp only [Out.ret.injEq] at hR; obtain ⟨rfl, rfl, rfl⟩ := hR; exact ⟨hk, hn, h⟩) (fun v io2 hR _ => by simp at hR)

/-- A call that only computes. -/
theorem AL_callPW {ops : Array Oper} {o : Oper} {l : List Oper} {σ : St} {Q : Exit → St → Prop} {f : Operand} {fargs : Array Operand} {fty : Array TypeId} {K : FuncId} {caps : List AV} {args' : List AV} {x : AV}
    (ho : o.op = .call ⟨.value f, fargs, fty⟩) (hgd : Wanted ops σ o) (hd : dstOk σ o.dst = true) (hf : σ.ev f = .clo K caps) (hen : Enters P K) (hspec : Spec P [] K args' [] (fun out => out = .ret x [] []))
    (lb : List Nat) (hargs : (evs σ fargs.toList ++ caps).map (lendA (lentBx lb σ)) = AVs.map (ioMap σ.nx []) args')
    (hlb : ∀ k ∈ lb, (blook k σ.bx).isSome) (hk : (lb.isEmpty || x.kept) = true) (hx : x.map (gMap σ.nx []) = x)
    (h : AL P X w0 E0 ops l { σ with nx := σ.nx + 8, tm := tput o.dst x σ.tm } Q) : AL P X w0 E0 ops (o :: l) σ Q :=
  AL_callDW ho hgd hd hf hen hspec [] lb rfl List.nodup_nil (by simp) hargs (by simp) (fun k hk => ⟨hlb k hk, by simp⟩) (by simpa [keptAll] using hk) (by simp) (by rw [hx]; exact h)

theorem retp {rs : List ResultVar} {R : Out → Prop} {σ : St} (x : AV) (hd : σ.df = []) (hx : resOf T σ rs = some x) (hmap : x.map (nmap σ.nx []) = x) (hR : R (.ret x [] [])) : RetV T rs 0 R σ := ret_plain x rfl hd hx hmap hR

end
end Go.Proofs.YtgbpgplkhifgiaaDoor

/- Helpers: states that keep their names, returns with boxes. No condition. -/
set_option linter.unusedVariables false
set_option linter.unusedSimpArgs false
namespace Go.Proofs.YtgbpgplkhifgiaaDoor
open Go Go.RowKit

def idl (n : Nat) : List (Nat × Nat) := (List.range n).map fun k => (k, k)

theorem nmap_idl {base n k : Nat} : nmap base (idl n) k = if k < n then k else base + k := by
  have key : ∀ (l : List Nat), nmap base (l.map fun k => (k, k)) k = if k ∈ l then k else base + k := by
    intro l
    induction l with
    | nil => simp [nmap]
    | cons x l ih =>
      simp only [List.map_cons, nmap, ih]
      by_cases h : k = x
      · subst h; simp
      · simp [h]
  unfold idl
  rw [key]
  simp

/-- A value without names. -/
def Flat (x : AV) : Prop := ∀ f, x.map f = x
def Flats (cs : List AV) : Prop := ∀ f, AVs.map f cs = cs

theorem flats_of {cs : List AV} (h : ∀ x ∈ cs, Flat x) : Flats cs := fun f => AVs_map_eq fun x hx => h x hx f
theorem flats_map {α : Type} {g : α → AV} (hg : ∀ a, Flat (g a)) (l : List α) : Flats (l.map g) := fun f => AVs_map_map (fun a => hg a f) l
theorem flats_append {a b : List AV} (ha : Flats a) (hb : Flats b) : Flats (a ++ b) := by
  intro f
  have key : ∀ a b : List AV, AVs.map f (a ++ b) = AVs.map f a ++ AVs.map f b := by
    intro a b
    induction a with
    | nil => rfl
    | cons x a ih => simp [AVs.map, ih]
  rw [key, ha f, hb f]

theorem AVs_map_append {f : Nat → Nat} : ∀ a b : List AV, AVs.map f (a ++ b) = AVs.map f a ++ AVs.map f b
  | [], _ => rfl
  | x :: a, b => by simp [AVs.map, AVs_map_append a b]

theorem ivs_map (f : Nat → Nat) (xs : List Int) : AVs.map f (xs.map iv) = xs.map iv := AVs_map_map (fun _ => rfl) xs
theorem yvs_map (f : Nat → Nat) (xs : List Int) : AVs.map f (xs.map yv) = xs.map yv := AVs_map_map (fun _ => rfl) xs

section
variable {P : Program} {X : Nat → Prop} {w0 : World} {E0 : Env} {T : TypeId → Option TI} {eqt : List TypeId}

theorem sub_id {σ F : St} {m : Nat} (n : Nat) (hm : m ≤ n) (hnt : F.nt = σ.nt) (hnx : n ≤ F.nx) (hgl : F.gl = []) (hdf : σ.df = []) (hdf' : F.df = [])
    (htm : ∀ p ∈ F.tm, alook p.1 σ.tm = p.2.map (nmap σ.nx (idl n))) (hbx : ∀ p ∈ F.bx, p.1 < n ∧ ∀ cs, p.2 = some cs → blook p.1 σ.bx = some (AVs.map (nmap σ.nx (idl n)) cs)) : Sub σ F (idl n) m := by
  refine ⟨hnt, by simp [hgl], ⟨hdf, hdf'⟩, htm, fun p hp cs hc => ?_, fun p hp => ?_, fun p hp q hq h => ?_, fun k hk => ?_⟩
  · rw [nmap_idl, if_pos (hbx p hp).1]
    exact (hbx p hp).2 cs hc
  · obtain ⟨a, ha, rfl⟩ := List.mem_map.1 hp
    simp at ha
    show a < F.nx
    omega
  · rw [nmap_idl, nmap_idl, if_pos (hbx p hp).1, if_pos (hbx q hq).1] at h
    exact h
  · rw [nmap_idl, if_pos (by omega)]

theorem idx_mem {α : Type} {l : List α} : ∀ {i : Nat} {p : Nat × α}, p ∈ idx i l → ∃ j, p.1 = i + j ∧ l[j]? = some p.2 := by
  induction l with
  | nil => intro i p h; simp [idx] at h
  | cons x l ih =>
    intro i p h
    simp only [idx, List.mem_cons] at h
    rcases h with rfl | h
    · exact ⟨0, by simp, by simp⟩
    · obtain ⟨j, h1, h2⟩ := ih h
      exact ⟨j + 1, by omega, by simpa using h2⟩

theorem left_sub {σ : St} {io : List (List AV)} (hd : σ.df = []) (hio : (List.range io.length).map (fun k => blook k σ.bx) = io.map some) (hfl : ∀ cs ∈ io, Flats cs) : Sub σ (leftSt σ io []) (idl io.length) io.length := by
  refine sub_id io.length (Nat.le_refl _) rfl (by simp [leftSt]) rfl hd rfl (by simp [leftSt]) ?_
  intro p hp
  simp only [leftSt, List.append_nil] at hp
  obtain ⟨j, h1, h2⟩ := idx_mem hp
  simp only [Nat.zero_add] at h1
  have hj : j < io.length := by
    rcases Nat.lt_or_ge j io.length with h3 | h3
    · exact h3
    · rw [List.getElem?_eq_none (by simpa using h3)] at h2; simp at h2
  refine ⟨by omega, fun cs hc => ?_⟩
  have h4 := congrArg (fun l : List (Option (List AV)) => l[j]?) hio
  simp only [List.getElem?_map, List.getElem?_range hj, Option.map_some] at h4
  rw [List.getElem?_map] at h2
  rw [h1]
  have h5 : io[j]? = some io[j] := List.getElem?_eq_getElem hj
  rw [h5] at h2 h4
  simp at h2 h4
  rw [hc] at h2
  simp at h2
  subst h2
  rw [h4, hfl _ (List.getElem_mem hj)]

theorem retio {rs : List ResultVar} {R : Out → Prop} {σ : St} {m : Nat} (x : AV) (io : List (List AV)) (hm : io.length = m) (hd : σ.df = []) (hx : resOf T σ rs = some x) (hfx : Flat x)
    (hio : (List.range io.length).map (fun k => blook k σ.bx) = io.map some) (hfl : ∀ cs ∈ io, Flats cs) (hR : R (.ret x io [])) : RetV T rs m R σ := by
  subst hm
  exact ⟨x, io, [], idl io.length, rfl, by rw [hfx]; exact hx, left_sub hd hio hfl, hR⟩

theorem retpan {R : Out → Prop} {σ : St} {m : Nat} {v : Value} (io : List (List AV)) (hm : io.length = m) (hd : σ.df = [])
    (hio : (List.range io.length).map (fun k => blook k σ.bx) = io.map some) (hfl : ∀ cs ∈ io, Flats cs) (hR : R (.pan v io)) : RetP m R σ v := by
  subst hm
  exact ⟨io, idl io.length, rfl, left_sub hd hio hfl, hR⟩

def scopeQ (Q : Exit → St → Prop) : Exit → St → Prop
  | .goto _, _ => False
  | e, σ => Q e σ

theorem wpIn_scope_straight {F : Fence} {n : Nat} {c : Code} {Q : Exit → Act → World → Prop} {a : Act} {w : World} (h : c.wpIn F n P (Exit.noGoto Q) a w) : (Code.scope c).wpIn F n P Q a w := by
  intro b k cs hro hb hr
  have h0 : (lone (b.atR a (.code (.scope c) :: k)) cs w).fenced P F := fenced_calm hb hr rfl
  have s1 : step P (lone (b.atR a (.code (.scope c) :: k)) cs w) = .next (lone (b.atR a (.code c :: .inScope c :: k)) cs w) := step_lone_go (by simp [stepG, stepG.exec, Frame.atR])
  have s2 : ∀ a w, step P (lone (b.atR a (.inScope c :: k)) cs w) = .next (lone (b.atR a k) cs w) := fun a w => step_lone_go (by simp [stepG, stepG.exec, Frame.atR])
  obtain ⟨e, a₁, w₁, hq, harr⟩ := h b (.inScope c :: k) cs hro hb hr
  have hx : ∀ id, exitTo id (.inScope c :: k) = exitTo id k := fun id => by simp [exitTo]
  cases e with
  | normal => exact ⟨.normal, a₁, w₁, hq, .head h0 s1 (StepsIn.trans harr (.one (fenced_calm hb hr rfl) (s2 _ _)))⟩
  | exit id => exact ⟨.exit id, a₁, w₁, hq, fun k' hk => .head h0 s1 (harr.1 k' (by rw [hx]; exact hk)), fun hr' hk => let ⟨k₁, h1, h2⟩ := harr.2 hr' (by rw [hx]; exact hk); ⟨k₁, h1, .head h0 s1 h2⟩⟩
  | goto l => exact hq.elim
  | ret => exact ⟨_, a₁, w₁, hq, .of_steps (.one h0 s1) harr⟩
  | panic ch => exact ⟨_, a₁, w₁, hq, .of_steps (.one h0 s1) harr⟩
  | outgrown => exact ⟨_, a₁, w₁, hq, .of_steps (.one h0 s1) harr⟩

/-- A piece with labels to which nobody jumps. -/
theorem AW_scope {c : Code} {σ : St} {Q : Exit → St → Prop} (h : AW P X w0 E0 c σ (scopeQ Q)) : AW P X w0 E0 (.scope c) σ Q := by
  intro E a w hg hs
  refine wpIn_scope_straight (wpIn_mono (h E a w hg hs) ?_)
  rintro e a' w' ⟨E', σ', q, hg', hs'⟩
  cases e with
  | goto l => exact q.elim
  | _ => exact ⟨E', σ', q, hg', hs'⟩

/-- Whether an interface value that is known is nil. -/
theorem AL_eqNil (hT : Tab P T eqt) {ops : Array Oper} {o : Oper} {l : List Oper} {σ : St} {Q : Exit → St → Prop} {t u : TypeId} {x : Operand} {ti : TI} {v : Value} (r : Bool)
    (ho : o.op = .binOp .eql t x (.const .nilIface) u) (hgd : o.guard = none) (hd : dstOk σ o.dst = true) (ht : T t = some ti) (hti : ti.d = .ifc) (hx : σ.ev x = .val v) (hv : (v = .nilIface ∧ r = true) ∨ (∃ s y, v = .iface s y) ∧ r = false)
    (h : AL P X w0 E0 ops l (σ.app (σ.nx + 8) o.dst ⟨.val (.bool r), []⟩) Q) : AL P X w0 E0 ops (o :: l) σ Q := by
  intro i hi E a w hg hs
  obtain ⟨hoi, hl⟩ := drop_cons hi
  have ho' : ops[i]? = some o := by simpa using hoi
  simp only [List.length_cons, List.range', wpOpsIn, ho']
  have hw : Region.wanted o (yielded ops a.tmps) = true := by simp [Region.wanted, hgd]
  rw [if_pos hw]
  have hxe := hs.ev x
  rw [hx] at hxe
  simp only [M] at hxe
  obtain ⟨td, hu, hotd⟩ := (hT.t _ _ ht).und
  rw [hti] at hotd
  cases td <;> simp [TD.of] at hotd
  rename_i ms
  have hun := run_underlying hu w
  have hrun : (execOp a.eval o).run P w = .ok (.value (.bool r)) w := by
    simp only [execOp, ho, hxe]
    have e1 : ∀ d, (Op.equalIn (d + 1) t .nilIface .nilIface).run P w = .ok true w := by
      intro d
      unfold Op.equalIn
      simp [hun]
    have e2 : ∀ d s y, (Op.equalIn (d + 1) t (.iface s y) .nilIface).run P w = .ok false w := by
      intro d s y
      unfold Op.equalIn
      simp [hun]
    rcases hv with ⟨rfl, rfl⟩ | ⟨⟨s, y, rfl⟩, rfl⟩
    · have e3 : (eqGuard .eql t x (.const .nilIface) .nilIface .nilIface).run P w = .ok () w := by
        unfold eqGuard
        simp
      have e4 : (binOp .eql t .nilIface .nilIface).run P w = .ok (.bool true) w := by
        have : binOp .eql t .nilIface .nilIface = (do pure (.bool (← Op.equal t .nilIface .nilIface)) : Sem Value) := rfl
        rw [this]
        have := e1 9999
        simp only [Op.equal, Op.maxDepth, Sem.run_bind, Sem.run_pure]
        rw [this]
        rfl
      simp only [Act.eval, Sem.run_bind, e3, e4, Result.andThen_ok, Sem.run_pure]
    · have e3 : (eqGuard .eql t x (.const .nilIface) (.iface s y) .nilIface).run P w = .ok () w := by
        unfold eqGuard
        simp
      have e4 : (binOp .eql t (.iface s y) .nilIface).run P w = .ok (.bool false) w := by
        have : binOp .eql t (.iface s y) .nilIface = (do pure (.bool (← Op.equal t (.iface s y) .nilIface)) : Sem Value) := rfl
        rw [this]
        have := e2 9999 s y
        simp only [Op.equal, Op.maxDepth, Sem.run_bind, Sem.run_pure]
        rw [this]
        rfl
      simp only [Act.eval, Sem.run_bind, e3, e4, Result.andThen_ok, Sem.run_pure]
  refine oper_fr (by rw [ho]; intro c; simp) ?_
  rw [hrun]
  exact h (i + 1) hl E _ w hg (hs.val (dst_lt hd) rfl (by omega))

end
end Go.Proofs.YtgbpgplkhifgiaaDoor

/- Loops of a few rounds, round by round. No condition. -/
set_option linter.unusedVariables false
set_option linter.unusedSimpArgs false
namespace Go.Proofs.YtgbpgplkhifgiaaDoor
open Go Go.RowKit

section
variable (P : Program) (X : Nat → Prop) (w0 : World) (E0 : Env)

/-- At most n rounds of c from σ. -/
def AR (c : Code) (Q : Exit → St → Prop) : Nat → St → Prop
  | 0, _ => False
  | n + 1, σ => AW P X w0 E0 c σ (kQ (AR c Q n) Q)

variable {P X w0 E0}

theorem AR_rounds {c : Code} {Q : Exit → St → Prop} : ∀ (n : Nat) (σ : St), AR P X w0 E0 c Q n σ → ∀ E a w, Grow w0 E0 E → Sim X w0 E σ a w → Code.roundsIn (FrO E0.ro) 0 P c (Conc X w0 E0 Q) n a w
  | 0, _, h, _, _, _, _, _ => h.elim
  | n + 1, σ, h, E, a, w, hg, hs => by
    rw [roundsIn_succ]
    refine wpIn_mono (h E a w hg hs) ?_
    rintro e a' w' ⟨E', σ', q, hg', hs'⟩
    cases e with
    | normal => exact AR_rounds n σ' q E' a' w' hg' hs'
    | _ => exact ⟨E', σ', q, hg', hs'⟩

/-- A loop, round by round. -/
theorem AW_rounds (n : Nat) {c : Code} {σ : St} {Q : Exit → St → Prop} (h : AR P X w0 E0 c Q n σ) : AW P X w0 E0 (.loop c) σ Q :=
  fun E a w hg hs => wpIn_loop_rounds n (AR_rounds n σ h E a w hg hs)

/-- A round, with what follows behind a name. -/
theorem AR_round {n : Nat} {c : Code} {σ : St} {Q : Exit → St → Prop} (h : ∀ K : St → Prop, (∀ σ', AR P X w0 E0 c Q n σ' → K σ') → AW P X w0 E0 c σ (kQ K Q)) : AR P X w0 E0 c Q (n + 1) σ := h _ fun _ h => h

end
end Go.Proofs.YtgbpgplkhifgiaaDoor

/- The small laws by which the walks compute, in one. No condition. -/
set_option linter.defProp false
namespace Go.Proofs.YtgbpgplkhifgiaaDoor
open Go Go.RowKit

def AwS :=
  And.intro @Nat.le_refl (And.intro @Nat.sub_self (And.intro @decide_true (And.intro @decide_false (And.intro @and_true (And.intro @true_and (And.intro @and_self (And.intro @and_false (And.intro @false_and (And.intro @Bool.and_true (And.intro @Bool.true_and (And.intro @Bool.and_self (And.intro @Bool.or_true (And.intro @Bool.true_or (And.intro @Bool.or_false (And.intro @Bool.false_or (And.intro @Bool.not_true (And.intro @Bool.not_false (And.intro @List.length_cons.{0} (And.intro @List.length_nil.{0} (And.intro @List.map_cons.{0, 0} (And.intro @List.map_nil.{0, 0} (And.intro @List.append_nil.{0} (And.intro @List.nil_append.{0} (And.intro @List.cons_append.{0} (And.intro @List.drop_zero.{0} (And.intro @List.drop_succ_cons.{0} (And.intro @List.drop_nil.{0} (And.intro @List.take_succ_cons.{0} (And.intro @List.take_zero.{0} (And.intro @List.take_nil.{0} (And.intro @List.getElem?_cons_zero.{0} (And.intro @List.getElem?_cons_succ.{0} (And.intro @List.getElem?_nil.{0} (And.intro @List.getElem?_toArray.{0} (And.intro @List.set_cons_zero.{0} (And.intro @List.set_cons_succ.{0} (And.intro @List.contains_cons.{0} (And.intro @List.contains_nil.{0} (And.intro @List.all_cons.{0} (And.intro @List.all_nil.{0} (And.intro @List.replicate_succ.{0} (And.intro @List.replicate_zero.{0} (And.intro @List.flatten_cons.{0} (And.intro @List.flatten_nil.{0} (And.intro @Option.map_some.{0, 0} (And.intro @Option.map_none.{0, 0} (And.intro @Option.bind_some.{0, 0} (And.intro @Option.bind_none.{0, 0} (And.intro @List.zipIdx_cons.{0} (And.intro @List.zipIdx_nil.{0} (And.intro @beq_self_eq_true.{0} (And.intro @Nat.zero_add (And.intro @Nat.add_zero (And.intro @zero_le_true (And.intro @List.foldlM_cons.{0, 0, 0} (And.intro @List.foldlM_nil.{0, 0, 0} (And.intro @Nat.mul_one (And.intro @Nat.zero_mul (And.intro @Nat.mul_zero (And.intro @Nat.one_mul (And.intro @cast_lit0 (And.intro @cast_lit1 (And.intro @cast_lit2 (And.intro @cast_lit3 (And.intro @Int.le_refl (And.intro @Int.toNat_natCast (And.intro @List.length_append.{0} (And.intro @List.length_map.{0, 0} (And.intro @Option.isSome_some.{0} (And.intro @Option.isSome_none.{0} (And.intro @Option.isNone_none.{0} (And.intro @Option.isNone_some.{0} (And.intro @List.isEmpty_nil.{0} (And.intro @List.isEmpty_cons.{0} (@eq_self.{1})))))))))))))))))))))))))))))))))))))))))))))))))))))))))))))))))))))))))))

end Go.Proofs.YtgbpgplkhifgiaaDoor

/- Calls in a region whose order is drawn, in the form of use. No condition. -/
set_option linter.unusedVariables false
set_option linter.unusedSimpArgs false
namespace Go.Proofs.YtgbpgplkhifgiaaDoor
open Go Go.RowKit

section
variable {P : Program} {X : Nat → Prop} {w0 : World} {E0 : Env} {T : TypeId → Option TI} {eqt : List TypeId}

theorem DL_rest (hT : Tab P T eqt) {ops : Array Oper} {ms : List (List Nat)} {n0 N i : Nat} {acc : List (Nat × Foot)} {l : List Oper} {σ : St} {Q : St → Prop} (hN : N = n0 + 8 * ops.size)
    (h : ∀ D K, (∀ σ', Q σ' → D σ') → (∀ i acc l σ', DL P X w0 E0 ops ms n0 N Q i acc l σ' → K i acc l σ') → runD T eqt ops ms n0 N D K i acc l σ) : DL P X w0 E0 ops ms n0 N Q i acc l σ :=
  DL_run hT hN (fun _ h => h) (fun _ _ _ _ h => h) l i acc σ (h Q _ (fun _ h => h) (fun _ _ _ _ h => h))

/-- A call that only computes. -/
theorem DL_callP {ops : Array Oper} {ms : List (List Nat)} {n0 N i : Nat} (hN : N = n0 + 8 * ops.size) {acc : List (Nat × Foot)} {o : Oper} {l : List Oper} {σ : St} {Q : St → Prop} {f : Operand} {fargs : Array Operand} {fty : Array TypeId} {K : FuncId} {caps : List AV} {args' : List AV} {x : AV}
    (ho : o.op = .call ⟨.value f, fargs, fty⟩) (hgd : o.guard = none) (hd : dstOk σ o.dst = true) (hf : σ.ev f = .clo K caps) (hen : Enters P K) (hspec : Spec P [] K args' [] (fun out => out = .ret x [] []))
    (lb : List Nat) (hargs : (evs σ fargs.toList ++ caps).map (lendA (lentBx lb σ)) = AVs.map (ioMap N []) args')
    (hlb : ∀ k ∈ lb, (blook k σ.bx).isSome) (hk : (lb.isEmpty || x.kept) = true) (hx : x.map (gMap (n0 + 8 * i) []) = x) (hfine : fine ms i ([], lb) acc = true)
    (h : DL P X w0 E0 ops ms n0 N Q (i + 1) (addFoot i ([], lb) acc) l { σ with nx := N, tm := tput o.dst x σ.tm }) : DL P X w0 E0 ops ms n0 N Q i acc (o :: l) σ := by
  refine DL_call hN ho hgd hd hf hen hspec (fun out h => h) [] lb rfl rfl List.nodup_nil (by simp) hargs (by simp) (fun k hk => ⟨hlb k hk, by simp⟩) (by simp) (by simpa [keptAll] using hk) (by simp) (by simpa [newIo] using hfine) ?_
  simp only [St.behindB, zipIo, newIo, List.nil_append, List.map_nil, hx]
  exact h
end
end Go.Proofs.YtgbpgplkhifgiaaDoor

/- Loops over a function: the loop itself, a call of its yield, a round's contract. No condition. -/
set_option linter.unusedVariables false
set_option linter.unusedSimpArgs false
namespace Go.Proofs.YtgbpgplkhifgiaaDoor
open Go Go.RowKit

section
variable {P : Program} {X : Nat → Prop} {w0 : World} {E0 : Env} {T : TypeId → Option TI} {eqt : List TypeId}

/-- A call of yield, which comes behind its arguments. -/
def YCall (P : Program) (vs : Array Value) (w : World) (post : Ending → World → Prop) : Prop :=
  ∃ l r init, vs.toList = init ++ [.func (.yield l) #[] #[]] ∧ w.heap[l]? = some (.loop r) ∧ init.length = r.params.size ∧
    RoundIn Fence.wide 0 P l r.fn ((r.params.zip (⟨init⟩ : Array Value)).foldl (fun tmps (t, a) => tmps.setIfInBounds t a) r.tmps) r.assign r.body w post

theorem Md.put {E : Env} {w0' w : World} {l : Nat} {r : Loop} {o : Obj} (hl : w.heap[l]? = some (.loop r)) (hs : w0'.heap.size = w0.heap.size) (hst : Stays w E (w.putObj l o) E) :
    ∀ {ds : List Deferred} {df : List (FuncId × List AV)}, Md w0 w E df ds → Md w0' (w.putObj l o) E df ds
  | [], _, h => h
  | d :: ds, _, .inl ⟨ho, ⟨r', e, h1, h2⟩, hn', hr⟩ => by
    have hne : r' ≠ l := by rintro rfl; rw [hl] at h1; simp at h1
    exact .inl ⟨ho, ⟨r', e, by rw [World.putObj_heap_other hne]; exact h1, by omega⟩, hn', Md.put hl hs hst hr⟩
  | d :: ds, _, .inr ⟨f, caps, l', vs, e1, e2, h1, hr⟩ => .inr ⟨f, caps, l', vs, e1, e2, Ms.stays hst _ _ h1, Md.put hl hs hst hr⟩

theorem rowIn_put {w : World} {l : Nat} {r r' : Loop} (hl : w.heap[l]? = some (.loop r)) {g : Nat} : rowIn (w.putObj l (.loop r')) g = rowIn w g := by
  by_cases hg : g = l
  · subst hg
    have hlt : g < w.heap.size := (Array.getElem?_eq_some_iff.1 hl).1
    unfold rowIn
    rw [World.putObj_heap_same hlt, hl]
  · unfold rowIn
    rw [World.putObj_heap_other hg]

theorem stays_put {E : Env} {w : World} {l : Nat} {r r' : Loop} (hl : w.heap[l]? = some (.loop r)) (hST : ¬ E.S l ∧ ¬ E.T l) : Stays w E (w.putObj l (.loop r')) E := by
  refine ⟨fun _ _ h => h, fun _ h => h, fun _ h => h, fun _ h => h, fun g i hi => by rw [rowIn_put hl]; exact hi, fun g hg => World.putObj_heap_other ?_⟩
  rintro rfl
  exact hg.elim hST.1 hST.2

/-- The record of a loop turns, of which the state does not speak. -/
theorem Sim.putLoop {E : Env} {σ : St} {a : Act} {w : World} (h : Sim X w0 E σ a w) {l : Nat} {r r' : Loop} (hl : w.heap[l]? = some (.loop r)) (hST : ¬ E.S l ∧ ¬ E.T l) (w0' : World)
    (hs : w0'.heap.size = w0.heap.size) (hk : Keeps X w0' (w.putObj l (.loop r'))) (hrw : ∀ g, rowIn w0' g = rowIn w0 g) : Sim X w0' E σ a (w.putObj l (.loop r')) := by
  have st : Stays w E (w.putObj l (.loop r')) E := stays_put hl hST
  refine ⟨h.nt, fun t => M.stays st _ _ (h.tm t), fun g => M.stays st _ _ (h.gl g), fun k cs hkc => (h.bx k cs hkc).stays_other st (fun g hg => World.putObj_heap_other ?_), fun k g hkc hg => ?_, h.inj,
    fun g hg => by rw [World.putObj_size]; exact h.lim g hg, hk, fun g i h0 => by rw [rowIn_put hl]; exact h.rw g i (by rw [← hrw]; exact h0), h.fr, h.px, Md.put hl hs st h.df⟩
  · rintro rfl
    rcases h.bx k cs hkc with ⟨h1, _⟩ | ⟨g', c, ty, vs, h1, h2, _⟩
    · rw [h.px k h1] at hg; simp at hg
    · obtain rfl : g = g' := by rw [hg] at h1; simpa using h1
      rw [hl] at h2; simp at h2
  · rw [hs]
    exact h.own k g hkc hg

mutual
theorem AV.map_id : ∀ (x : AV), x.map (fun k => k) = x
  | .any => rfl
  | .val _ => rfl
  | .ptr _ _ => rfl
  | .sl _ _ _ _ _ => rfl
  | .ds _ _ cs => by simp only [AV.map, AVs.map_id cs]
  | .dp _ cs => by simp only [AV.map, AVs.map_id cs]
  | .agg cs => by simp only [AV.map, AVs.map_id cs]
  | .tup cs => by simp only [AV.map, AVs.map_id cs]
  | .clo _ cs => by simp only [AV.map, AVs.map_id cs]
  | .yld _ cs => by simp only [AV.map, AVs.map_id cs]
  | .ifc _ x => by simp only [AV.map, AV.map_id x]
theorem AVs.map_id : ∀ (l : List AV), AVs.map (fun k => k) l = l
  | [] => rfl
  | x :: l => by simp only [AVs.map, AV.map_id x, AVs.map_id l]
end

/-- E1 is E without the block l. -/
structure Less (l : Nat) (E E1 : Env) : Prop where
  bl : E1.bl = E.bl
  ph : E1.ph = E.ph
  S : ∀ g, E.S g → g ≠ l → E1.S g

mutual
theorem M.less {w : World} {l : Nat} {r : Loop} (hl : w.heap[l]? = some (.loop r)) {E E1 : Env} (h : Less l E E1) : ∀ (x : AV) (v : Value), x.kept = true → M w E x v → M w E1 x v
  | .any, _, _, _ => trivial
  | .val _, _, _, hm => hm
  | .ptr _ _, _, _, ⟨g, hg, hv⟩ => ⟨g, by rw [h.bl]; exact hg, hv⟩
  | .sl _ _ _ _ _, _, _, hm => hm.elim (fun ⟨c, a, b⟩ => .inl ⟨c, by rw [h.ph]; exact a, b⟩) (fun hm => .inr (hm.elim .inl (fun ⟨g, cap, ty, sz, h1, h2⟩ => .inr ⟨g, cap, ty, sz, by rw [h.bl]; exact h1, h2⟩)))
  | .ds b _ cells, _, hk, hm => by
    simp [AV.kept] at hk
    rcases hm with h1 | ⟨g, off, cap, vs, h1, h2, h3, h4, h6⟩
    · exact .inl h1
    · refine .inr ⟨g, off, cap, vs, h1, h2, .inl (h.S g ?_ ?_), h4, Ms.less hl h cells vs hk.2 h6⟩
      · rcases h3 with h3 | ⟨h3, _⟩
        · exact h3
        · rw [hk.1] at h3; simp at h3
      · rintro rfl
        obtain ⟨c, ty, fr, h5, _⟩ := h4
        rw [hl] at h5; simp at h5
  | .dp b cells, _, hk, hm => by
    simp [AV.kept] at hk
    obtain ⟨g, off, vs, h1, h3, h4, h6⟩ := hm
    refine ⟨g, off, vs, h1, .inl (h.S g ?_ ?_), h4, Ms.less hl h cells vs hk.2 h6⟩
    · rcases h3 with h3 | ⟨h3, _⟩
      · exact h3
      · rw [hk.1] at h3; simp at h3
    · rintro rfl
      obtain ⟨c, ty, fr, h5, _⟩ := h4
      rw [hl] at h5; simp at h5
  | .agg cells, _, hk, ⟨vs, hv, hm⟩ => ⟨vs, hv, Ms.less hl h cells vs hk hm⟩
  | .tup cells, _, hk, ⟨vs, hv, hm⟩ => ⟨vs, hv, Ms.less hl h cells vs hk hm⟩
  | .clo _ caps, _, hk, ⟨vs, hv, hm⟩ => ⟨vs, hv, Ms.less hl h caps vs hk hm⟩
  | .ifc _ x, _, hk, ⟨u, hv, hm⟩ => ⟨u, hv, M.less hl h x u hk hm⟩
  | .yld _ _, _, hk, _ => by simp [AV.kept] at hk
theorem Ms.less {w : World} {l : Nat} {r : Loop} (hl : w.heap[l]? = some (.loop r)) {E E1 : Env} (h : Less l E E1) : ∀ (as : List AV) (vs : List Value), AVs.kept as = true → Ms w E as vs → Ms w E1 as vs
  | [], _, _, hm => hm
  | a :: as, _, hk, ⟨v, vs', hv, h1, h2⟩ => by
    simp [AVs.kept] at hk
    exact ⟨v, vs', hv, M.less hl h a v hk.1 h1, Ms.less hl h as vs' hk.2 h2⟩
end

def zipT : List Nat → List AV → List (Nat × AV)
  | t :: ts, x :: xs => (t, x) :: zipT ts xs
  | _, _ => []

theorem alook_zipT {w : World} {E : Env} {f : Nat → Value} : ∀ {ts : List Nat} {xs : List AV}, Ms w E xs (ts.map f) → ∀ t, M w E (alook t (zipT ts xs)) (f t)
  | [], _, _, t => by cases ‹List AV› <;> simp [zipT, alook, M]
  | s :: ts, [], h, t => by simp [Ms] at h
  | s :: ts, x :: xs, h, t => by
    obtain ⟨v, vs, e, h1, h2⟩ := Ms_cons.1 h
    simp at e
    obtain ⟨rfl, rfl⟩ := e
    simp only [zipT, alook]
    split
    · rename_i h3; subst h3; exact h1
    · exact alook_zipT h2 t

/-- How a round ends: off its end. -/
def RoundQ (m : Nat) (R : Out → Prop) : Exit → St → Prop
  | .normal, σ => ∃ io nb l, io.length = m ∧ Sub σ (leftSt σ io nb) l m ∧ R (.ret (.val (.bool true)) io nb)
  | _, _ => False

/-- The state at a round's beginning. -/
def roundSt (c : Yc) (x : AV) (caps : List AV) (gl : List (Nat × AV)) (io : List (List AV)) : St :=
  { nt := c.nt, nx := io.length, tm := (c.p, x) :: zipT c.ts caps, bx := idx 0 (io.map some), gl := gl, df := [] }

theorem spec_yield (hT : Tab P T eqt) {c : Yc} {x : AV} {caps : List AV} {gl : List (Nat × AV)} {io gv : List (List AV)} {R : Out → Prop}
    (hp : c.p < c.nt) (hx : x.kept = true) (hc : AVs.kept caps = true) (hgk : ∀ p ∈ gl, p.2.kept = true) (hiok : ∀ cs ∈ io ++ gv, AVs.kept cs = true)
    (h : ∀ (X : Nat → Prop) (w0 : World) (E0 : Env), Low E0 io.length →
      AW P X w0 E0 c.assign (roundSt c x caps gl (io ++ gv)) (fun e σ => e = .normal ∧ ∀ w0', AW P X w0' E0 c.body σ (RoundQ io.length R))) : SpecV (YCall P) gl [x, .yld c caps] io gv R := by
  intro E w vs hm hgl hio hlim hlow hpx
  obtain ⟨v, vs1, rfl, hmx, hm1⟩ := Ms_cons.1 hm
  obtain ⟨yv, vs2, rfl, hmy, hm2⟩ := Ms_cons.1 hm1
  simp [Ms] at hm2
  subst hm2
  obtain ⟨l, r, rfl, hTl, hl, hfit, hcaps⟩ := hmy
  obtain ⟨hst, hpend, hpar, hasg, hbod, hsz⟩ := hfit
  have hlt : l < w.heap.size := (Array.getElem?_eq_some_iff.1 hl).1
  refine ⟨l, r, [v], rfl, hl, by rw [hpar]; rfl, ?_⟩
  -- the round's env
  let E1 : Env := { E with S := fun g => E.S g ∧ g ≠ l, T := fun g => E.T g ∧ g ≠ l, ro := .rnd l }
  have le : Less l E E1 := ⟨rfl, rfl, fun g h1 h2 => ⟨h1, h2⟩⟩
  have hnbox : ∀ k, k < (io ++ gv).length → E.bl k ≠ some l := by
    intro k hk hkl
    have hcs : (io ++ gv)[k]? = some (io ++ gv)[k] := List.getElem?_eq_getElem hk
    rcases hio.bx k _ hcs with ⟨h1, _⟩ | ⟨g', c', ty, vs, h1, h2, _⟩
    · rw [hpx k h1] at hkl; simp at hkl
    · obtain rfl : l = g' := by rw [hkl] at h1; simpa using h1
      rw [hl] at h2; simp at h2
  let Er : Env := E1.cut io.length
  let G : Nat → Prop := givenAt E io.length (io ++ gv).length
  let X : Nat → Prop := fun g => (∃ k, k < io.length ∧ Er.bl k = some g) ∨ G g
  have hXk : ∀ k g, k < (io ++ gv).length → E.bl k = some g → X g := by
    intro k g hk hg
    rcases Nat.lt_or_ge k io.length with h1 | h1
    · exact .inl ⟨k, h1, by show (if k < io.length then E.bl k else none) = _; rw [if_pos h1]; exact hg⟩
    · exact .inr ⟨k, h1, hk, hg⟩
  have hXl : ¬ X l := by
    rintro (⟨k, hk, hkl⟩ | ⟨k, _, hk, hkl⟩)
    · have : (if k < io.length then E.bl k else none) = some l := hkl
      rw [if_pos hk] at this
      exact hnbox k (by simp; omega) this
    · exact hnbox k hk hkl
  have bk : ∀ k, blook k (roundSt c x caps gl (io ++ gv)).bx = (io ++ gv)[k]? := fun k => by
    show blook k (idx 0 ((io ++ gv).map some)) = _
    rw [blook_idx 0 k]; simp
  have lt_of : ∀ k, (blook k (roundSt c x caps gl (io ++ gv)).bx).isSome → k < (io ++ gv).length := fun k hk => by
    rw [bk] at hk
    rcases Nat.lt_or_ge k (io ++ gv).length with h1 | h1
    · exact h1
    · simp only [List.getElem?_eq_none h1] at hk; simp at hk
  have hioc : ∀ (k : Nat) cs, (io ++ gv)[k]? = some cs → boxAt w E1 k cs := by
    intro k cs hk
    rcases hio.bx k cs hk with h1 | ⟨g, c', ty, vs, h1, h2, h3, h4, h5⟩
    · exact .inl h1
    · exact .inr ⟨g, c', ty, vs, h1, h2, h3, h4, Ms.less hl le _ _ (hiok cs (List.mem_of_getElem? hk)) h5⟩
  have hglk : ∀ g, (alook g gl).kept = true := by
    intro g
    rcases alook_mem (t := g) (l := gl) with h1 | h1
    · rw [h1]; rfl
    · exact hgk _ h1
  have hsim : Sim X w E1 (roundSt c x caps gl (io ++ gv)) { tmps := ((r.params.zip (⟨[v]⟩ : Array Value)).foldl (fun tmps (t, a) => tmps.setIfInBounds t a) r.tmps), defers := [] } w := by
    have htm : ((r.params.zip (⟨[v]⟩ : Array Value)).foldl (fun tmps (t, a) => tmps.setIfInBounds t a) r.tmps) = r.tmps.setIfInBounds c.p v := by
      rw [hpar, ← Array.foldl_toList, Array.toList_zip]; rfl
    rw [htm]
    refine ⟨by simp [roundSt, hsz], fun t => ?_, fun g => M.less hl le _ _ (hglk g) (hgl g), fun k cs hk => hioc k cs (by rw [← bk]; exact hk), fun k g hk hg => ⟨fun hS => (hio.own k g (lt_of k hk) hg).1 hS.1, fun hT => (hio.own k g (lt_of k hk) hg).2 hT.1, .inr (hXk k g (lt_of k hk) hg)⟩,
      fun k k' g hk hk' => hio.inj k k' g (lt_of k hk) (lt_of k' hk'), fun g hg => hlim g (hg.imp (·.1) (·.1)), Keeps.refl _ _, fun _ _ h => h, hlow, hpx, rfl⟩
    simp only [roundSt, alook]
    split
    · rename_i ht
      subst ht
      have : (r.tmps.setIfInBounds c.p v).getD c.p undef = v := by simp [Array.getD_eq_getD_getElem?, hsz, hp]
      rw [this]
      exact M.less hl le _ _ hx hmx
    · rename_i ht
      have : (r.tmps.setIfInBounds c.p v).getD t undef = r.tmps.getD t undef := by
        simp [Array.getD_eq_getD_getElem?, Array.getElem?_setIfInBounds, Ne.symm ht]
      rw [this]
      exact alook_zipT (f := fun t => r.tmps.getD t undef) (Ms.less hl le _ _ hc hcaps) t
  refine roundIn_of_wpIn trivial ?_
  have hA := h X w Er (low_cut _ _) E1 _ w (grow_cut w E1 _) hsim
  rw [hasg]
  refine wpIn_mono (F := Fence.wide.inRound l) hA ?_
  rintro e a1 w1 ⟨E2, σ2, ⟨rfl, hB⟩, hg2, hs2⟩
  have hl1 : w1.heap[l]? = some (.loop r) := (hs2.keep.block l hlt hXl).trans hl
  have nST : ∀ {E2 : Env} {w' : World}, w'.heap.size = w.heap.size → Grow w' Er E2 → ¬ E2.S l ∧ ¬ E2.T l := by
    intro E2 w' hw' hg
    refine ⟨fun hS => ?_, fun hT => ((hg.T l).1 hT).2 rfl⟩
    rcases hg.new l hS with h1 | h1
    · exact h1.2 rfl
    · omega
  refine ⟨_, run_beginRound hl1 hst, ?_⟩
  have hwl : (w.putObj l (.loop { r with state := .busy })).heap[l]? = some (.loop { r with state := .busy }) := World.putObj_heap_same hlt
  have hs3 : Sim X (w.putObj l (.loop { r with state := .busy })) E2 σ2 a1 (w1.putObj l (.loop { r with state := .busy })) := by
    refine hs2.putLoop hl1 (nST rfl hg2) _ World.putObj_size ⟨hs2.keep.os, hs2.keep.tape, hs2.keep.output, by rw [World.putObj_size, World.putObj_size]; exact hs2.keep.size, fun g hg hX => ?_⟩ (fun g => rowIn_put hl)
    by_cases hgl2 : g = l
    · subst hgl2
      rw [hwl, World.putObj_heap_same (Array.getElem?_eq_some_iff.1 hl1).1]
    · rw [World.putObj_heap_other hgl2, World.putObj_heap_other hgl2]
      exact hs2.keep.block g (by simpa using hg) hX
  have hg3 : Grow (w.putObj l (.loop { r with state := .busy })) Er E2 := ⟨hg2.bl, hg2.ph, hg2.S, hg2.T, fun g hg => by rw [World.putObj_size]; exact hg2.new g hg, hg2.ro⟩
  rw [← hbod] at hB
  refine wpIn_mono (F := Fence.wide.inRound l) (hB (w.putObj l (.loop { r with state := .busy })) E2 a1 _ hg3 hs3) ?_
  rintro e a2 w2 ⟨E3, σ3, hq, hg4, hs4⟩
  cases e with
  | normal =>
    obtain ⟨io', nb, nm, hlen, hsub, hR⟩ := hq
    obtain ⟨hg5, hs5⟩ := hs4.sub hg4 hsub (low_cut _ _)
    have hl2 : w2.heap[l]? = some (.loop { r with state := .busy }) := (hs5.keep.block l (by rw [World.putObj_size]; exact hlt) hXl).trans hwl
    refine ⟨_, _, run_endRound none hl2, ?_⟩
    have hrr : ({ { r with state := .busy } with state := if (none : Option Code).isNone then LoopState.ready else LoopState.done, pending := none } : Loop) = r := by
      cases r
      simp at hst hpend
      subst hst; subst hpend
      rfl
    rw [hrr]
    have hs6 : Sim X w (E3.ren (nmap σ3.nx nm)) (leftSt σ3 io' nb) a2 (w2.putObj l (.loop r)) := by
      refine hs5.putLoop hl2 (nST World.putObj_size hg5) w World.putObj_size.symm ⟨hs5.keep.os, hs5.keep.tape, hs5.keep.output, by have := hs5.keep.size; rw [World.putObj_size] at this ⊢; exact this, fun g hg hX => ?_⟩ (fun g => (rowIn_put hl).symm)
      by_cases hgl2 : g = l
      · subst hgl2
        rw [World.putObj_heap_same (Array.getElem?_eq_some_iff.1 hl2).1, hl]
      · rw [World.putObj_heap_other hgl2]
        have := hs5.keep.block g (by rw [World.putObj_size]; exact hg) hX
        rw [World.putObj_heap_other hgl2] at this
        exact this
    have hg6 : Grow w Er (E3.ren (nmap σ3.nx nm)) := ⟨hg5.bl, hg5.ph, hg5.S, hg5.T, fun g hg => by have := hg5.new g hg; rwa [World.putObj_size] at this, hg5.ro⟩
    have haf : AfterV G w Er (w2.putObj l (.loop r)) (E3.ren (nmap σ3.nx nm)) io.length io' nb := AfterV.of_sim hlen hg6 hs6
    generalize E3.ren (nmap σ3.nx nm) = E4 at haf
    have hl4 : (w2.putObj l (.loop r)).heap[l]? = some (.loop r) := World.putObj_heap_same (Array.getElem?_eq_some_iff.1 hl2).1
    generalize w2.putObj l (.loop r) = w4 at haf hl4 ⊢
    let E5 : Env := { E4 with S := fun g => E4.S g ∨ E.S g, T := E.T, ro := E.ro }
    have st5 : Stays w4 E4 w4 E5 := ⟨fun _ _ h => h, fun _ h => h, fun _ h => .inl h, fun g hT => ((haf.grow.T g).1 hT).1, fun _ _ h => h, fun _ _ => rfl⟩
    refine ⟨.val (.bool true), io', nb, E5, hR, ⟨_, rfl, rfl⟩, ⟨⟨fun k cs hk => (haf.ok.bx k cs hk).stays_other st5 (fun _ _ => rfl), fun k g hk hg => ?_, haf.ok.inj⟩, haf.len, ⟨haf.grow.bl, haf.grow.ph, fun g hS => .inr hS, fun _ => Iff.rfl, fun g hS => ?_, rfl⟩, fun g hg => ?_, haf.keep, haf.new, haf.px, haf.rw, haf.fr⟩⟩
    · have hne : g ≠ l := by
        rintro rfl
        have hcs : (io' ++ nb)[k]? = some (io' ++ nb)[k] := List.getElem?_eq_getElem hk
        rcases haf.ok.bx k _ hcs with ⟨h1, _⟩ | ⟨g', c', ty, vs, h1, h2, _⟩
        · have := haf.px k h1
          rw [show E4.bl k = some g from hg] at this; simp at this
        · obtain rfl : g = g' := by rw [show E4.bl k = some g from hg] at h1; simpa using h1
          rw [hl4] at h2; simp at h2
      obtain ⟨h1, h2⟩ := haf.ok.own k g hk hg
      refine ⟨fun hS => ?_, fun hT => h2 ((haf.grow.T g).2 ⟨hT, hne⟩)⟩
      rcases hS with hS | hS
      · exact h1 hS
      · exact h1 (haf.grow.S g ⟨hS, hne⟩)
    · rcases hS with hS | hS
      · exact (haf.grow.new g hS).imp (·.1) id
      · exact .inl hS
    · have hwle := haf.keep.size
      rcases hg with (hg | hg) | hg
      · exact haf.lim g (.inl hg)
      · exact Nat.lt_of_lt_of_le (hlim g (.inl hg)) hwle
      · exact Nat.lt_of_lt_of_le (hlim g (.inr hg)) hwle
  | _ => exact hq.elim

end
end Go.Proofs.YtgbpgplkhifgiaaDoor

/- Loops over a function: the rules of a walk. No condition. -/
set_option linter.unusedVariables false
set_option linter.unusedSimpArgs false
namespace Go.Proofs.YtgbpgplkhifgiaaDoor
open Go Go.RowKit

section
variable {P : Program} {X : Nat → Prop} {w0 : World} {E0 : Env} {T : TypeId → Option TI} {eqt : List TypeId}

theorem round_fr {m : Mode} {l : Nat} {f : FuncId} {tmps : Array Value} {assign body : Code} {w : World} {R : Ending → World → Prop} (h : RoundIn Fence.wide 0 P l f tmps assign body w R) : RoundIn (FrO m) 0 P l f tmps assign body w R := by
  cases m <;> exact h

/-- A call of yield. -/
theorem AL_yield {ops : Array Oper} {o : Oper} {l : List Oper} {σ : St} {Q : Exit → St → Prop} {f x : Operand} {fty : Array TypeId} {c : Yc} {caps : List AV} {gl' : List (Nat × AV)} {args' : List AV} {io gv : List (List AV)} {R : Out → Prop}
    (ho : o.op = .call ⟨.value f, #[x], fty⟩) (hgd : Wanted ops σ o) (hd : dstOk σ o.dst = true) (hf : σ.ev f = .yld c caps) (hspec : SpecV (YCall P) gl' args' io gv R)
    (ios gvs lb : List Nat) (hlen : ios.length = io.length) (hlenv : gvs.length = gv.length) (hnd : (ios ++ gvs).Nodup) (hne : ∀ cs ∈ io, cs ≠ [])
    (hargs : [σ.ev x, .yld c caps].map (lendA (lentBx lb σ)) = AVs.map (ioMap σ.nx (ios ++ gvs)) args')
    (hio : ∀ (j k : Nat) (cs : List AV), (ios ++ gvs)[j]? = some k → (io ++ gv)[j]? = some cs → blook k σ.bx = some (AVs.map (ioMap σ.nx (ios ++ gvs)) cs))
    (hlb : ∀ k ∈ lb, (blook k σ.bx).isSome ∧ k ∉ ios ++ gvs)
    (hgl : ∀ p ∈ gl', alook p.1 σ.gl = p.2.map (ioMap σ.nx (ios ++ gvs)))
    (hret : ∀ x io' nb, R (.ret x io' nb) → io'.length = io.length → (lb.isEmpty || keptAll x io' nb) = true ∧ nb.length ≤ 8 ∧ AL P X w0 E0 ops l (σ.behindG σ.nx (σ.nx + 8) (tput o.dst (x.map (gMap σ.nx ios)) σ.tm) ios io' nb gvs) Q) :
    AL P X w0 E0 ops (o :: l) σ Q := by
  intro i hi E a w hg hs
  obtain ⟨hoi, hl⟩ := drop_cons hi
  have ho' : ops[i]? = some o := by simpa using hoi
  simp only [List.length_cons, List.range', wpOpsIn, ho']
  have hw : Region.wanted o (yielded ops a.tmps) = true := by
    rcases hgd with hgd | ⟨j, t, want, hgd, hj, hb⟩
    · simp [Region.wanted, hgd]
    · have hy := yielded_of hs hj hb
      simp [Region.wanted, hgd, hy]
  rw [if_pos hw]
  have hfv := hs.ev f
  rw [hf] at hfv
  obtain ⟨post, hcall, hpost⟩ := call_coreV hg hs (b := σ.nx) (N := σ.nx + 8) (fun k hk _ => hs.fr k hk) (by omega) (by omega) (TL := fun _ => False) (fun _ h => h.elim) (fargs := [x]) (caps := [.yld c caps]) (cvs := [a.eval f]) (Ms.stays (stays_addT w E _) _ _ (Ms_cons.2 ⟨_, _, rfl, hfv, rfl⟩)) hspec ios gvs lb hlen hlenv hnd hne hargs hio hlb hgl
    (t := lb.isEmpty) (fun h => ⟨by simpa using h, fun _ h => h⟩)
  obtain ⟨l', r, init, e1, hl', e2, hround⟩ := hcall
  have e3 : init = [a.eval x] ∧ a.eval f = .func (.yield l') #[] #[] := by
    have : [a.eval x] ++ [a.eval f] = init ++ [.func (.yield l') #[] #[]] := e1
    have h2 := List.append_inj' this rfl
    exact ⟨h2.1.symm, by simpa using h2.2⟩
  obtain ⟨rfl, hfe⟩ := e3
  have hrun : (execOp a.eval o).run P w = .ok (.round l' r.fn ((r.params.zip (⟨[a.eval x]⟩ : Array Value)).foldl (fun tmps (t, a) => tmps.setIfInBounds t a) r.tmps) r.assign r.body) w := by
    have hy := run_yield (P := P) (args := ⟨[a.eval x]⟩) hl' (by simpa using e2)
    simp only [execOp, ho, resolve, hfe, Deferred.ofValue, Sem.run_bind, Sem.run_pure, Result.andThen_ok, invoke]
    simpa using hy
  refine ⟨fun _ _ => frO_fn _ _, ?_⟩
  rw [Oper.semAt_eq _ _ _ (by rw [ho]; intro c; simp), hrun, Oper.uponIn_round]
  refine ⟨frO_depth _, RoundIn.mono (round_fr hround) ?_⟩
  intro e w' he
  obtain ⟨_, x, io', nb, hR, v, rfl, hle, hk⟩ := hpost e w' he
  obtain ⟨h1, h2, h3⟩ := hret x io' nb hR hle
  obtain ⟨E2, _, _, hg2, hs2⟩ := hk h1 h2 o.dst hd
  exact h3 (i + 1) hl _ _ w' hg2 hs2

theorem Md.marks_lt {w : World} {E : Env} : ∀ {ds : List Deferred} {df : List (FuncId × List AV)}, Md w0 w E df ds → ∀ r, ({ target := .collected r, args := #[] } : Deferred) ∈ ds → r < w.heap.size
  | [], _, _, _, h => by simp at h
  | d :: ds, _, .inl ⟨_, ⟨r', e, h1, _⟩, _, hr⟩, r, h => by
    rcases List.mem_cons.1 h with h2 | h2
    · rw [← h2] at e
      simp at e
      subst e
      exact (Array.getElem?_eq_some_iff.1 h1).1
    · exact Md.marks_lt hr r h2
  | d :: ds, _, .inr ⟨f, caps, l', vs, _, e2, _, hr⟩, r, h => by
    rcases List.mem_cons.1 h with h2 | h2
    · rw [← h2] at e2
      simp at e2
    · exact Md.marks_lt hr r h2

/-- A loop over a function that ends by itself. -/
theorem AW_rangeFunc (hro : E0.ro = .fn) {g : Operand} {ps : Array Tmp} {assign body : Code} {σ : St} {Q : Exit → St → Prop} {K : FuncId} {caps : List AV} {gl' : List (Nat × AV)} {args' : List AV} {io gv : List (List AV)} {R : Out → Prop}
    (hf : σ.ev g = .clo K caps) (hen : Enters P K) (hspec : SpecV (Calls P K) gl' args' io gv R) (p : Nat) (hps : ps = #[p]) (ts : List Nat)
    (ios gvs lb : List Nat) (hlen : ios.length = io.length) (hlenv : gvs.length = gv.length) (hnd : (ios ++ gvs).Nodup) (hne : ∀ cs ∈ io, cs ≠ [])
    (hargs : (AV.yld ⟨p, σ.nt, assign, body, ts⟩ (ts.map fun t => alook t σ.tm) :: caps).map (lendA (lentBx lb σ)) = AVs.map (ioMap σ.nx (ios ++ gvs)) args')
    (hio : ∀ (j k : Nat) (cs : List AV), (ios ++ gvs)[j]? = some k → (io ++ gv)[j]? = some cs → blook k σ.bx = some (AVs.map (ioMap σ.nx (ios ++ gvs)) cs))
    (hlb : ∀ k ∈ lb, (blook k σ.bx).isSome ∧ k ∉ ios ++ gvs)
    (hgl : ∀ p ∈ gl', alook p.1 σ.gl = p.2.map (ioMap σ.nx (ios ++ gvs)))
    (hret : ∀ x io' nb, R (.ret x io' nb) → io'.length = io.length → keptAll x io' nb = true ∧ nb.length ≤ 8 ∧ Q .normal (σ.behindG σ.nx (σ.nx + 8) σ.tm ios io' nb gvs)) : AW P X w0 E0 (.rangeFunc g ps assign body) σ Q := by
  intro E a w hg hs
  have hF : FrO E0.ro = Fence.wide := by rw [hro]; rfl
  rw [hF]
  refine wpIn_rangeFunc (fun fn _ => ?_)
  let r : Loop := { state := .ready, pending := none, fn, tmps := a.tmps, params := ps, assign, body, defers := w.heap.size }
  let wD : World := w.alloc (.deferred (some []))
  let w1 : World := wD.alloc (.loop r)
  let l : Nat := w.heap.size + 1
  have sD : wD.heap.size = w.heap.size + 1 := by show (w.heap.push _).size = _; simp
  have s1 : w1.heap.size = w.heap.size + 2 := by show (wD.heap.push _).size = _; simp [sD]
  have old : ∀ g, g < w.heap.size → w1.heap[g]? = w.heap[g]? := by
    intro g hgl
    rw [heap_alloc_old wD (.loop r) g (by omega), heap_alloc_old w _ g hgl]
  have atD : w1.heap[w.heap.size]? = some (.deferred (some [])) := by
    rw [heap_alloc_old wD (.loop r) _ (by omega)]
    exact heap_alloc_new w _
  have atL : w1.heap[l]? = some (.loop r) := by
    have := heap_alloc_new wD (.loop r)
    rwa [sD] at this
  obtain ⟨cvs, hfe, hcm⟩ : ∃ cvs, a.eval g = .func (.func K) #[] ⟨cvs⟩ ∧ Ms w E caps cvs := by
    have hfv := hs.ev g
    rw [hf] at hfv
    exact hfv
  have st : Stays w E w1 E := ⟨fun _ _ h => h, fun _ h => h, fun _ h => h, fun _ h => h, fun g i hi => rowIn_old old hi, fun g hgl => old g (hs.lim g hgl)⟩
  have hs1 : Sim X w0 E σ { a with defers := { target := .collected w.heap.size, args := #[] } :: a.defers } w1 := by
    refine ⟨hs.nt, fun t => M.stays st _ _ (hs.tm t), fun g => M.stays st _ _ (hs.gl g), fun k cs hk => (hs.bx k cs hk).stays_other st (fun g hgl => old g (hs.live_lt (by rw [hk]; rfl) hgl)), hs.own, hs.inj, fun g hgl => ?_,
      hs.keep.trans ⟨rfl, rfl, rfl, by omega, fun g hgl _ => old g hgl⟩, fun g i h0 => rowIn_old old (hs.rw g i h0), hs.fr, hs.px, .inl ⟨hg.ro.trans hro, ⟨_, rfl, atD, hs.keep.size⟩, fun hmem => ?_, Md.stays st ⟨.old old, rfl⟩ hs.df⟩⟩
    · have := hs.lim g hgl; omega
    · have := hs.df.marks_lt _ hmem
      omega
  have hcm1 : Ms w1 (E.addT (fun g => g = l)) (AV.yld ⟨p, σ.nt, assign, body, ts⟩ (ts.map fun t => alook t σ.tm) :: caps) (.func (.yield l) #[] #[] :: cvs) := by
    refine Ms_cons.2 ⟨_, _, rfl, ⟨l, r, rfl, .inr rfl, atL, ⟨rfl, rfl, hps, rfl, rfl, hs.nt⟩, ?_⟩, Ms.stays (stays_addT w1 E _) _ _ (Ms.stays st _ _ hcm)⟩
    have key : ∀ ts : List Nat, Ms w1 (E.addT (fun g => g = l)) (ts.map fun t => alook t σ.tm) (ts.map fun t => r.tmps.getD t undef) := by
      intro ts
      induction ts with
      | nil => rfl
      | cons t ts ih => exact Ms_cons.2 ⟨_, _, rfl, M.stays (stays_addT w1 E _) _ _ (hs1.tm t), ih⟩
    exact key ts
  obtain ⟨post, hcall, hpost⟩ := call_coreV hg hs1 (b := σ.nx) (N := σ.nx + 8) (fun k hk _ => hs.fr k hk) (by omega) (by omega) (TL := fun g => g = l)
    (by
      rintro g rfl
      refine ⟨by omega, fun k hk hkl => ?_⟩
      have := hs.live_lt hk hkl
      omega)
    (fargs := []) hcm1 hspec ios gvs lb hlen hlenv hnd hne (by simpa [evs] using hargs) hio hlb hgl (t := false) (by simp)
  refine ⟨l, _, w1, { target := .fn (.func K) ⟨cvs⟩, args := #[.func (.yield l) #[] #[]] }, w1, K, ⟨.func (.yield l) #[] #[] :: cvs⟩, w1, run_enterLoop_outer fn a.tmps ps assign body, ?_, fun _ _ => trivial, ?_, by simp [Fence.wide], ?_⟩
  · simp only [resolve, rangeCall, hfe, Deferred.ofValue, Sem.run_bind, Sem.run_pure, Result.andThen_ok]
    simp [Act.eval]
  · have e2 : (#[.func (.yield l) #[] #[]] : Array Value) ++ (⟨cvs⟩ : Array Value) = ⟨.func (.yield l) #[] #[] :: cvs⟩ := Array.ext' (by simp)
    simp only [invoke]
    rw [e2]
    exact hen _ _
  · refine callsIn_wide.2 (Calls.mono hcall ?_)
    intro e w' he
    obtain ⟨hkeep, x, io', nb, hR, v, rfl, hle, hk⟩ := hpost e w' he
    have hl' : w'.heap[l]? = some (.loop r) := (hkeep l (by omega) (fun k hk hkl => by
      have hkk : (blook k σ.bx).isSome := by
        obtain ⟨j, hj⟩ := mem_idx hk
        have hjl : j < (io ++ gv).length := by
          rcases Nat.lt_or_ge j (ios ++ gvs).length with h1 | h1
          · simp at h1 ⊢; omega
          · simp only [List.getElem?_eq_none h1] at hj; simp at hj
        rw [hio j k (io ++ gv)[j] hj (List.getElem?_eq_getElem hjl)]
        rfl
      have := hs.live_lt hkk hkl
      omega)).trans atL
    obtain ⟨h1, h2, h3⟩ := hret x io' nb hR hle
    obtain ⟨E2, hgw, _, hg2, hs2⟩ := hk (by simpa using h1) h2 none rfl
    have hnot : ¬ E2.S l ∧ ¬ E2.T l := by
      refine ⟨fun hS => ?_, fun hT => ?_⟩
      · rcases hgw.new l hS with h4 | h4
        · have := hs.lim l (.inl h4); omega
        · omega
      · have := hs.lim l (.inr ((hgw.T l).1 hT)); omega
    refine ⟨_, _, run_endLoop hl' (by simp [r]), E2, _, h3, hg2, ?_⟩
    refine hs2.putLoop hl' hnot w0 rfl ⟨hs2.keep.os, hs2.keep.tape, hs2.keep.output, by rw [World.putObj_size]; exact hs2.keep.size, fun g hgl hX => ?_⟩ (fun _ => rfl)
    have := hs.keep.size
    rw [World.putObj_heap_other (by omega)]
    exact hs2.keep.block g hgl hX

/-- The same, with yield's place among the arguments written out. -/
theorem AW_rangeFunc1 (hro : E0.ro = .fn) {g : Operand} {ps : Array Tmp} {assign body : Code} {σ : St} {Q : Exit → St → Prop} {K : FuncId} {caps : List AV} {gl' : List (Nat × AV)} {ycaps args2 : List AV} {io gv : List (List AV)} {R : Out → Prop} {p nt : Nat} {ts : List Nat}
    (hf : σ.ev g = .clo K caps) (hen : Enters P K) (hps : ps = #[p]) (hnt : σ.nt = nt) (hspec : SpecV (Calls P K) gl' (.yld ⟨p, nt, assign, body, ts⟩ ycaps :: args2) io gv R)
    (ios gvs lb : List Nat) (hlen : ios.length = io.length) (hlenv : gvs.length = gv.length) (hnd : (ios ++ gvs).Nodup) (hne : ∀ cs ∈ io, cs ≠ [])
    (hy : (ts.map fun t => alook t σ.tm) = AVs.map (ioMap σ.nx (ios ++ gvs)) ycaps)
    (hargs : caps.map (lendA (lentBx lb σ)) = AVs.map (ioMap σ.nx (ios ++ gvs)) args2)
    (hio : ∀ (j k : Nat) (cs : List AV), (ios ++ gvs)[j]? = some k → (io ++ gv)[j]? = some cs → blook k σ.bx = some (AVs.map (ioMap σ.nx (ios ++ gvs)) cs))
    (hlb : ∀ k ∈ lb, (blook k σ.bx).isSome ∧ k ∉ ios ++ gvs)
    (hgl : ∀ p ∈ gl', alook p.1 σ.gl = p.2.map (ioMap σ.nx (ios ++ gvs)))
    (hret : ∀ x io' nb, R (.ret x io' nb) → io'.length = io.length → keptAll x io' nb = true ∧ nb.length ≤ 8 ∧ Q .normal (σ.behindG σ.nx (σ.nx + 8) σ.tm ios io' nb gvs)) : AW P X w0 E0 (.rangeFunc g ps assign body) σ Q := by
  subst hnt
  refine AW_rangeFunc hro hf hen hspec p hps ts ios gvs lb hlen hlenv hnd hne ?_ hio hlb hgl hret
  simp only [List.map_cons, AVs.map, AV.map, lendA, lendC, hargs, hy]

end
end Go.Proofs.YtgbpgplkhifgiaaDoor

/- A guarded call in a region whose order is drawn. No condition. -/
set_option linter.unusedVariables false
set_option linter.unusedSimpArgs false
namespace Go.Proofs.YtgbpgplkhifgiaaDoor
open Go Go.RowKit

section
variable {P : Program} {X : Nat → Prop} {w0 : World} {E0 : Env} {T : TypeId → Option TI} {eqt : List TypeId}

/-- A call of a function in a drawn region, with or without a guard. -/
theorem DL_callW {ops : Array Oper} {ms : List (List Nat)} {n0 N i : Nat} (hN : N = n0 + 8 * ops.size) {acc : List (Nat × Foot)} {o : Oper} {l : List Oper} {σ : St} {Q : St → Prop} {f : Operand} {fargs : Array Operand} {fty : Array TypeId} {K : FuncId} {caps : List AV} {gl' : List (Nat × AV)} {args' : List AV} {io io' nb : List (List AV)} {x : AV} {R : Out → Prop}
    (ho : o.op = .call ⟨.value f, fargs, fty⟩) (hgd : Wanted ops σ o) (hd : dstOk σ o.dst = true) (hf : σ.ev f = .clo K caps) (hen : Enters P K) (hspec : Spec P gl' K args' io R) (hR : ∀ out, R out → out = .ret x io' nb)
    (ios lb : List Nat) (hlen : ios.length = io.length) (hlen' : io'.length = io.length) (hnd : ios.Nodup) (hne : ∀ cs ∈ io, cs ≠ [])
    (hargs : (evs σ fargs.toList ++ caps).map (lendA (lentBx lb σ)) = AVs.map (ioMap N ios) args')
    (hio : ∀ (j k : Nat) (cs : List AV), ios[j]? = some k → io[j]? = some cs → blook k σ.bx = some (AVs.map (ioMap N ios) cs))
    (hlb : ∀ k ∈ lb, (blook k σ.bx).isSome ∧ k ∉ ios)
    (hgl : ∀ p ∈ gl', alook p.1 σ.gl = p.2.map (ioMap N ios))
    (hkept : (lb.isEmpty || keptAll x io' nb) = true) (hnb : nb.length ≤ 8)
    (hfine : fine ms i (ios ++ (newIo (gMap (n0 + 8 * i) ios) (n0 + 8 * i) nb).map (·.1), ios ++ lb) acc = true)
    (h : DL P X w0 E0 ops ms n0 N Q (i + 1) (addFoot i (ios ++ (newIo (gMap (n0 + 8 * i) ios) (n0 + 8 * i) nb).map (·.1), ios ++ lb) acc) l (σ.behindB (n0 + 8 * i) N (tput o.dst (x.map (gMap (n0 + 8 * i) ios)) σ.tm) ios io' nb)) :
    DL P X w0 E0 ops ms n0 N Q i acc (o :: l) σ := by
  intro hn hl
  obtain ⟨h1, h2⟩ := drop_cons hl
  have hoi : ops[i]? = some o := by simpa using h1
  simp at hn
  have hb8 : n0 + 8 * i + 8 ≤ N := by omega
  let b := n0 + 8 * i
  let t : Tk := ⟨⟨x.map (gMap b ios), zipIo (gMap b ios) ios io' ++ newIo (gMap b ios) b nb⟩, ios ++ lb⟩
  have zk : ∀ (ios : List Nat) (io' : List (List AV)) (g : Nat → Nat), ios.length = io'.length → (zipIo g ios io').map (·.1) = ios := by
    intro ios
    induction ios with
    | nil => intro io' g h; cases io' <;> simp [zipIo]
    | cons k ks ih =>
      intro io' g h
      cases io' with
      | nil => simp at h
      | cons c cs => simp [zipIo, ih cs g (by simpa using h)]
  have hfoot : t.foot = (ios ++ (newIo (gMap b ios) b nb).map (·.1), ios ++ lb) := by
    show (List.map _ (zipIo _ _ _ ++ _), _) = _
    rw [List.map_append, zk ios io' _ (by omega)]
  have hbeh : σ.behindB b N (tput o.dst (x.map (gMap b ios)) σ.tm) ios io' nb = σ.app N o.dst t.e := by
    simp only [St.behindB, St.app, t, List.append_assoc]
  refine DR_task hoi (t := t) ?_ (by rw [hfoot]; exact hfine) (by rw [hfoot, ← hbeh]; exact h (by omega) h2)
  intro σ' hnt hnx hgl' hdf hq hbx E a w Q' K' hg hs hfr hK
  have evEq : ∀ y ∈ o.op.operands.toList, σ'.ev y = σ.ev y := by
    intro y hy
    cases y with
    | tmp t => exact hq t (operand_onames hy)
    | const v => rfl
    | global g => simp only [St.ev, hgl']
    | func f => rfl
  have hf' : σ'.ev f = .clo K caps := by rw [evEq f (by rw [ho]; simp [Op.operands, Call.operands]), hf]
  have hevs : evs σ' fargs.toList = evs σ fargs.toList := evs_congr fun y hy => evEq y (by rw [ho]; simp [Op.operands, Call.operands]; exact .inr (by simpa using hy))
  obtain ⟨cvs, hcm, hrun⟩ := run_enter (P := P) hs ho hf' hen
  have hlook : ∀ k, k ∈ ios ++ lb → blook k σ'.bx = blook k σ.bx := hbx
  have hlent : ∀ y, lendA (lentBx lb σ') y = lendA (lentBx lb σ) y := by
    have : lentBx lb σ' = lentBx lb σ := by
      funext k
      unfold lentBx
      split
      · rename_i hc; exact hlook k (by simp; exact .inr (by simpa using hc))
      · rfl
    intro y
    rw [this]
  obtain ⟨post, hcall, hpost⟩ := call_core hg hs (b := b) (N := N) hfr (by omega) hb8 hcm hspec ios lb hlen hnd hne
    (by rw [hevs, hnx]; rw [← hargs]; exact List.map_congr_left fun y _ => hlent y)
    (by
      intro j k cs hj hc
      rw [hlook k (by simp; exact .inl (List.mem_of_getElem? hj)), hnx]
      exact hio j k cs hj hc)
    (by
      intro k hk
      rw [hlook k (by simp [hk])]
      exact hlb k hk)
    (by intro p hp; rw [hgl', hnx]; exact hgl p hp)
  unfold wpOpIn
  simp only [hoi]
  have hw : Region.wanted o (yielded ops a.tmps) = true := by
    rcases hgd with hgd | ⟨j, t, want, hgd, hj, hb⟩
    · simp [Region.wanted, hgd]
    · have hb' : alook t σ'.tm = .val (.bool want) := by rw [hq t (guard_onames hgd hj)]; exact hb
      have hy := yielded_of hs hj hb'
      simp [Region.wanted, hgd, hy]
  rw [if_pos hw]
  refine oper_fr (by rw [ho]; intro c; simp) ?_
  rw [hrun, Oper.upon_enter]
  refine Calls.mono hcall ?_
  intro e w' he
  obtain ⟨out, hRo, hout⟩ := hpost e w' he
  have hout' := hR out hRo
  subst hout'
  obtain ⟨v, rfl, hle, hk⟩ := hout
  have hd' : dstOk σ' o.dst = true := by rw [← hd]; unfold dstOk; rw [hnt]
  obtain ⟨E2, hn2, hg2, hs2⟩ := hk hkept hnb o.dst hd'
  refine hK E2 _ _ hn2 hg2 ?_
  have : σ'.behindB b N (tput o.dst (x.map (gMap b ios)) σ'.tm) ios io' nb = σ'.app N o.dst t.e := by
    simp only [St.behindB, St.app, t, List.append_assoc]
  rw [← this]
  exact hs2

/-- A guarded call that only computes. -/
theorem DL_callPW {ops : Array Oper} {ms : List (List Nat)} {n0 N i : Nat} (hN : N = n0 + 8 * ops.size) {acc : List (Nat × Foot)} {o : Oper} {l : List Oper} {σ : St} {Q : St → Prop} {f : Operand} {fargs : Array Operand} {fty : Array TypeId} {K : FuncId} {caps : List AV} {args' : List AV} {gl' : List (Nat × AV)} {x : AV}
    (ho : o.op = .call ⟨.value f, fargs, fty⟩) (hgd : Wanted ops σ o) (hd : dstOk σ o.dst = true) (hf : σ.ev f = .clo K caps) (hen : Enters P K) (hspec : Spec P gl' K args' [] (fun out => out = .ret x [] []))
    (lb : List Nat) (hargs : (evs σ fargs.toList ++ caps).map (lendA (lentBx lb σ)) = AVs.map (ioMap N []) args')
    (hlb : ∀ k ∈ lb, (blook k σ.bx).isSome) (hgl : ∀ p ∈ gl', alook p.1 σ.gl = p.2.map (ioMap N [])) (hk : (lb.isEmpty || x.kept) = true) (hx : x.map (gMap (n0 + 8 * i) []) = x) (hfine : fine ms i ([], lb) acc = true)
    (h : DL P X w0 E0 ops ms n0 N Q (i + 1) (addFoot i ([], lb) acc) l { σ with nx := N, tm := tput o.dst x σ.tm }) : DL P X w0 E0 ops ms n0 N Q i acc (o :: l) σ := by
  refine DL_callW hN ho hgd hd hf hen hspec (fun out h => h) [] lb rfl rfl List.nodup_nil (by simp) hargs (by simp) (fun k hk => ⟨hlb k hk, by simp⟩) hgl (by simpa [keptAll] using hk) (by simp) (by simpa [newIo] using hfine) ?_
  simp only [St.behindB, zipIo, newIo, List.nil_append, List.map_nil, hx]
  exact h

mutual
/-- A nil slice seen as a slice of no elements. -/
def nilA : AV → AV
  | .val v => match v with
    | .slice none 0 0 => .ds true 0 []
    | v => .val v
  | .agg l => .agg (nilAs l)
  | .tup l => .tup (nilAs l)
  | .any => .any
  | .ptr a b => .ptr a b
  | .sl a b c d e => .sl a b c d e
  | .ds a b c => .ds a b c
  | .dp a b => .dp a b
  | .clo a b => .clo a b
  | .ifc a b => .ifc a b
  | .yld a b => .yld a b
def nilAs : List AV → List AV
  | [] => []
  | x :: l => nilA x :: nilAs l
end

mutual
theorem M_nilA {w : World} {E : Env} : ∀ (x : AV) (v : Value), M w E x v → M w E (nilA x) v
  | .val u, v, h => by
    unfold Go.Proofs.YtgbpgplkhifgiaaDoor.nilA
    split
    · simp only [M] at h
      subst h
      exact .inl ⟨rfl, rfl, _, _, rfl⟩
    · exact h
  | .agg l, v, ⟨vs, hv, hm⟩ => ⟨vs, hv, Ms_nilAs l vs hm⟩
  | .tup l, v, ⟨vs, hv, hm⟩ => ⟨vs, hv, Ms_nilAs l vs hm⟩
  | .any, _, h => h
  | .ptr _ _, _, h => h
  | .sl _ _ _ _ _, _, h => h
  | .ds _ _ _, _, h => h
  | .dp _ _, _, h => h
  | .clo _ _, _, h => h
  | .ifc _ _, _, h => h
  | .yld _ _, _, h => h
theorem Ms_nilAs {w : World} {E : Env} : ∀ (l : List AV) (vs : List Value), Ms w E l vs → Ms w E (nilAs l) vs
  | [], _, h => h
  | x :: l, _, ⟨v, vs', hv, h1, h2⟩ => ⟨v, vs', hv, M_nilA x v h1, Ms_nilAs l vs' h2⟩
end

def St.nils (σ : St) : St := { σ with tm := σ.tm.map fun p => (p.1, nilA p.2), bx := σ.bx.map fun p => (p.1, p.2.map nilAs) }

theorem nilAs_nil {l : List AV} (h : l = []) : nilAs l = [] := by subst h; rfl

/-- From here on nil slices are seen as slices of no elements. -/
theorem AW_nils {c : Code} {σ : St} {Q : Exit → St → Prop} (h : AW P X w0 E0 c σ.nils Q) : AW P X w0 E0 c σ Q := by
  intro E a w hg hs
  have bk : ∀ k, blook k σ.nils.bx = (blook k σ.bx).map nilAs := by
    intro k
    simp only [St.nils]
    exact blook_mapf
  have live : ∀ k, (blook k σ.nils.bx).isSome = (blook k σ.bx).isSome := by intro k; rw [bk]; cases blook k σ.bx <;> rfl
  refine h E a w hg ⟨hs.nt, ?_, hs.gl, ?_, ?_, ?_, hs.lim, hs.keep, hs.rw, hs.fr, hs.px, hs.df⟩
  · intro t
    have : alook t σ.nils.tm = nilA (alook t σ.tm) := alook_mapf rfl
    rw [this]
    exact M_nilA _ _ (hs.tm t)
  · intro k cs hk
    rw [bk] at hk
    cases hq : blook k σ.bx with
    | none => rw [hq] at hk; simp at hk
    | some cs0 =>
      rw [hq] at hk
      simp at hk
      subst hk
      rcases hs.bx k cs0 hq with ⟨h1, h2⟩ | ⟨g, c, ty, vs, h1, h2, h3, h4, h5⟩
      · exact .inl ⟨h1, nilAs_nil h2⟩
      · exact .inr ⟨g, c, ty, vs, h1, h2, h3, h4, Ms_nilAs _ _ h5⟩
  · intro k g hk hb
    rw [live] at hk
    exact hs.own k g hk hb
  · intro k k' g hk hk' h1 h2
    rw [live] at hk hk'
    exact hs.inj k k' g hk hk' h1 h2

/-- A guarded call that only computes, and reads package variables. -/
theorem AL_callGW {ops : Array Oper} {o : Oper} {l : List Oper} {σ : St} {Q : Exit → St → Prop} {f : Operand} {fargs : Array Operand} {fty : Array TypeId} {K : FuncId} {caps : List AV} {gl' : List (Nat × AV)} {args' : List AV} {x : AV}
    (ho : o.op = .call ⟨.value f, fargs, fty⟩) (hgd : Wanted ops σ o) (hd : dstOk σ o.dst = true) (hf : σ.ev f = .clo K caps) (hen : Enters P K) (hspec : Spec P gl' K args' [] (fun out => out = .ret x [] []))
    (lb : List Nat) (hargs : (evs σ fargs.toList ++ caps).map (lendA (lentBx lb σ)) = AVs.map (ioMap σ.nx []) args')
    (hlb : ∀ k ∈ lb, (blook k σ.bx).isSome) (hk : (lb.isEmpty || x.kept) = true) (hx : x.map (gMap σ.nx []) = x) (hgl : ∀ p ∈ gl', alook p.1 σ.gl = p.2.map (ioMap σ.nx []))
    (h : AL P X w0 E0 ops l { σ with nx := σ.nx + 8, tm := tput o.dst x σ.tm } Q) : AL P X w0 E0 ops (o :: l) σ Q := by
  refine AL_callW ho hgd hd hf hen hspec [] lb rfl List.nodup_nil (by simp) hargs (by simp) (fun k hk => ⟨hlb k hk, by simp⟩) hgl (fun x2 io2 nb2 hR _ => ?_) (fun v io2 hR _ => by simp at hR)
  simp only [Out.ret.injEq] at hR
  obtain ⟨rfl, rfl, rfl⟩ := hR
  refine ⟨by simpa [keptAll] using hk, by simp, ?_⟩
  rw [hx]
  exact h
end
end Go.Proofs.YtgbpgplkhifgiaaDoor

/- The definitions by which the walks compute, as equations, in one. No condition. -/
set_option linter.defProp false
namespace Go.Proofs.YtgbpgplkhifgiaaDoor
open Go Go.RowKit

def AwD :=
  (And.intro (And.intro (And.intro (And.intro (And.intro (And.intro (And.intro @runR.eq_1 @runR.eq_2) (And.intro @runD.eq_1 @runD.eq_2)) (And.intro (And.intro @ostep.eq_1 @ostepB.eq_1) (And.intro @aop.eq_1 @aopB.eq_1))) (And.intro (And.intro (And.intro @dstOk.eq_1 @dstOk.eq_2) (And.intro @aeff.eq_1 @St.ev.eq_1)) (And.intro (And.intro @St.ev.eq_2 @St.ev.eq_3) (And.intro @St.ev.eq_4 (And.intro @alook.eq_1 @alook.eq_2))))) (And.intro (And.intro (And.intro (And.intro @blook.eq_1 @blook.eq_2) (And.intro @aBox.eq_1 @AV.known.eq_1)) (And.intro (And.intro @AV.known.eq_2 @cav.eq_1) (And.intro @cav.eq_2 @St.app.eq_1))) (And.intro (And.intro (And.intro @tput.eq_1 @tput.eq_2) (And.intro @evs.eq_1 @evs.eq_2)) (And.intro (And.intro @evp.eq_1 @evp.eq_2) (And.intro @allKnown.eq_1 (And.intro @allKnown.eq_2 @allKnown.eq_3)))))) (And.intro (And.intro (And.intro (And.intro (And.intro @gslot.eq_1 @min2.eq_1) (And.intro @min2.eq_2 @max2.eq_1)) (And.intro (And.intro @max2.eq_2 @AV.cs.eq_1) (And.intro @AV.cs.eq_2 @AV.cs.eq_3))) (And.intro (And.intro (And.intro @AV.cs.eq_4 @AV.cs.eq_5) (And.intro @AV.cs.eq_6 @AV.cell.eq_1)) (And.intro (And.intro @AV.cell.eq_2 @AV.cell.eq_3) (And.intro @AV.cell.eq_4 (And.intro @AV.cell.eq_5 @AV.cell.eq_6))))) (And.intro (And.intro (And.intro (And.intro @loadC.eq_1 @aField.eq_1) (And.intro @aField.eq_2 @aField.eq_3)) (And.intro (And.intro @TD.elem.eq_1 @TD.elem.eq_2) (And.intro @TD.elem.eq_3 (And.intro @TD.isAgg.eq_1 @TD.isAgg.eq_2)))) (And.intro (And.intro (And.intro @TD.isAgg.eq_3 @TD.isInt.eq_1) (And.intro @TD.isInt.eq_2 @TD.isInt.eq_3)) (And.intro (And.intro @keepGr.eq_1 @keepGr.eq_2) (And.intro @aBound.eq_1 (And.intro @aBound.eq_2 @aBound.eq_3))))))) (And.intro (And.intro (And.intro (And.intro (And.intro (And.intro @aBuild.eq_1 @aFill.eq_1) (And.intro @aFill.eq_2 @placesOf.eq_1)) (And.intro (And.intro @placesOf.eq_2 @bytesOf.eq_1) (And.intro @bytesOf.eq_2 @bytesOf.eq_3))) (And.intro (And.intro (And.intro @aEql.eq_1 @aEql.eq_2) (And.intro @aEql.eq_3 @TI.one.eq_1)) (And.intro (And.intro @eqS.eq_1 @eqS.eq_2) (And.intro @eqS.eq_3 (And.intro @eqS.eq_4 @eqL.eq_1))))) (And.intro (And.intro (And.intro (And.intro @eqL.eq_2 @eqL.eq_3) (And.intro @fits.eq_1 @fits.eq_2)) (And.intro (And.intro @fits.eq_3 @fits.eq_4) (And.intro @srcOf.eq_1 @srcOf.eq_2))) (And.intro (And.intro (And.intro @srcOf.eq_3 @srcOf.eq_4) (And.intro @srcOf.eq_5 @dstOf.eq_1)) (And.intro (And.intro @dstOf.eq_2 @dstOf.eq_3) (And.intro @killK.eq_1 (And.intro @killK.eq_2 @replZ.eq_1)))))) (And.intro (And.intro (And.intro (And.intro (And.intro @AV.tops.eq_1 @AV.tops.eq_2) (And.intro @AV.tops.eq_3 @AV.tops.eq_4)) (And.intro (And.intro @Tk.foot.eq_1 @addFoot.eq_1) (And.intro @fine.eq_1 @fine.eq_2))) (And.intro (And.intro (And.intro @apart.eq_1 @disj.eq_1) (And.intro @disj.eq_2 @St.behind.eq_1)) (And.intro (And.intro @St.behindB.eq_1 @zipIo.eq_1) (And.intro @zipIo.eq_2 (And.intro @newIo.eq_1 @newIo.eq_2))))) (And.intro (And.intro (And.intro (And.intro @gMap.eq_1 @ioMap.eq_1) (And.intro @AV.map.eq_1 @AV.map.eq_2)) (And.intro (And.intro @AV.map.eq_3 @AV.map.eq_4) (And.intro @AV.map.eq_5 (And.intro @AV.map.eq_6 @AV.map.eq_7)))) (And.intro (And.intro (And.intro @AV.map.eq_8 @AV.map.eq_9) (And.intro @AV.map.eq_10 @AV.map.eq_11)) (And.intro (And.intro @AVs.map.eq_1 @AVs.map.eq_2) (And.intro @nmap.eq_1 (And.intro @nmap.eq_2 @cmp.eq_1))))))))

end Go.Proofs.YtgbpgplkhifgiaaDoor
