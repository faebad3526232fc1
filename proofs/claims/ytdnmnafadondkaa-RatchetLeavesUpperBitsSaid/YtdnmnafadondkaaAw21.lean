/- Panics, deferred calls, recover; forgetting. No condition. -/
import Derived.Test.YtdnmnafadondkaaAw20
import Derived.Recover
set_option linter.unusedVariables false
set_option linter.unusedSimpArgs false
namespace Go.Proofs.Ytdnmnafadondkaa
open Go Go.RowKit

mutual
def AV.conc : AV → Option Value
  | .val v => some v
  | .agg cs => (AVs.conc cs).map fun vs => .agg ⟨vs⟩
  | .ifc t x => x.conc.map (.iface t)
  | _ => none
def AVs.conc : List AV → Option (List Value)
  | [] => some []
  | x :: l => match x.conc, AVs.conc l with
    | some v, some vs => some (v :: vs)
    | _, _ => none
end

section
variable {P : Program} {X : Nat → Prop} {w0 : World} {E0 : Env} {T : TypeId → Option TI} {eqt : List TypeId}

mutual
theorem M.conc {w : World} {E : Env} : ∀ (x : AV) (v u : Value), x.conc = some v → M w E x u → u = v
  | .val y, v, u, h, hm => by simp [AV.conc] at h; subst h; exact hm
  | .agg cs, v, u, h, hm => by
    simp [AV.conc] at h
    obtain ⟨vs, h1, rfl⟩ := h
    obtain ⟨us, rfl, h2⟩ := hm
    rw [Ms.conc cs vs us h1 h2]
  | .ifc t x, v, u, h, hm => by
    simp [AV.conc] at h
    obtain ⟨y, h1, rfl⟩ := h
    obtain ⟨z, rfl, h2⟩ := hm
    rw [M.conc x y z h1 h2]
  | .any, _, _, h, _ => by simp [AV.conc] at h
  | .ptr _ _, _, _, h, _ => by simp [AV.conc] at h
  | .sl _ _ _ _ _, _, _, h, _ => by simp [AV.conc] at h
  | .ds _ _ _, _, _, h, _ => by simp [AV.conc] at h
  | .dp _ _, _, _, h, _ => by simp [AV.conc] at h
  | .tup _, _, _, h, _ => by simp [AV.conc] at h
  | .clo _ _, _, _, h, _ => by simp [AV.conc] at h
theorem Ms.conc {w : World} {E : Env} : ∀ (cs : List AV) (vs us : List Value), AVs.conc cs = some vs → Ms w E cs us → us = vs
  | [], vs, us, h, hm => by simp [AVs.conc] at h; subst h; exact hm
  | x :: l, vs, us, h, hm => by
    simp only [AVs.conc] at h
    split at h
    · rename_i v vs' h1 h2
      simp at h
      subst h
      obtain ⟨u, us', rfl, h3, h4⟩ := hm
      rw [M.conc x v u h1 h3, Ms.conc l vs' us' h2 h4]
    · simp at h
end

theorem AL_panic {ops : Array Oper} {o : Oper} {l : List Oper} {σ : St} {Q : Exit → St → Prop} {x : Operand} {t : TypeId} {y : Value} (ho : o.op = .panic x) (hgd : o.guard = none)
    (hc : (σ.ev x).conc = some (.iface t y)) (hq : Q (.panic [{ v := .iface t y, recovered := false }]) σ) : AL P X w0 E0 ops (o :: l) σ Q := by
  intro i hi E a w hg hs
  obtain ⟨hoi, hl⟩ := drop_cons hi
  have ho' : ops[i]? = some o := by simpa using hoi
  simp only [List.length_cons, List.range', wpOps, ho']
  have hw : Region.wanted o (yielded ops a.tmps) = true := by simp [Region.wanted, hgd]
  rw [if_pos hw]
  refine .inl ?_
  have hv := M.conc _ _ _ hc (hs.ev x)
  have hrun : (execOp a.eval o).run P w = .halt (.panic (.iface t y)) w := by
    simp only [execOp, ho, hv]
    simp [Instr.panic, goPanic, Sem.halt]
  unfold Oper.wp
  rw [hrun, Oper.upon_panic]
  exact ⟨E, σ, hq, hg, hs⟩

theorem AL_defer {ops : Array Oper} {o : Oper} {l : List Oper} {σ : St} {Q : Exit → St → Prop} {f : Operand} {K : FuncId} {caps : List AV} (ho : o.op = .defer ⟨.value f, #[], #[]⟩) (hgd : o.guard = none) (hd : o.dst = none)
    (hf : σ.ev f = .clo K caps) (h : AL P X w0 E0 ops l { σ with df := (K, caps) :: σ.df } Q) : AL P X w0 E0 ops (o :: l) σ Q := by
  intro i hi E a w hg hs
  obtain ⟨hoi, hl⟩ := drop_cons hi
  have ho' : ops[i]? = some o := by simpa using hoi
  simp only [List.length_cons, List.range', wpOps, ho']
  have hw : Region.wanted o (yielded ops a.tmps) = true := by simp [Region.wanted, hgd]
  rw [if_pos hw]
  refine .inl ?_
  have hfv := hs.ev f
  rw [hf] at hfv
  obtain ⟨cvs, hfe, hcm⟩ := hfv
  have hrun : (execOp a.eval o).run P w = .ok (.defer { target := .fn (.func K) ⟨cvs⟩, args := #[] }) w := by
    have e : (#[] : Array Value) ++ (#[] : Array Operand).map a.eval = #[] := by simp
    simp only [execOp, ho, resolve, hfe, Deferred.ofValue, Sem.run_bind, Sem.run_pure, Result.andThen_ok]
    rw [e]
  unfold Oper.wp
  rw [hrun, Oper.upon_defer, hd]
  refine h (i + 1) hl E _ w hg ⟨hs.nt, hs.tm, hs.gl, hs.bx, hs.own, hs.inj, hs.lim, hs.keep, hs.rw, hs.fr, hs.px, ?_⟩
  exact ⟨cvs, _, rfl, hcm, hs.df⟩

/-! ### Deferred closures -/

/-- A deferred call, entered in mode u and left in mode U. -/
def CallsDm (P : Program) (F : FuncId) (u U : FrameMode) (args : Array Value) (w : World) (R : Ending → World → Prop) : Prop := CallsD P F args u w fun e u' w' => u' = U ∧ R e w'

/-- The end of a frame with one deferred closure. -/
def RetD (P : Program) (T : TypeId → Option TI) (rs : List ResultVar) (m : Nat) (R : Out → Prop) (u : FrameMode) (σ : St) : Prop :=
  ∃ F caps U gl' args' io R' ios, σ.df = [(F, caps)] ∧ u ≠ .run ∧ settle U = .returning ∧ Enters P F ∧ SpecG (CallsDm P F u U) gl' args' io R' ∧
    ios.length = io.length ∧ ios.Nodup ∧ (∀ cs ∈ io, cs ≠ []) ∧ caps.map (lendA (lentBx [] σ)) = AVs.map (ioMap σ.nx ios) args' ∧
    (∀ (j k : Nat) (cs : List AV), ios[j]? = some k → io[j]? = some cs → blook k σ.bx = some (AVs.map (ioMap σ.nx ios) cs)) ∧ (∀ p ∈ gl', alook p.1 σ.gl = p.2.map (ioMap σ.nx ios)) ∧
    ∀ out, R' out → ∃ x io' nb, out = .ret x io' nb ∧ nb.length ≤ 8 ∧ (io'.length = io.length → RetV T rs m R { σ.behind σ.tm ios io' nb with df := [] })

def RetDQ (P : Program) (T : TypeId → Option TI) (rs : List ResultVar) (m : Nat) (R : Out → Prop) : Exit → St → Prop
  | .normal, σ => RetD P T rs m R .returning σ
  | .ret, σ => RetD P T rs m R .returning σ
  | .panic chain, σ => RetD P T rs m R (.panicking chain) σ
  | _, _ => False

theorem spec_of_defer (hT : Tab P T eqt) {gl : List (Nat × AV)} {K : FuncId} {fn : Func} {c : Code} {args : List AV} {io : List (List AV)} {R : Out → Prop} (n : Nat) (rs : List ResultVar)
    (hf : P.funcs[K]? = some fn) (hb : fn.body = some c) (hnt : fn.ntmps = n) (hr : fn.results.toList = rs) (hn : args.length ≤ n)
    (h : ∀ (X : Nat → Prop) (w0 : World) (E0 : Env), Low E0 io.length → (∀ g, X g → ∃ k, k < io.length ∧ E0.bl k = some g) → AW P X w0 E0 c { nt := n, nx := io.length, tm := idx 0 args, bx := idx 0 (io.map some), gl := gl, df := [] } (RetDQ P T rs io.length R)) : Spec P gl K args io R := by
  subst hnt; subst hr
  intro E w vs hm hgl hio hlim hlow hpx
  refine calls_of_wp_defers hf hb ?_
  have hl := hm.len
  let X : Nat → Prop := fun g => ∃ k, k < io.length ∧ E.bl k = some g
  have bk : ∀ k, blook k (entry fn gl args io).bx = io[k]? := fun k => by
    show blook k (idx 0 (io.map some)) = _
    rw [blook_idx 0 k]; simp
  have lt_of : ∀ k, (blook k (entry fn gl args io).bx).isSome → k < io.length := fun k hk => by
    rw [bk] at hk
    rcases Nat.lt_or_ge k io.length with h1 | h1
    · exact h1
    · simp [List.getElem?_eq_none h1] at hk
  have hsim : Sim X w E (entry fn gl args io) { tmps := (⟨vs⟩ : Array Value) ++ Array.replicate (fn.ntmps - (⟨vs⟩ : Array Value).size) undef, defers := [] } w := by
    refine ⟨by simp [entry]; omega, fun t => ?_, hgl, fun k cs hk => hio.bx k cs (by rw [← bk]; exact hk), fun k g hk hg => ⟨(hio.own k g (lt_of k hk) hg).1, (hio.own k g (lt_of k hk) hg).2, .inr ⟨k, lt_of k hk, hg⟩⟩,
      fun k k' g hk hk' => hio.inj k k' g (lt_of k hk) (lt_of k' hk'), hlim, Keeps.refl _ _, fun _ _ h => h, hlow, hpx, rfl⟩
    have := alook_idx (w := w) (E := E) 0 hm t undef
    rw [getD_entry]
    simpa [entry] using this
  refine wp_mono (h X w E hlow (fun _ h => h) E _ w (Grow.refl _ _) hsim) ?_
  rintro e a' w' ⟨E', σ', q, hg', hs'⟩
  have leave : ∀ u, RetD P T fn.results.toList io.length R u σ' → Leaves P fn a'.tmps (fun e w' => ∃ out E', R out ∧ match out with
      | .ret x io' nb => (∃ v, e = .returned v ∧ M w' E' x v) ∧ After w E w' E' io.length io' nb
      | .pan v io' => e = .panicked [{ v, recovered := false }] ∧ After w E w' E' io.length io' []) a'.defers u w' := by
    rintro u ⟨F, caps, U, gl', args', io2, R', ios, hdf, hu, hset, hen, hspec, hlen, hnd, hne, hargs, hio2, hgl2, hout⟩
    have hmd := hs'.df
    rw [hdf] at hmd
    obtain ⟨cvs, ds', hds, hcm, hnil⟩ := hmd
    simp only [Md] at hnil
    subst hnil
    rw [hds]
    obtain ⟨post, hcall, hpost⟩ := call_core hg' hs' (b := σ'.nx) (N := σ'.nx + 8) (fun k hk _ => hs'.fr k hk) (by omega) (by omega) (fargs := []) hcm hspec ios [] hlen hnd hne
      (by simpa [evs] using hargs) hio2 (by simp) hgl2
    have hinv : (invoke (.fn (.func F) ⟨cvs⟩) #[]).run P w' = .ok (.enter F ⟨cvs⟩) w' := by
      have e2 : (#[] : Array Value) ++ (⟨cvs⟩ : Array Value) = ⟨cvs⟩ := by simp
      simp only [invoke]
      rw [e2]
      exact hen _ _
    refine leaves_cons hu hinv ?_
    have hcall' : CallsD P F ⟨cvs⟩ u w' fun e u' w'' => u' = U ∧ post e w'' := by simpa [CallsDm] using hcall
    refine CallsD.mono hcall' ?_
    rintro e u' w'' ⟨rfl, he⟩
    obtain ⟨out, hR', ho⟩ := hpost e w'' he
    obtain ⟨x, io', nb, rfl, hnb, hret⟩ := hout out hR'
    obtain ⟨v, rfl, hle, hk⟩ := ho
    obtain ⟨E2, _, hg2, hs2⟩ := hk (by simp) hnb none rfl
    obtain ⟨x2, io2', nb2, l, hlen2, hres, hsub, hR⟩ := hret hle
    simp only [hset, Leaves]
    have hs3 : Sim X w E2 { σ'.behind σ'.tm ios io' nb with df := [] } { a' with defers := [] } w'' :=
      ⟨hs2.nt, hs2.tm, hs2.gl, hs2.bx, hs2.own, hs2.inj, hs2.lim, hs2.keep, hs2.rw, hs2.fr, hs2.px, rfl⟩
    obtain ⟨v2, hr2, hmv⟩ := run_resOf hT hs3 hres
    obtain ⟨hg4, hs4⟩ := hs3.sub hg2 hsub hlow
    exact ⟨v2, hr2, .ret x2 io2' nb2, _, hR, ⟨v2, rfl, M.unmap (Env.named w'' E2 (nmap _ l)) x2 v2 hmv⟩, After.of_sim hlen2 hg4 hs4⟩
  cases e with
  | normal => exact leave .returning q
  | ret => exact leave .returning q
  | panic chain => exact leave (.panicking chain) q
  | _ => exact q.elim

/-- A deferred closure that first recovers. -/
theorem specD_of (hT : Tab P T eqt) {gl : List (Nat × AV)} {K : FuncId} {fn : Func} {c : Code} {id : Nat} {o : Oper} {args : List AV} {io : List (List AV)} {R : Out → Prop} (n : Nat) (rs : List ResultVar) {u U : FrameMode} {rv : Value} {t : Tmp}
    (hf : P.funcs[K]? = some fn) (hb : fn.body = some (.seq (.region id #[o] false) c)) (hnt : fn.ntmps = n) (hr : fn.results.toList = rs) (hn : args.length ≤ n)
    (ho : o.op = .call ⟨.builtin .recover, #[], #[]⟩) (hgd : o.guard = none) (hd : o.dst = some t) (ht : t < n)
    (hrec : ∀ (c₀ : Frame) (cs : List Frame), c₀.mode = u → (match recoverD (c₀ :: cs) with | some (v, cs') => v = rv ∧ cs' = { c₀ with mode := U } :: cs | none => rv = .nilIface ∧ U = u))
    (h : ∀ (X : Nat → Prop) (w0 : World) (E0 : Env), Low E0 io.length → (∀ g, X g → ∃ k, k < io.length ∧ E0.bl k = some g) → AW P X w0 E0 c { nt := n, nx := io.length, tm := (t, .val rv) :: idx 0 args, bx := idx 0 (io.map some), gl := gl, df := [] } (Ret T rs io.length R)) : SpecG (CallsDm P K u U) gl args io R := by
  subst hnt; subst hr
  intro E w vs hm hgl hio hlim hlow hpx
  have hl := hm.len
  let X : Nat → Prop := fun g => ∃ k, k < io.length ∧ E.bl k = some g
  have bk : ∀ k, blook k (entry fn gl args io).bx = io[k]? := fun k => by
    show blook k (idx 0 (io.map some)) = _
    rw [blook_idx 0 k]; simp
  have lt_of : ∀ k, (blook k (entry fn gl args io).bx).isSome → k < io.length := fun k hk => by
    rw [bk] at hk
    rcases Nat.lt_or_ge k io.length with h1 | h1
    · exact h1
    · simp [List.getElem?_eq_none h1] at hk
  have hsim : Sim X w E (entry fn gl args io) { tmps := (⟨vs⟩ : Array Value) ++ Array.replicate (fn.ntmps - (⟨vs⟩ : Array Value).size) undef, defers := [] } w := by
    refine ⟨by simp [entry]; omega, fun t => ?_, hgl, fun k cs hk => hio.bx k cs (by rw [← bk]; exact hk), fun k g hk hg => ⟨(hio.own k g (lt_of k hk) hg).1, (hio.own k g (lt_of k hk) hg).2, .inr ⟨k, lt_of k hk, hg⟩⟩,
      fun k k' g hk hk' => hio.inj k k' g (lt_of k hk) (lt_of k' hk'), hlim, Keeps.refl _ _, fun _ _ h => h, hlow, hpx, rfl⟩
    have := alook_idx (w := w) (E := E) 0 hm t undef
    rw [getD_entry]
    simpa [entry] using this
  refine callsD_of_wpS hf hb ?_
  intro c₀ cs hu
  refine wpS_seq (wpS_region ?_)
  have hrun : ∀ a : Act, (execOp a.eval o).run P w = .ok .recover w := by
    intro a
    simp only [execOp, ho]
    rfl
  have hw : ∀ a : Array Value, Region.wanted o (yielded #[o] a) = true := fun a => by simp [Region.wanted, hgd]
  have hsim2 := (hsim.val (d := some t) (x := .val rv) (v := rv) (nx := io.length) (by intro t' ht'; simp at ht'; subst ht'; exact ht) rfl (Nat.le_refl _))
  have cont : ∀ cs', cs' = { c₀ with mode := U } :: cs → c.wpS P (bodyPostS P fn c₀ cs fun e u' w' => u' = U ∧ ∃ out E', R out ∧ match out with
      | .ret x io' nb => (∃ v, e = .returned v ∧ M w' E' x v) ∧ After w E w' E' io.length io' nb
      | .pan v io' => e = .panicked [{ v, recovered := false }] ∧ After w E w' E' io.length io' [])
      (({ tmps := (⟨vs⟩ : Array Value) ++ Array.replicate (fn.ntmps - (⟨vs⟩ : Array Value).size) undef, defers := [] } : Act).put o.dst rv) cs' w := by
    intro cs' hcs
    subst hcs
    refine wpS_of_wp (wp_mono (h X w E hlow (fun _ h => h) E _ w (Grow.refl _ _) (by rw [hd]; exact hsim2)) ?_)
    rintro e a' w' ⟨E', σ', q, hg', hs'⟩
    have hdf : σ'.df = [] → a'.defers = [] := by
      intro hd
      have := hs'.df
      rw [hd] at this
      exact this
    have back : RetV T fn.results.toList io.length R σ' → bodyPostS P fn c₀ cs (fun e u' w' => u' = U ∧ ∃ out E', R out ∧ match out with
        | .ret x io' nb => (∃ v, e = .returned v ∧ M w' E' x v) ∧ After w E w' E' io.length io' nb
        | .pan v io' => e = .panicked [{ v, recovered := false }] ∧ After w E w' E' io.length io' []) .ret a' ({ c₀ with mode := U } :: cs) w' := by
      rintro ⟨x, io', nb, l, hlen, hres, hsub, hR⟩
      obtain ⟨v, hr, hmv⟩ := run_resOf hT hs' hres
      obtain ⟨hg2, hs2⟩ := hs'.sub hg' hsub hlow
      exact ⟨hdf hsub.df.1, U, rfl, v, hr, rfl, .ret x io' nb, _, hR, ⟨v, rfl, M.unmap (Env.named w' E' (nmap σ'.nx l)) x v hmv⟩, After.of_sim hlen hg2 hs2⟩
    cases e with
    | normal => exact back q
    | ret => exact back q
    | panic chain =>
      obtain ⟨v, rfl, io', l, hlen, hsub, hR⟩ := q
      obtain ⟨hg2, hs2⟩ := hs'.sub hg' hsub hlow
      exact ⟨hdf hsub.df.1, U, rfl, rfl, .pan v io', _, hR, rfl, After.of_sim hlen hg2 hs2⟩
    | _ => exact q.elim
  have hr := hrec c₀ cs hu
  have e1 : List.range (#[o] : Array Oper).size = [0] := rfl
  have e2 : (#[o] : Array Oper)[0]? = some o := rfl
  rw [e1]
  simp only [wpOpsS, e2]
  rw [if_pos (hw _)]
  simp only [hrun]
  split at hr
  · rename_i v cs' hrr
    obtain ⟨rfl, rfl⟩ := hr
    rw [hrr]
    exact cont _ rfl
  · rename_i hrr
    obtain ⟨rfl, rfl⟩ := hr
    rw [hrr]
    refine cont _ ?_
    subst hu
    rfl

/-! ### Forgetting -/

def St.keepTm (σ : St) (ks : List Nat) : St := { σ with tm := σ.tm.filter fun p => ks.contains p.1 }

theorem alook_filter {ks : List Nat} {q : Nat} : ∀ {l : List (Nat × AV)}, alook q (l.filter fun p => ks.contains p.1) = if ks.contains q = true then alook q l else .any
  | [] => by simp [alook]
  | (s, x) :: l => by
    rw [List.filter_cons]
    by_cases h : ks.contains s = true
    · rw [if_pos h]
      simp only [alook]
      by_cases hq : q = s
      · subst hq; simp only [if_true]; rw [if_pos h]
      · rw [if_neg hq, if_neg hq, alook_filter]
    · rw [if_neg h, alook_filter]
      simp only [alook]
      by_cases hq : q = s
      · subst hq; rw [if_neg h, if_neg h]
      · rw [if_neg hq]

/-- Only the slots ks are looked at from here on. -/
theorem AW_keep (ks : List Nat) {c : Code} {σ : St} {Q : Exit → St → Prop} (h : AW P X w0 E0 c { σ with tm := σ.tm.filter fun p => ks.contains p.1 } Q) : AW P X w0 E0 c σ Q := by
  intro E a w hg hs
  refine h E a w hg ⟨hs.nt, fun t => ?_, hs.gl, hs.bx, hs.own, hs.inj, hs.lim, hs.keep, hs.rw, hs.fr, hs.px, hs.df⟩
  simp only [alook_filter]
  split
  · exact hs.tm t
  · trivial

end
end Go.Proofs.Ytdnmnafadondkaa
