/- The rule of a call by its contract. No condition. -/
import Derived.Test.YtdnmnafadondkaaAw15
set_option linter.unusedVariables false
set_option linter.unusedSimpArgs false
namespace Go.Proofs.Ytdnmnafadondkaa
open Go Go.RowKit

/-- Function f has a body: a call of it enters it. -/
def Enters (P : Program) (f : FuncId) : Prop := ∀ args w, (callFunc f args).run P w = .ok (.enter f args) w

def lentBx (lb : List Nat) (σ : St) (k : Nat) : Option (List AV) := if lb.contains k = true then blook k σ.bx else none

def keptAll (x : AV) (io nb : List (List AV)) : Bool := x.kept && io.all AVs.kept && nb.all AVs.kept

section
variable {P : Program} {X : Nat → Prop} {w0 : World} {E0 : Env} {T : TypeId → Option TI} {eqt : List TypeId}

/-- A call by its contract, from the state's side. 'b': the first name of what it makes; 'N': the next free name behind it. -/
theorem call_core {call : Array Value → World → (Ending → World → Prop) → Prop} {E : Env} {σ : St} {a : Act} {w : World} (hg : Grow w0 E0 E) (hs : Sim X w0 E σ a w) {b N : Nat} (hbf : ∀ k, b ≤ k → k < b + 8 → E.bl k = none ∧ ¬ E.ph k) (hN : σ.nx ≤ N) (hbN : b + 8 ≤ N)
    {fargs : List Operand} {caps : List AV} {cvs : List Value} (hcm : Ms w E caps cvs) {gl' : List (Nat × AV)} {args' : List AV} {io : List (List AV)} {R : Out → Prop} (hspec : SpecG call gl' args' io R)
    (ios lb : List Nat) (hlen : ios.length = io.length) (hnd : ios.Nodup) (hne : ∀ cs ∈ io, cs ≠ [])
    (hargs : (evs σ fargs ++ caps).map (lendA (lentBx lb σ)) = AVs.map (ioMap σ.nx ios) args')
    (hio : ∀ (j k : Nat) (cs : List AV), ios[j]? = some k → io[j]? = some cs → blook k σ.bx = some (AVs.map (ioMap σ.nx ios) cs))
    (hlb : ∀ k ∈ lb, (blook k σ.bx).isSome ∧ k ∉ ios)
    (hgl : ∀ p ∈ gl', alook p.1 σ.gl = p.2.map (ioMap σ.nx ios)) :
    ∃ post, call ⟨fargs.map a.eval ++ cvs⟩ w post ∧ ∀ e w', post e w' → ∃ out, R out ∧ match out with
      | .ret x io' nb => ∃ v, e = .returned v ∧ io'.length = io.length ∧ ((lb.isEmpty || keptAll x io' nb) = true → nb.length ≤ 8 → ∀ d, dstOk σ d = true →
          ∃ E2, Near b E E2 ∧ Grow w0 E0 E2 ∧ Sim X w0 E2 (σ.behindB b N (tput d (x.map (gMap b ios)) σ.tm) ios io' nb) (a.put d v) w')
      | .pan v io' => e = .panicked [{ v, recovered := false }] ∧ io'.length = io.length ∧ ((lb.isEmpty || io'.all AVs.kept) = true → ∃ E2, Grow w0 E0 E2 ∧ Sim X w0 E2 (σ.behindB b N σ.tm ios io' []) a w') := by
  let L : Nat → Prop := fun k => k ∈ lb
  have hbx : ∀ k cs, lentBx lb σ k = some cs → boxAt w E k cs ∧ L k := by
    intro k cs hk
    unfold lentBx at hk
    split at hk
    · rename_i hc
      exact ⟨hs.bx k cs hk, by simpa using hc⟩
    · simp at hk
  have hms := lendAs_run hbx ((Ms_evs hs fargs).append hcm)
  rw [hargs] at hms
  have hmc : Ms w ((E.lent L).callee σ.nx ios) args' (fargs.map a.eval ++ cvs) := Ms.unmap (Env.named w (E.lent L) (ioMap σ.nx ios)) _ _ hms
  have ioAt : ∀ (j k : Nat) (cs : List AV), ios[j]? = some k → io[j]? = some cs → ∃ g, E.bl k = some g ∧ (blook k σ.bx).isSome ∧ boxAt w ((E.lent L).callee σ.nx ios) j cs := by
    intro j k cs hj hc
    have hb := hio j k cs hj hc
    have hnc := hne cs (List.mem_of_getElem? hc)
    rcases hs.bx k _ hb with ⟨_, h2⟩ | ⟨g, c, ty, vs, h1, h2, h3, h4, h5⟩
    · exact absurd (by cases cs <;> first | rfl | simp [AVs.map] at h2) hnc
    · refine ⟨g, h1, by rw [hb]; rfl, .inr ⟨g, c, ty, vs, ?_, h2, h3, h4, ?_⟩⟩
      · show E.bl (ioMap σ.nx ios j) = _
        simp [ioMap, hj, h1]
      · exact Ms.unmap (Env.named w (E.lent L) (ioMap σ.nx ios)) _ _ (Ms.stays (stays_lent w E L) _ _ h5)
  have at_j : ∀ j : Nat, j < io.length → ∃ (k : Nat) (cs : List AV), ios[j]? = some k ∧ io[j]? = some cs := by
    intro j hj
    exact ⟨ios[j], io[j], List.getElem?_eq_getElem (by omega), List.getElem?_eq_getElem hj⟩
  have hlive : ∀ k ∈ ios, (blook k σ.bx).isSome ∧ E.bl k ≠ none := by
    intro k hk
    obtain ⟨j, hj⟩ := mem_idx hk
    have hjl : j < ios.length := by
      rcases Nat.lt_or_ge j ios.length with h1 | h1
      · exact h1
      · simp [List.getElem?_eq_none h1] at hj
    obtain ⟨g, h1, h2, _⟩ := ioAt j k io[j] hj (List.getElem?_eq_getElem (by omega))
    exact ⟨h2, by rw [h1]; simp⟩
  have cbl : ∀ (j k : Nat), ios[j]? = some k → ((E.lent L).callee σ.nx ios).bl j = E.bl k := by
    intro j k hj
    show E.bl (ioMap σ.nx ios j) = _
    simp [ioMap, hj]
  have hiok : IoOk w ((E.lent L).callee σ.nx ios) io := by
    refine ⟨fun j cs hc => ?_, fun j g hj hgj => ?_, fun j j' g hj hj' hgj hgj' => ?_⟩
    · have hjl : j < io.length := by
        rcases Nat.lt_or_ge j io.length with h1 | h1
        · exact h1
        · simp [List.getElem?_eq_none h1] at hc
      obtain ⟨k, cs', hk, hc'⟩ := at_j j hjl
      obtain ⟨g, _, _, h3⟩ := ioAt j k cs hk hc
      exact h3
    · obtain ⟨k, cs', hk, hc'⟩ := at_j j hj
      rw [cbl j k hk] at hgj
      have hkm : k ∈ ios := List.mem_of_getElem? hk
      obtain ⟨o1, o2, _⟩ := hs.own k g (hlive k hkm).1 hgj
      refine ⟨o1, fun hT => ?_⟩
      rcases hT with h1 | ⟨k', h1, h2⟩
      · exact o2 h1
      · have := hs.inj k k' g (hlive k hkm).1 (hlb k' h1).1 hgj h2
        exact (hlb k' h1).2 (this ▸ hkm)
    · obtain ⟨k, _, hk, _⟩ := at_j j hj
      obtain ⟨k', _, hk', _⟩ := at_j j' hj'
      rw [cbl j k hk] at hgj
      rw [cbl j' k' hk'] at hgj'
      have := hs.inj k k' g (hlive k (List.mem_of_getElem? hk)).1 (hlive k' (List.mem_of_getElem? hk')).1 hgj hgj'
      subst this
      have h1 := idxOf_some hnd hk
      have h2 := idxOf_some hnd hk'
      rw [h1] at h2
      simpa using h2
  have hlim : ∀ g, ((E.lent L).callee σ.nx ios).S g ∨ ((E.lent L).callee σ.nx ios).T g → g < w.heap.size := by
    intro g hg'
    rcases hg' with h1 | h1 | ⟨k, h1, h2⟩
    · exact hs.lim g (.inl h1)
    · exact hs.lim g (.inr h1)
    · exact hs.live_lt (hlb k h1).1 h2
  have hlow : Low ((E.lent L).callee σ.nx ios) io.length := by
    intro k hk
    have : ioMap σ.nx ios k = σ.nx + k := by
      unfold ioMap
      rw [List.getElem?_eq_none (by omega)]
    have hfr := hs.fr (σ.nx + k) (by omega)
    exact ⟨by show E.bl (ioMap σ.nx ios k) = none; rw [this]; exact hfr.1, by show ¬ E.ph (ioMap σ.nx ios k); rw [this]; exact hfr.2⟩
  have hpx : ∀ k, ((E.lent L).callee σ.nx ios).ph k → ((E.lent L).callee σ.nx ios).bl k = none := fun k hk => hs.px (ioMap σ.nx ios k) hk
  have hglm : ∀ g, M w ((E.lent L).callee σ.nx ios) (alook g gl') (.pointer (some ⟨g, 0, none⟩)) := by
    intro g
    rcases alook_mem (t := g) (l := gl') with h1 | h1
    · rw [h1]; trivial
    · have h2 := hgl _ h1
      have h3 := M.stays (stays_lent w E L) _ _ (hs.gl g)
      simp only at h2
      rw [h2] at h3
      exact M.unmap (Env.named w (E.lent L) (ioMap σ.nx ios)) _ _ h3
  have hL : ∀ k, L k → (blook k σ.bx).isSome ∧ k ∉ ios := fun k hk => hlb k hk
  have hte : lb.isEmpty = true → ∀ k, ¬ L k := by
    intro he k hk
    have h1 : lb = [] := by simpa using he
    have h2 : k ∈ lb := hk
    rw [h1] at h2
    simp at h2
  refine ⟨_, hspec ((E.lent L).callee σ.nx ios) w _ hmc hglm hiok hlim hlow hpx, ?_⟩
  rintro e w' ⟨out, E', hR, hout⟩
  refine ⟨out, hR, ?_⟩
  have near : ∀ n, n ≤ 8 → Near b E (E.back E' b io.length n) := by
    intro n hn k hk
    constructor
    · show (if b ≤ k ∧ k < b + n then _ else _) = _
      rw [if_neg (by omega)]
    · constructor
      · rintro (⟨h1, h2, _⟩ | h1)
        · omega
        · exact h1
      · exact .inr
  cases out with
  | ret x io' nb =>
    obtain ⟨⟨v, rfl, hmv⟩, haf⟩ := hout
    refine ⟨v, rfl, haf.len, fun hk hn8 d hd => ?_⟩
    have hk' : (lb.isEmpty || x.kept) = true ∧ (∀ c ∈ io', (lb.isEmpty || AVs.kept c) = true) ∧ (∀ c ∈ nb, (lb.isEmpty || AVs.kept c) = true) := by
      cases he : lb.isEmpty
      · rw [he] at hk
        simp [keptAll] at hk
        obtain ⟨⟨h1, h2⟩, h3⟩ := hk
        exact ⟨by simpa using h1, fun c hc => by simpa using h2 c hc, fun c hc => by simpa using h3 c hc⟩
      · simp
    obtain ⟨hg2, hs2⟩ := hs.behind hg hbf hN hbN (L := L) (ios := ios) (io := io) (io' := io') (nb := nb) hnd hlen hlive hL haf hn8 (t := lb.isEmpty) hte hk'.2.1 hk'.2.2 (a' := a.put d v) (tm := tput d (x.map (gMap b ios)) σ.tm)
      (by cases d <;> simp [Act.put]) (by cases d <;> rfl)
      (fun st fw => alook_put (fun t => M.stays st _ _ (hs.tm t)) hs.nt (dst_lt hd) (M.fwd fw x v hk'.1 hmv))
    exact ⟨_, near _ hn8, hg2, hs2⟩
  | pan v io' =>
    obtain ⟨rfl, haf⟩ := hout
    refine ⟨rfl, haf.len, fun hk => ?_⟩
    have hk' : ∀ c ∈ io', (lb.isEmpty || AVs.kept c) = true := by
      cases he : lb.isEmpty
      · rw [he] at hk
        simp at hk
        exact fun c hc => by simpa using hk c hc
      · simp
    obtain ⟨hg2, hs2⟩ := hs.behind hg hbf hN hbN (L := L) (ios := ios) (io := io) (io' := io') (nb := []) hnd hlen hlive hL haf (by simp) (t := lb.isEmpty) hte hk' (by simp) (a' := a) (tm := σ.tm) rfl rfl
      (fun st fw t => M.stays st _ _ (hs.tm t))
    exact ⟨_, hg2, hs2⟩

/-- What the call operation enters. -/
theorem run_enter {o : Oper} {σ : St} {E : Env} {a : Act} {w : World} (hs : Sim X w0 E σ a w) {f : Operand} {fargs : Array Operand} {fty : Array TypeId} {K : FuncId} {caps : List AV}
    (ho : o.op = .call ⟨.value f, fargs, fty⟩) (hf : σ.ev f = .clo K caps) (hen : Enters P K) : ∃ cvs, Ms w E caps cvs ∧ (execOp a.eval o).run P w = .ok (.enter K ⟨fargs.toList.map a.eval ++ cvs⟩) w := by
  have hfv := hs.ev f
  rw [hf] at hfv
  obtain ⟨cvs, hfe, hcm⟩ := hfv
  refine ⟨cvs, hcm, ?_⟩
  have e : fargs.map a.eval ++ (⟨cvs⟩ : Array Value) = ⟨fargs.toList.map a.eval ++ cvs⟩ := Array.ext' (by simp)
  have e2 : (#[] : Array Value) ++ fargs.map a.eval ++ (⟨cvs⟩ : Array Value) = ⟨fargs.toList.map a.eval ++ cvs⟩ := by rw [Array.empty_append]; exact e
  simp only [execOp, ho, resolve, hfe, Deferred.ofValue, Sem.run_bind, Sem.run_pure, Result.andThen_ok, invoke]
  rw [e2]
  exact hen _ _

/-- The operation is carried out: it has no guard, or its guard holds. -/
def Wanted (ops : Array Oper) (σ : St) (o : Oper) : Prop := o.guard = none ∨ ∃ j t want, o.guard = some (j, want) ∧ gslot ops j = some t ∧ alook t σ.tm = .val (.bool want)

theorem AL_callW {ops : Array Oper} {o : Oper} {l : List Oper} {σ : St} {Q : Exit → St → Prop} {f : Operand} {fargs : Array Operand} {fty : Array TypeId} {K : FuncId} {caps : List AV} {gl' : List (Nat × AV)} {args' : List AV} {io : List (List AV)} {R : Out → Prop}
    (ho : o.op = .call ⟨.value f, fargs, fty⟩) (hgd : Wanted ops σ o) (hd : dstOk σ o.dst = true) (hf : σ.ev f = .clo K caps) (hen : Enters P K) (hspec : Spec P gl' K args' io R)
    (ios lb : List Nat) (hlen : ios.length = io.length) (hnd : ios.Nodup) (hne : ∀ cs ∈ io, cs ≠ [])
    (hargs : (evs σ fargs.toList ++ caps).map (lendA (lentBx lb σ)) = AVs.map (ioMap σ.nx ios) args')
    (hio : ∀ (j k : Nat) (cs : List AV), ios[j]? = some k → io[j]? = some cs → blook k σ.bx = some (AVs.map (ioMap σ.nx ios) cs))
    (hlb : ∀ k ∈ lb, (blook k σ.bx).isSome ∧ k ∉ ios)
    (hgl : ∀ p ∈ gl', alook p.1 σ.gl = p.2.map (ioMap σ.nx ios))
    (hret : ∀ x io' nb, R (.ret x io' nb) → io'.length = io.length → (lb.isEmpty || keptAll x io' nb) = true ∧ nb.length ≤ 8 ∧ AL P X w0 E0 ops l (σ.behind (tput o.dst (x.map (gMap σ.nx ios)) σ.tm) ios io' nb) Q)
    (hpan : ∀ v io', R (.pan v io') → io'.length = io.length → (lb.isEmpty || io'.all AVs.kept) = true ∧ Q (.panic [{ v, recovered := false }]) (σ.behind σ.tm ios io' [])) :
    AL P X w0 E0 ops (o :: l) σ Q := by
  intro i hi E a w hg hs
  obtain ⟨hoi, hl⟩ := drop_cons hi
  have ho' : ops[i]? = some o := by simpa using hoi
  simp only [List.length_cons, List.range', wpOps, ho']
  have hw : Region.wanted o (yielded ops a.tmps) = true := by
    rcases hgd with hgd | ⟨j, t, want, hgd, hj, hb⟩
    · simp [Region.wanted, hgd]
    · have hy := yielded_of hs hj hb
      simp [Region.wanted, hgd, hy]
  rw [if_pos hw]
  refine .inl ?_
  obtain ⟨cvs, hcm, hrun⟩ := run_enter (P := P) hs ho hf hen
  obtain ⟨post, hcall, hpost⟩ := call_core hg hs (b := σ.nx) (N := σ.nx + 8) (fun k hk _ => hs.fr k hk) (by omega) (by omega) hcm hspec ios lb hlen hnd hne hargs hio hlb hgl
  unfold Oper.wp
  rw [hrun, Oper.upon_enter]
  refine Calls.mono hcall ?_
  intro e w' he
  obtain ⟨out, hR, hout⟩ := hpost e w' he
  cases out with
  | ret x io' nb =>
    obtain ⟨v, rfl, hle, hk⟩ := hout
    obtain ⟨h1, h2, h3⟩ := hret x io' nb hR hle
    obtain ⟨E2, _, hg2, hs2⟩ := hk h1 h2 o.dst hd
    exact h3 (i + 1) hl _ _ w' hg2 hs2
  | pan v io' =>
    obtain ⟨rfl, hle, hk⟩ := hout
    obtain ⟨h1, h2⟩ := hpan v io' hR hle
    obtain ⟨E2, hg2, hs2⟩ := hk h1
    exact ⟨_, _, h2, hg2, hs2⟩

theorem AL_call {ops : Array Oper} {o : Oper} {l : List Oper} {σ : St} {Q : Exit → St → Prop} {f : Operand} {fargs : Array Operand} {fty : Array TypeId} {K : FuncId} {caps : List AV} {gl' : List (Nat × AV)} {args' : List AV} {io : List (List AV)} {R : Out → Prop}
    (ho : o.op = .call ⟨.value f, fargs, fty⟩) (hgd : o.guard = none) (hd : dstOk σ o.dst = true) (hf : σ.ev f = .clo K caps) (hen : Enters P K) (hspec : Spec P gl' K args' io R)
    (ios lb : List Nat) (hlen : ios.length = io.length) (hnd : ios.Nodup) (hne : ∀ cs ∈ io, cs ≠ [])
    (hargs : (evs σ fargs.toList ++ caps).map (lendA (lentBx lb σ)) = AVs.map (ioMap σ.nx ios) args')
    (hio : ∀ (j k : Nat) (cs : List AV), ios[j]? = some k → io[j]? = some cs → blook k σ.bx = some (AVs.map (ioMap σ.nx ios) cs))
    (hlb : ∀ k ∈ lb, (blook k σ.bx).isSome ∧ k ∉ ios)
    (hgl : ∀ p ∈ gl', alook p.1 σ.gl = p.2.map (ioMap σ.nx ios))
    (hret : ∀ x io' nb, R (.ret x io' nb) → io'.length = io.length → (lb.isEmpty || keptAll x io' nb) = true ∧ nb.length ≤ 8 ∧ AL P X w0 E0 ops l (σ.behind (tput o.dst (x.map (gMap σ.nx ios)) σ.tm) ios io' nb) Q)
    (hpan : ∀ v io', R (.pan v io') → io'.length = io.length → (lb.isEmpty || io'.all AVs.kept) = true ∧ Q (.panic [{ v, recovered := false }]) (σ.behind σ.tm ios io' [])) :
    AL P X w0 E0 ops (o :: l) σ Q :=
  AL_callW ho (.inl hgd) hd hf hen hspec ios lb hlen hnd hne hargs hio hlb hgl hret hpan

end
end Go.Proofs.Ytdnmnafadondkaa
