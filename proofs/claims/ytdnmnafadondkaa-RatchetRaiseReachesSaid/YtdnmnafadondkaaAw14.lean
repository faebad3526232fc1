/- Loops by a family of states; contracts of functions. No condition. -/
import Derived.Test.YtdnmnafadondkaaAw13
import Derived.Deep.LoopGhost
set_option linter.unusedVariables false
set_option linter.unusedSimpArgs false
namespace Go.Proofs.Ytdnmnafadondkaa
open Go Go.RowKit

def nmap (base : Nat) (l : List (Nat × Nat)) (k : Nat) : Nat :=
  match l with
  | [] => base + k
  | (s, t) :: l => if k = s then t else nmap base l k

/-- The state σ2 says less than σ: slots and boxes forgotten, names turned (l: a name of σ2, its name in σ). 'm': the names that came in. -/
structure Sub (σ σ2 : St) (l : List (Nat × Nat)) (m : Nat) : Prop where
  nt : σ2.nt = σ.nt
  gl : ∀ p ∈ σ2.gl, alook p.1 σ.gl = p.2.map (nmap σ.nx l)
  df : σ.df = [] ∧ σ2.df = []
  tm : ∀ p ∈ σ2.tm, alook p.1 σ.tm = p.2.map (nmap σ.nx l)
  bx : ∀ p ∈ σ2.bx, ∀ cs, p.2 = some cs → blook (nmap σ.nx l p.1) σ.bx = some (AVs.map (nmap σ.nx l) cs)
  keys : ∀ p ∈ l, p.1 < σ2.nx
  inj : ∀ p ∈ σ2.bx, ∀ q ∈ σ2.bx, nmap σ.nx l p.1 = nmap σ.nx l q.1 → p.1 = q.1
  io : ∀ k, k < m → nmap σ.nx l k = k

def Env.ren (E : Env) (f : Nat → Nat) : Env := { E with bl := fun k => E.bl (f k), ph := fun k => E.ph (f k) }

theorem Env.named (w : World) (E : Env) (f : Nat → Nat) : Named w f E (E.ren f) := ⟨fun _ _ h => h, fun _ h => h, fun _ h => h, fun _ h => h⟩

/-- The names that came in are below m. -/
def Low (E : Env) (m : Nat) : Prop := ∀ k, m ≤ k → E.bl k = none ∧ ¬ E.ph k

theorem nmap_big {base : Nat} {k : Nat} : ∀ {l : List (Nat × Nat)}, (∀ p ∈ l, p.1 < k) → nmap base l k = base + k
  | [], _ => rfl
  | (s, t) :: l, h => by
    have h1 := h (s, t) (by simp)
    simp only [nmap]
    rw [if_neg (by simp at h1; omega)]
    exact nmap_big (fun p hp => h p (by simp [hp]))

theorem alook_mem {t : Nat} : ∀ {l : List (Nat × AV)}, alook t l = .any ∨ (t, alook t l) ∈ l
  | [] => .inl rfl
  | (s, x) :: l => by
    simp only [alook]
    split
    · rename_i h; subst h; exact .inr (by simp)
    · exact (alook_mem (l := l)).imp id (fun h => by simp [h])

theorem blook_mem {k : Nat} {cs : List AV} : ∀ {l : List (Nat × Option (List AV))}, blook k l = some cs → (k, some cs) ∈ l
  | [], h => by simp [blook] at h
  | (s, x) :: l, h => by
    simp only [blook] at h
    split at h
    · rename_i e; subst e; subst h; simp
    · simp [blook_mem h]

section
variable {P : Program} {X : Nat → Prop} {w0 : World} {E0 : Env} {T : TypeId → Option TI} {eqt : List TypeId}

theorem Sim.sub {E : Env} {σ σ2 : St} {a : Act} {w : World} {l : List (Nat × Nat)} {m : Nat} (h : Sim X w0 E σ a w) (hg : Grow w0 E0 E) (hs : Sub σ σ2 l m) (hE : Low E0 m) :
    Grow w0 E0 (E.ren (nmap σ.nx l)) ∧ Sim X w0 (E.ren (nmap σ.nx l)) σ2 a w := by
  let f := nmap σ.nx l
  have big : ∀ k, σ2.nx ≤ k → f k = σ.nx + k := fun k hk => nmap_big (fun p hp => Nat.lt_of_lt_of_le (hs.keys p hp) hk)
  have nm : Named w f E (E.ren f) := ⟨fun _ _ h => h, fun _ h => h, fun _ h => h, fun _ h => h⟩
  have f_io : ∀ k, E0.bl k ≠ none ∨ E0.ph k → f k = k := by
    intro k hk
    refine hs.io k ?_
    rcases Nat.lt_or_ge k m with h1 | h1
    · exact h1
    · have := hE k h1
      rcases hk with h2 | h2
      · exact absurd this.1 h2
      · exact absurd h2 this.2
  refine ⟨⟨fun k g hk => ?_, fun k hk => ?_, hg.S, hg.T, hg.new⟩, ?_⟩
  · show E.bl (f k) = some g
    rw [f_io k (.inl (by rw [hk]; simp))]
    exact hg.bl k g hk
  · show E.ph (f k)
    rw [f_io k (.inr hk)]
    exact hg.ph k hk
  · have bxs : ∀ k cs, blook k σ2.bx = some cs → blook (f k) σ.bx = some (AVs.map f cs) := fun k cs hk => hs.bx (k, some cs) (blook_mem hk) cs rfl
    have live : ∀ k, (blook k σ2.bx).isSome → (blook (f k) σ.bx).isSome := by
      intro k hk
      obtain ⟨cs, hcs⟩ := Option.isSome_iff_exists.1 hk
      rw [bxs k cs hcs]
      rfl
    refine ⟨by rw [hs.nt]; exact h.nt, fun t => ?_, fun g => ?_, fun k cs hk => ?_, fun k g hk hkg => h.own (f k) g (live k hk) hkg, fun k k' g hk hk' hkg hkg' => ?_, h.lim, h.keep, h.rw, fun k hk => ?_, fun k hk => h.px (f k) hk, ?_⟩
    · rcases alook_mem (t := t) (l := σ2.tm) with h1 | h1
      · rw [h1]; trivial
      · have h2 := hs.tm _ h1
        have h3 := h.tm t
        simp only at h2
        rw [h2] at h3
        exact M.unmap nm _ _ h3
    · rcases alook_mem (t := g) (l := σ2.gl) with h1 | h1
      · rw [h1]; trivial
      · have h2 := hs.gl _ h1
        have h3 := h.gl g
        simp only at h2
        rw [h2] at h3
        exact M.unmap nm _ _ h3
    · have h2 := h.bx (f k) _ (bxs k cs hk)
      rcases h2 with ⟨h4, h5⟩ | ⟨g, c, ty, vs, h4, h5, h6, h7, h8⟩
      · exact .inl ⟨h4, by cases cs <;> first | rfl | simp [AVs.map] at h5⟩
      · exact .inr ⟨g, c, ty, vs, h4, h5, h6, h7, Ms.unmap nm _ _ h8⟩
    · obtain ⟨cs, hcs⟩ := Option.isSome_iff_exists.1 hk
      obtain ⟨cs', hcs'⟩ := Option.isSome_iff_exists.1 hk'
      exact hs.inj (k, some cs) (blook_mem hcs) (k', some cs') (blook_mem hcs') (h.inj (f k) (f k') g (live k hk) (live k' hk') hkg hkg')
    · have := h.fr (f k) (by rw [big k hk]; omega)
      exact this
    · have := h.df
      rw [hs.df.1] at this
      rw [hs.df.2]
      exact this

/-- Going on from a state that says less. -/
theorem AW_sub {c : Code} {σ σ2 : St} {Q : Exit → St → Prop} {l : List (Nat × Nat)} {m : Nat} (hE : Low E0 m) (hs : Sub σ σ2 l m) (h : AW P X w0 E0 c σ2 Q) : AW P X w0 E0 c σ Q := by
  intro E a w hg hsim
  obtain ⟨hg2, hs2⟩ := hsim.sub hg hs hE
  exact h _ a w hg2 hs2

/-- What a round hands on. -/
def Back {ι : Type} (F : ι → St) (φ : ι → Prop) (μ : ι → Nat) (m : Nat) (n : Nat) (σ : St) : Prop := ∃ j l, φ j ∧ μ j < n ∧ Sub σ (F j) l m

def loopQ {ι : Type} (F : ι → St) (φ : ι → Prop) (μ : ι → Nat) (m : Nat) (n : Nat) (Q : Exit → St → Prop) : Exit → St → Prop
  | .normal, σ => Back F φ μ m n σ
  | e, σ => Q e σ

/-- A loop: a family of states at its head, each round handing on one of smaller measure. -/
theorem AW_loop {ι : Type} (F : ι → St) (φ : ι → Prop) (μ : ι → Nat) {c : Code} {σ : St} {Q : Exit → St → Prop} {m : Nat} (hE : Low E0 m) (i : ι) (l : List (Nat × Nat)) (h0 : φ i) (hs : Sub σ (F i) l m)
    (round : ∀ i, φ i → AW P X w0 E0 c (F i) (loopQ F φ μ m (μ i) Q)) : AW P X w0 E0 (.loop c) σ Q := by
  intro E a w hg hsim
  obtain ⟨hg2, hs2⟩ := hsim.sub hg hs hE
  refine wp_loop_ghost (fun n a w => ∃ E i, φ i ∧ μ i = n ∧ Grow w0 E0 E ∧ Sim X w0 E (F i) a w) (μ i) ⟨_, i, h0, rfl, hg2, hs2⟩ ?_
  rintro n a w ⟨E, i, hi, rfl, hg, hsim⟩
  refine wp_mono (round i hi E a w hg hsim) ?_
  rintro e a' w' ⟨E', σ', q, hg', hs'⟩
  cases e with
  | normal =>
    obtain ⟨j, l', hj, hlt, hsub⟩ := q
    obtain ⟨hg3, hs3⟩ := hs'.sub hg' hsub hE
    exact ⟨μ j, hlt, _, j, hj, rfl, hg3, hs3⟩
  | _ => exact ⟨E', σ', q, hg', hs'⟩

/-! ### Contracts -/

/-- How a call ends: a value, what the boxes that came in hold, new boxes (named behind those); or a panic. -/
inductive Out where
  | ret (x : AV) (io nb : List (List AV))
  | pan (v : Value) (io : List (List AV))

/-- Boxes named 0, 1, .. as they lie in memory. -/
structure IoOk (w : World) (E : Env) (io : List (List AV)) : Prop where
  bx : ∀ (k : Nat) cs, io[k]? = some cs → boxAt w E k cs
  own : ∀ k g, k < io.length → E.bl k = some g → ¬ E.S g ∧ ¬ E.T g
  inj : ∀ k k' g, k < io.length → k' < io.length → E.bl k = some g → E.bl k' = some g → k = k'

/-- The world behind a call. -/
structure After (w : World) (E : Env) (w' : World) (E' : Env) (m : Nat) (io nb : List (List AV)) : Prop where
  ok : IoOk w' E' (io ++ nb)
  len : io.length = m
  grow : Grow w E E'
  lim : ∀ g, E'.S g ∨ E'.T g → g < w'.heap.size
  keep : Keeps (fun g => ∃ k, k < m ∧ E.bl k = some g) w w'
  new : ∀ k g, m ≤ k → k < m + nb.length → E'.bl k = some g → w.heap.size ≤ g
  px : ∀ k, E'.ph k → E'.bl k = none
  rw : ∀ g i, rowIn w g = some i → rowIn w' g = some i
  fr : ∀ k, m + nb.length ≤ k → E'.bl k = none ∧ ¬ E'.ph k

def SpecG (call : Array Value → World → (Ending → World → Prop) → Prop) (gl : List (Nat × AV)) (args : List AV) (io : List (List AV)) (R : Out → Prop) : Prop :=
  ∀ (E : Env) (w : World) (vs : List Value), Ms w E args vs → (∀ g, M w E (alook g gl) (.pointer (some ⟨g, 0, none⟩))) → IoOk w E io →
    (∀ g, E.S g ∨ E.T g → g < w.heap.size) → Low E io.length → (∀ k, E.ph k → E.bl k = none) →
    call ⟨vs⟩ w fun e w' => ∃ out E', R out ∧ match out with
      | .ret x io' nb => (∃ v, e = .returned v ∧ M w' E' x v) ∧ After w E w' E' io.length io' nb
      | .pan v io' => e = .panicked [{ v, recovered := false }] ∧ After w E w' E' io.length io' []

def Spec (P : Program) (gl : List (Nat × AV)) (K : FuncId) (args : List AV) (io : List (List AV)) (R : Out → Prop) : Prop := SpecG (Calls P K) gl args io R

/-! ### From a body's walk to a contract -/

def idx {α : Type} (i : Nat) : List α → List (Nat × α)
  | [] => []
  | x :: l => (i, x) :: idx (i + 1) l

def entry (fn : Func) (gl : List (Nat × AV)) (args : List AV) (io : List (List AV)) : St :=
  { nt := fn.ntmps, nx := io.length, tm := idx 0 args, bx := idx 0 (io.map some), gl := gl, df := [] }

def resAV (T : TypeId → Option TI) (σ : St) : ResultVar → Option AV
  | .tmp t => (alook t σ.tm).known
  | .cell a t => match T t, alook a σ.tm with
    | some ti, .ptr k off => match blook k σ.bx with
      | some cs => loadC ti cs off
      | none => none
    | _, _ => none

def resAll (T : TypeId → Option TI) (σ : St) : List ResultVar → Option (List AV)
  | [] => some []
  | r :: l => match resAV T σ r, resAll T σ l with
    | some x, some xs => some (x :: xs)
    | _, _ => none

def resOf (T : TypeId → Option TI) (σ : St) (rs : List ResultVar) : Option AV :=
  match resAll T σ rs with
  | some [x] => some x
  | some xs => some (.tup xs)
  | none => none

/-- The state that is left of a frame behind its call. -/
def leftSt (σ : St) (io nb : List (List AV)) : St := { nt := σ.nt, nx := (io ++ nb).length, tm := [], bx := idx 0 ((io ++ nb).map some), gl := [], df := [] }

def RetV (T : TypeId → Option TI) (rs : List ResultVar) (m : Nat) (R : Out → Prop) (σ : St) : Prop :=
  ∃ x io nb l, io.length = m ∧ resOf T σ rs = some (x.map (nmap σ.nx l)) ∧ Sub σ (leftSt σ io nb) l m ∧ R (.ret x io nb)

def RetP (m : Nat) (R : Out → Prop) (σ : St) (v : Value) : Prop :=
  ∃ io l, io.length = m ∧ Sub σ (leftSt σ io []) l m ∧ R (.pan v io)

def Ret (T : TypeId → Option TI) (rs : List ResultVar) (m : Nat) (R : Out → Prop) : Exit → St → Prop
  | .normal, σ => RetV T rs m R σ
  | .ret, σ => RetV T rs m R σ
  | .panic chain, σ => ∃ v, chain = [{ v, recovered := false }] ∧ RetP m R σ v
  | _, _ => False

theorem run_resAV (hT : Tab P T eqt) {E : Env} {σ : St} {a : Act} {w : World} (h : Sim X w0 E σ a w) {r : ResultVar} {x : AV} (hx : resAV T σ r = some x) :
    ∃ v, ((match r with | .tmp t => pure (a.tmps.getD t undef) | .cell b t => do loadVar t (← asAddr (a.tmps.getD b undef))) : Sem Value).run P w = .ok v w ∧ M w E x v := by
  cases r with
  | tmp t =>
    have := known_eq hx
    subst this
    exact ⟨_, rfl, h.tm t⟩
  | cell b t =>
    simp only [resAV] at hx
    split at hx
    · rename_i ti k off hti e1
      split at hx
      · rename_i cs hk
        have hb := h.tm b
        rw [e1] at hb
        obtain ⟨g, hg, hp⟩ := hb
        rcases h.bx k cs hk with ⟨h1, rfl⟩ | ⟨g', c, ty, vs, hg', hw, hl, hc, hms⟩
        · rw [h.px k h1] at hg; simp at hg
        · obtain rfl : g = g' := by rw [hg] at hg'; simpa using hg'
          have hcl : cellsAt w g 0 vs := ⟨c, ty, _, hw, fun i hi => by simpa using hc i hi⟩
          obtain ⟨v, hr, hm⟩ := run_loadC (hT.t _ _ hti) hcl hms hx
          refine ⟨v, ?_, hm⟩
          simp only [hp, asAddr, Sem.run_bind, Sem.run_pure, Result.andThen_ok]
          simpa using hr
      · simp at hx
    · simp at hx

theorem run_resAll (hT : Tab P T eqt) {E : Env} {σ : St} {a : Act} {w : World} (h : Sim X w0 E σ a w) : ∀ (rs : List ResultVar) (xs : List AV), resAll T σ rs = some xs →
    ∃ vs : List Value, (rs.mapM fun (r : ResultVar) => ((match r with | .tmp t => pure (a.tmps.getD t undef) | .cell b t => do loadVar t (← asAddr (a.tmps.getD b undef))) : Sem Value)).run P w = .ok vs w ∧ Ms w E xs vs
  | [], xs, hx => by
    simp [resAll] at hx
    subst hx
    exact ⟨[], by simp, rfl⟩
  | r :: rs, xs, hx => by
    simp only [resAll] at hx
    split at hx
    · rename_i x ys h1 h2
      simp at hx
      subst hx
      obtain ⟨v, hv, hm⟩ := run_resAV hT h h1
      obtain ⟨vs, hvs, hms⟩ := run_resAll hT h rs ys h2
      exact ⟨v :: vs, by simp only [List.mapM_cons, Sem.run_bind, hv, hvs, Result.andThen_ok, Sem.run_pure], Ms_cons.2 ⟨v, vs, rfl, hm, hms⟩⟩
    · simp at hx

theorem run_resOf (hT : Tab P T eqt) {E : Env} {σ : St} {a : Act} {w : World} (h : Sim X w0 E σ a w) {fn : Func} {x : AV} (hx : resOf T σ fn.results.toList = some x) :
    ∃ v, (results fn a.tmps).run P w = .ok v w ∧ M w E x v := by
  unfold resOf at hx
  have key : ∀ xs, resAll T σ fn.results.toList = some xs → ∃ vs : List Value, (results fn a.tmps).run P w = .ok (if h : (⟨vs⟩ : Array Value).size = 1 then (⟨vs⟩ : Array Value)[0] else .tuple ⟨vs⟩) w ∧ Ms w E xs vs := by
    intro xs hxs
    obtain ⟨vs, hvs, hms⟩ := run_resAll hT h _ xs hxs
    refine ⟨vs, ?_, hms⟩
    unfold results
    rw [Array.mapM_eq_mapM_toList]
    simp only [Sem.run_bind, Sem.run_map, Sem.run_pure]
    exact (congrArg (fun r : Result (List Value) => (r.andThen fun a w' => Result.ok a.toArray w').andThen fun a w' => Result.ok (if h : a.size = 1 then a[0] else Value.tuple a) w') hvs).trans rfl
  split at hx
  · rename_i x' hq
    simp at hx
    subst hx
    obtain ⟨vs, hr, hms⟩ := key _ hq
    obtain ⟨v, vs', rfl, hm, hn⟩ := Ms_cons.1 hms
    simp [Ms] at hn
    subst hn
    exact ⟨v, by rw [hr]; simp, hm⟩
  · rename_i xs hne hq
    simp at hx
    subst hx
    obtain ⟨vs, hr, hms⟩ := key _ hq
    have hl := hms.len
    have : ¬ (⟨vs⟩ : Array Value).size = 1 := by
      intro h1
      simp at h1
      rw [hl] at h1
      match xs, h1 with
      | [y], _ => exact hne y rfl
    exact ⟨.tuple ⟨vs⟩, by rw [hr, dif_neg this], vs, rfl, hms⟩
  · simp at hx

theorem alook_idx {E : Env} {w : World} : ∀ {args : List AV} {vs : List Value} (i : Nat), Ms w E args vs → ∀ (t : Nat) (d : Value), M w E (alook t (idx i args)) ((if i ≤ t then vs[t - i]? else none).getD d)
  | [], vs, i, hm, t, d => by simp [idx, alook, M]
  | x :: args, vs, i, hm, t, d => by
    obtain ⟨v, vs', rfl, h1, h2⟩ := Ms_cons.1 hm
    simp only [idx, alook]
    split
    · rename_i h; subst h; simpa using h1
    · rename_i h
      have ih := alook_idx (i + 1) h2 t d
      by_cases hle : i + 1 ≤ t
      · rw [if_pos hle] at ih
        rw [if_pos (by omega)]
        rw [show t - i = (t - (i + 1)) + 1 by omega]
        simpa using ih
      · rw [if_neg hle] at ih
        rw [if_neg (by omega)]
        exact ih

theorem blook_idx : ∀ {io : List (List AV)} (i k : Nat), blook k (idx i (io.map some)) = if i ≤ k then io[k - i]? else none
  | [], i, k => by simp [idx, blook]
  | x :: io, i, k => by
    simp only [List.map_cons, idx, blook]
    split
    · rename_i h; subst h; simp
    · rename_i h
      rw [blook_idx (i + 1) k]
      by_cases hle : i + 1 ≤ k
      · rw [if_pos hle, if_pos (by omega), show k - i = (k - (i + 1)) + 1 by omega]
        simp
      · rw [if_neg hle, if_neg (by omega)]

theorem getD_entry {vs : List Value} {n t : Nat} : ((⟨vs⟩ : Array Value) ++ Array.replicate n undef).getD t undef = vs[t]?.getD undef := by
  rw [Array.getD_eq_getD_getElem?]
  by_cases h : t < vs.length
  · rw [Array.getElem?_append_left (by simpa using h)]
    simp
  · rw [Array.getElem?_append_right (by simpa using Nat.le_of_not_lt h), List.getElem?_eq_none (Nat.le_of_not_lt h), Array.getElem?_replicate]
    split <;> rfl

theorem After.of_sim {E E2 : Env} {w w' : World} {σ : St} {a : Act} {m : Nat} {io nb : List (List AV)} (hlen : io.length = m) (hg : Grow w E E2)
    (hs : Sim (fun g => ∃ k, k < m ∧ E.bl k = some g) w E2 (leftSt σ io nb) a w') : After w E w' E2 m io nb := by
  have bk : ∀ k, blook k (leftSt σ io nb).bx = (io ++ nb)[k]? := fun k => by
    show blook k (idx 0 ((io ++ nb).map some)) = _
    rw [blook_idx 0 k]; simp
  have live : ∀ k, k < (io ++ nb).length → (blook k (leftSt σ io nb).bx).isSome := fun k hk => by rw [bk]; simp only [List.getElem?_eq_getElem hk, Option.isSome_some]
  refine ⟨⟨fun k cs hk => hs.bx k cs (by rw [bk]; exact hk), fun k g hk hg => ⟨(hs.own k g (live k hk) hg).1, (hs.own k g (live k hk) hg).2.1⟩, fun k k' g hk hk' => hs.inj k k' g (live k hk) (live k' hk')⟩,
    hlen, hg, hs.lim, hs.keep, fun k g hk hk' hg' => ?_, hs.px, hs.rw, fun k hk => hs.fr k (by simp [leftSt]; omega)⟩
  have hkl : k < (io ++ nb).length := by simp; omega
  rcases (hs.own k g (live k hkl) hg').2.2 with h1 | ⟨k', h1, h2⟩
  · exact h1
  · have := hs.inj k k' g (live k hkl) (live k' (by simp; omega)) hg' (hg.bl k' g h2)
    omega

theorem spec_of_AW (hT : Tab P T eqt) {gl : List (Nat × AV)} {K : FuncId} {fn : Func} {c : Code} {args : List AV} {io : List (List AV)} {R : Out → Prop}
    (hf : P.funcs[K]? = some fn) (hb : fn.body = some c) (hn : args.length ≤ fn.ntmps)
    (h : ∀ (X : Nat → Prop) (w0 : World) (E0 : Env), Low E0 io.length → (∀ g, X g → ∃ k, k < io.length ∧ E0.bl k = some g) → AW P X w0 E0 c (entry fn gl args io) (Ret T fn.results.toList io.length R)) : Spec P gl K args io R := by
  intro E w vs hm hgl hio hlim hlow hpx
  refine calls_of_wp hf hb ?_
  have hl := hm.len
  let X : Nat → Prop := fun g => ∃ k, k < io.length ∧ E.bl k = some g
  have bk : ∀ k, blook k (entry fn gl args io).bx = io[k]? := fun k => by
    show blook k (idx 0 (io.map some)) = _
    rw [blook_idx 0 k]; simp
  have lt_of : ∀ k, (blook k (entry fn gl args io).bx).isSome → k < io.length := fun k hk => by
    rw [bk] at hk
    rcases Nat.lt_or_ge k io.length with h1 | h1
    · exact h1
    · simp [List.getElem?_eq_none h1] at hk
  have hsim : Sim X w E (entry fn gl args io) { tmps := (⟨vs⟩ : Array Value) ++ Array.replicate (fn.ntmps - (⟨vs⟩ : Array Value).size) undef, defers := [] } w := by
    refine ⟨by simp [entry]; omega, fun t => ?_, hgl, fun k cs hk => hio.bx k cs (by rw [← bk]; exact hk), fun k g hk hg => ⟨(hio.own k g (lt_of k hk) hg).1, (hio.own k g (lt_of k hk) hg).2, .inr ⟨k, lt_of k hk, hg⟩⟩,
      fun k k' g hk hk' => hio.inj k k' g (lt_of k hk) (lt_of k' hk'), hlim, Keeps.refl _ _, fun _ _ h => h, hlow, hpx, rfl⟩
    have := alook_idx (w := w) (E := E) 0 hm t undef
    rw [getD_entry]
    simpa [entry] using this
  refine wp_mono (h X w E hlow (fun _ h => h) E _ w (Grow.refl _ _) hsim) ?_
  rintro e a' w' ⟨E', σ', q, hg', hs'⟩
  have hdf : σ'.df = [] → a'.defers = [] := by
    intro hd
    have := hs'.df
    rw [hd] at this
    exact this
  have back : RetV T fn.results.toList io.length R σ' → bodyPost P fn (fun e w' => ∃ out E', R out ∧ match out with
      | .ret x io' nb => (∃ v, e = .returned v ∧ M w' E' x v) ∧ After w E w' E' io.length io' nb
      | .pan v io' => e = .panicked [{ v, recovered := false }] ∧ After w E w' E' io.length io' []) .ret a' w' := by
    rintro ⟨x, io', nb, l, hlen, hres, hsub, hR⟩
    obtain ⟨v, hr, hmv⟩ := run_resOf hT hs' hres
    obtain ⟨hg2, hs2⟩ := hs'.sub hg' hsub hlow
    refine ⟨hdf hsub.df.1, v, hr, .ret x io' nb, _, hR, ⟨v, rfl, M.unmap (Env.named w' E' (nmap σ'.nx l)) x v hmv⟩, After.of_sim hlen hg2 hs2⟩
  cases e with
  | normal => exact back q
  | ret => exact back q
  | panic chain =>
    obtain ⟨v, rfl, io', l, hlen, hsub, hR⟩ := q
    obtain ⟨hg2, hs2⟩ := hs'.sub hg' hsub hlow
    exact ⟨hdf hsub.df.1, .pan v io', _, hR, rfl, After.of_sim hlen hg2 hs2⟩
  | _ => exact q.elim

end
end Go.Proofs.Ytdnmnafadondkaa
