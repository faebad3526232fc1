/- The abstract state's step over an operation that makes or writes memory. No condition. -/
import Derived.Test.YtdnmnafadondkaaAw8
set_option linter.unusedVariables false
set_option linter.unusedSimpArgs false
namespace Go.Proofs.Ytdnmnafadondkaa
open Go Go.RowKit

/-- What an operation does to the abstract state: the value of its slot, and the boxes that turn. -/
structure Eff where
  dst : AV
  bxs : List (Nat × Option (List AV))

def tput (d : Option Tmp) (x : AV) (l : List (Nat × AV)) : List (Nat × AV) :=
  match d with
  | some t => (t, x) :: l
  | none => l

def St.app (σ : St) (nx : Nat) (d : Option Tmp) (e : Eff) : St :=
  { σ with nx := nx, tm := tput d e.dst σ.tm, bx := e.bxs ++ σ.bx }

structure Grow (w0 : World) (E E' : Env) : Prop where
  bl : ∀ k g, E.bl k = some g → E'.bl k = some g
  ph : ∀ k, E.ph k → E'.ph k
  S : ∀ g, E.S g → E'.S g
  T : ∀ g, E'.T g ↔ E.T g
  new : ∀ g, E'.S g → E.S g ∨ w0.heap.size ≤ g

theorem Grow.refl (w0 : World) (E : Env) : Grow w0 E E := ⟨fun _ _ h => h, fun _ h => h, fun _ h => h, fun _ => Iff.rfl, fun _ h => .inl h⟩
theorem Grow.trans {w0 : World} {E E' E'' : Env} (h : Grow w0 E E') (k : Grow w0 E' E'') : Grow w0 E E'' :=
  ⟨fun _ _ x => k.bl _ _ (h.bl _ _ x), fun _ x => k.ph _ (h.ph _ x), fun _ x => k.S _ (h.S _ x), fun g => (k.T g).trans (h.T g), fun g x => (k.new g x).elim (fun y => h.new g y) .inr⟩

theorem blook_app (k : Nat) : ∀ (l m : List (Nat × Option (List AV))), blook k (l ++ m) = if (l.any fun x => k == x.1) = true then blook k l else blook k m
  | [], m => by simp
  | (s, c) :: l, m => by
    simp only [List.cons_append, blook]
    by_cases h : k = s
    · simp [h]
    · have hks : (k == s) = false := by simpa using h
      simp only [h, if_false, blook_app k l m, List.any_cons, hks, Bool.false_or]

theorem Md.stays {w w' : World} {E E' : Env} (h : Stays w E w' E') : ∀ {l : List (FuncId × List AV)} {ds : List Deferred}, Md w E l ds → Md w' E' l ds
  | [], _, hm => hm
  | (_, _) :: _, _, ⟨vs, ds', e, hm, hr⟩ => ⟨vs, ds', e, Ms.stays h _ _ hm, Md.stays h hr⟩

section
variable {X : Nat → Prop} {w0 : World} {E E' : Env} {σ : St} {a : Act} {w w' : World}

theorem boxAt.stays_other (hst : Stays w E w' E') {k : Nat} {cs : List AV} (h : boxAt w E k cs) (hne : ∀ g, E.bl k = some g → w'.heap[g]? = w.heap[g]?) : boxAt w' E' k cs := by
  rcases h with ⟨h1, h2⟩ | ⟨g, c, ty, vs, h1, h2, h3, h4, h5⟩
  · exact .inl ⟨hst.ph _ h1, h2⟩
  · exact .inr ⟨g, c, ty, vs, hst.bl _ _ h1, (hne g h1).trans h2, h3, h4, Ms.stays hst _ _ h5⟩

theorem alook_put (h : ∀ t, M w' E' (alook t σ.tm) (a.tmps.getD t undef)) (hn : a.tmps.size = σ.nt) {d : Option Tmp} {x : AV} {v : Value} (hd : ∀ t, d = some t → t < σ.nt) (hx : M w' E' x v) :
    ∀ t, M w' E' (alook t (tput d x σ.tm)) ((a.put d v).tmps.getD t undef) := by
  intro t
  cases d with
  | none => exact h t
  | some s =>
    have hs := hd s rfl
    simp only [tput, alook, Act.put]
    split
    · rename_i hts
      subst hts
      have : (a.tmps.setIfInBounds t v).getD t undef = v := by simp [Array.getD_eq_getD_getElem?, hn, hs]
      rw [this]
      exact hx
    · rename_i hts
      have : (a.tmps.setIfInBounds s v).getD t undef = a.tmps.getD t undef := by
        simp [Array.getD_eq_getD_getElem?, Array.getElem?_setIfInBounds, Ne.symm hts]
      rw [this]
      exact h t

/-- The state's step, whatever was done. -/
theorem Sim.step (h : Sim X w0 E σ a w) (hst : Stays w E w' E') {d : Option Tmp} {x : AV} {v : Value} {bxs : List (Nat × Option (List AV))} {nx : Nat}
    (hd : ∀ t, d = some t → t < σ.nt) (hx : M w' E' x v)
    (hb : ∀ k cs, blook k (bxs ++ σ.bx) = some cs → boxAt w' E' k cs)
    (ho : ∀ k g, (blook k (bxs ++ σ.bx)).isSome → E'.bl k = some g → ¬ E'.S g ∧ ¬ E'.T g ∧ (w0.heap.size ≤ g ∨ X g))
    (hi : ∀ k k' g, (blook k (bxs ++ σ.bx)).isSome → (blook k' (bxs ++ σ.bx)).isSome → E'.bl k = some g → E'.bl k' = some g → k = k')
    (hl : ∀ g, E'.S g ∨ E'.T g → g < w'.heap.size) (hk : Keeps X w0 w') (hf : ∀ k, nx ≤ k → E'.bl k = none ∧ ¬ E'.ph k) (hp : ∀ k, E'.ph k → E'.bl k = none) :
    Sim X w0 E' (σ.app nx d ⟨x, bxs⟩) (a.put d v) w' := by
  refine ⟨?_, ?_, fun g => M.stays hst _ _ (h.gl g), hb, ho, hi, hl, hk, fun g i h0 => hst.sz g i (h.rw g i h0), hf, hp, ?_⟩
  · cases d <;> simp [Act.put, h.nt, St.app]
  · exact alook_put (fun t => M.stays hst _ _ (h.tm t)) h.nt hd hx
  · cases d <;> exact Md.stays hst h.df

/-- Only a slot turns. -/
theorem Sim.val (h : Sim X w0 E σ a w) {d : Option Tmp} {x : AV} {v : Value} {nx : Nat} (hd : ∀ t, d = some t → t < σ.nt) (hx : M w E x v) (hn : σ.nx ≤ nx) :
    Sim X w0 E (σ.app nx d ⟨x, []⟩) (a.put d v) w :=
  h.step ⟨fun _ _ h => h, fun _ h => h, fun _ h => h, fun _ h => h, fun _ _ h => h, fun _ _ => rfl⟩ hd hx h.bx h.own h.inj h.lim h.keep (fun k hk => h.fr k (Nat.le_trans hn hk)) h.px

theorem Sim.live_lt (h : Sim X w0 E σ a w) {k g : Nat} (hk : (blook k σ.bx).isSome) (hg : E.bl k = some g) : g < w.heap.size := by
  obtain ⟨cs, hcs⟩ := Option.isSome_iff_exists.1 hk
  rcases h.bx k cs hcs with ⟨hp, _⟩ | ⟨g', c, ty, vs, h1, h2, _⟩
  · rw [h.px k hp] at hg; simp at hg
  · obtain rfl : g = g' := by rw [hg] at h1; simpa using h1
    exact (Array.getElem?_eq_some_iff.1 h2).1

theorem rowIn_old {w w' : World} {g : Nat} {i : TypeId × Nat} (h : ∀ g, g < w.heap.size → w'.heap[g]? = w.heap[g]?) (hr : rowIn w g = some i) : rowIn w' g = some i := by
  unfold rowIn at hr ⊢
  have : g < w.heap.size := by
    rcases Nat.lt_or_ge g w.heap.size with hl | hl
    · exact hl
    · simp [Array.getElem?_eq_none hl] at hr
  rw [h g this]; exact hr

def Env.with (E : Env) (b g : Nat) : Env := { E with bl := fun k => if k = b then some g else E.bl k }

/-- A new block, named b. -/
theorem Sim.new (h : Sim X w0 E σ a w) {d : Option Tmp} {x : AV} {v : Value} {b nx : Nat} {cs : List AV} {vs : List Value} {c : Array Value} {ty : TypeId} (wd : World) (hwd : wd.heap = w.heap) (hwo : wd.os = w.os) (hwt : wd.tape = w.tape) (hwp : wd.output = w.output)
    (hd : ∀ t, d = some t → t < σ.nt) (hb : E.bl b = none) (hb' : ¬ E.ph b) (hnx : b < nx) (hn : ∀ k, nx ≤ k → E.bl k = none ∧ ¬ E.ph k) (hm : Ms w E cs vs) (hvl : vs.length ≤ c.size) (hvc : ∀ i, i < vs.length → c[i]? = vs[i]?)
    (hx : M (wd.alloc (.cells c ty)) (E.with b w.heap.size) x v) (bxs : List (Nat × Option (List AV))) (hbx : ∀ k, k ≠ b → (blook k (bxs ++ σ.bx)).isSome → blook k (bxs ++ σ.bx) = blook k σ.bx) (hbb : ∀ cs', blook b (bxs ++ σ.bx) = some cs' → cs' = cs) :
    Stays w E (wd.alloc (.cells c ty)) (E.with b w.heap.size) ∧ Grow w0 E (E.with b w.heap.size) ∧ Sim X w0 (E.with b w.heap.size) (σ.app nx d ⟨x, bxs⟩) (a.put d v) (wd.alloc (.cells c ty)) := by
  have hold : ∀ g, g < w.heap.size → (wd.alloc (.cells c ty)).heap[g]? = w.heap[g]? := by
    intro g hg
    have := heap_alloc_old wd (.cells c ty) g (by rw [hwd]; exact hg)
    rw [this, hwd]
  have hnew : (wd.alloc (.cells c ty)).heap[w.heap.size]? = some (.cells c ty) := by
    have := heap_alloc_new wd (.cells c ty)
    rwa [hwd] at this
  have hsz : (wd.alloc (.cells c ty)).heap.size = w.heap.size + 1 := by
    show (wd.heap.push _).size = _
    simp [hwd]
  have hst : Stays w E (wd.alloc (.cells c ty)) (E.with b w.heap.size) := by
    refine ⟨fun k g hk => ?_, fun k hk => hk, fun _ h => h, fun _ h => h, fun g i hi => rowIn_old hold hi, fun g hg => hold g (h.lim g hg)⟩
    simp only [Env.with]
    rw [if_neg (by rintro rfl; rw [hb] at hk; simp at hk)]
    exact hk
  refine ⟨hst, ⟨hst.bl, fun _ h => h, fun _ h => h, fun _ => Iff.rfl, fun _ h => .inl h⟩, h.step hst hd hx ?_ ?_ ?_ ?_ ?_ ?_ ?_⟩
  · intro k cs' hk
    by_cases hkb : k = b
    · subst hkb
      have := hbb cs' hk
      subst this
      exact .inr ⟨w.heap.size, c, ty, vs, by simp [Env.with], hnew, hvl, hvc, Ms.stays hst _ _ hm⟩
    · have e := hbx k hkb (by rw [hk]; rfl)
      rw [e] at hk
      refine (h.bx k cs' hk).stays_other hst (fun g hg => hold g (h.live_lt (by rw [hk]; rfl) hg))
  · intro k g hk hg
    by_cases hkb : k = b
    · subst hkb
      simp [Env.with] at hg
      subst hg
      refine ⟨fun hS => ?_, fun hT => ?_, .inl h.keep.size⟩
      · exact absurd (h.lim _ (.inl hS)) (Nat.lt_irrefl _)
      · exact absurd (h.lim _ (.inr hT)) (Nat.lt_irrefl _)
    · have e := hbx k hkb hk
      rw [e] at hk
      simp [Env.with, hkb] at hg
      exact h.own k g hk hg
  · intro k k' g hk hk' hg hg'
    have one : ∀ k, (blook k (bxs ++ σ.bx)).isSome → (E.with b w.heap.size).bl k = some w.heap.size → k = b := by
      intro k hk hg
      by_cases hkb : k = b
      · exact hkb
      · have e := hbx k hkb hk
        rw [e] at hk
        simp [Env.with, hkb] at hg
        exact absurd (h.live_lt hk hg) (Nat.lt_irrefl _)
    by_cases hkb : k = b
    · subst hkb
      simp [Env.with] at hg
      subst hg
      exact (one k' hk' hg').symm
    · by_cases hkb' : k' = b
      · subst hkb'
        simp [Env.with] at hg'
        subst hg'
        exact one k hk hg
      · have e := hbx k hkb hk
        have e' := hbx k' hkb' hk'
        rw [e] at hk; rw [e'] at hk'
        simp [Env.with, hkb] at hg
        simp [Env.with, hkb'] at hg'
        exact h.inj k k' g hk hk' hg hg'
  · intro g hg
    have := h.lim g hg
    omega
  · refine h.keep.trans ⟨hwo, hwt, hwp, by omega, fun g hg _ => hold g hg⟩
  · intro k hk
    refine ⟨?_, (hn k hk).2⟩
    simp only [Env.with]
    rw [if_neg (by omega)]
    exact (hn k hk).1
  · intro k hk
    simp only [Env.with]
    rw [if_neg (by rintro rfl; exact hb' hk)]
    exact h.px k hk

theorem Stays.setRow (h : Sim X w0 E σ a w) {k g : Nat} (hk : (blook k σ.bx).isSome) (hg : E.bl k = some g) {c c' : Array Value} {ty : TypeId} (hw : w.heap[g]? = some (.cells c ty (0, 0))) (hsz : c'.size = c.size) :
    Stays w E (w.setRow g c') E := by
  refine ⟨fun _ _ h => h, fun _ h => h, fun _ h => h, fun _ h => h, fun g' i hi => ?_, fun g' hg' => setRow_other w g g' c' ?_⟩
  · by_cases he : g' = g
    · subst he
      unfold rowIn at hi ⊢
      rw [setRow_heap w g' c c' ty _ hw]
      rw [hw] at hi
      simpa [hsz] using hi
    · unfold rowIn at hi ⊢
      rw [setRow_other w g g' c' he]
      exact hi
  · rintro rfl
    have := h.own k g' hk hg
    exact hg'.elim this.1 this.2.1

/-- A box of the frame's own is written. -/
theorem Sim.set (h : Sim X w0 E σ a w) {d : Option Tmp} {x : AV} {v : Value} {k g nx : Nat} {cs : List AV} {vs : List Value} {c c' : Array Value} {ty : TypeId}
    (hd : ∀ t, d = some t → t < σ.nt) (hk : (blook k σ.bx).isSome) (hg : E.bl k = some g) (hw : w.heap[g]? = some (.cells c ty (0, 0))) (hsz : c'.size = c.size) (hnx : σ.nx ≤ nx)
    (hm : Ms w E cs vs) (hvl : vs.length ≤ c.size) (hvc : ∀ i, i < vs.length → c'[i]? = vs[i]?) (hx : M (w.setRow g c') E x v) :
    Sim X w0 E (σ.app nx d ⟨x, [(k, some cs)]⟩) (a.put d v) (w.setRow g c') := by
  have hst := Stays.setRow h hk hg hw hsz
  have bk : ∀ k', blook k' ([(k, some cs)] ++ σ.bx) = if k' = k then some cs else blook k' σ.bx := fun k' => rfl
  have live : ∀ k', (blook k' ([(k, some cs)] ++ σ.bx)).isSome → (blook k' σ.bx).isSome := by
    intro k' h'
    rw [bk] at h'
    split at h'
    · rename_i e; subst e; exact hk
    · exact h'
  refine h.step hst hd hx ?_ (fun k' g' hk' hg' => h.own k' g' (live k' hk') hg') (fun k1 k2 g' h1 h2 => h.inj k1 k2 g' (live k1 h1) (live k2 h2)) ?_ ?_ (fun k' hk' => h.fr k' (Nat.le_trans hnx hk')) h.px
  · intro k' cs' hk'
    rw [bk] at hk'
    split at hk'
    · rename_i e
      subst e
      simp at hk'
      subst hk'
      exact .inr ⟨g, c', ty, vs, hg, setRow_heap w g c c' ty _ hw, by omega, hvc, Ms.stays hst _ _ hm⟩
    · rename_i hne
      refine (h.bx k' cs' hk').stays_other hst (fun g' hg' => setRow_other w g g' c' ?_)
      rintro rfl
      exact hne (h.inj k' k g' (by rw [hk']; rfl) hk hg' hg)
  · intro g' hg'
    have := h.lim g' hg'
    simpa using this
  · refine ⟨h.keep.os, h.keep.tape, h.keep.output, by simpa using h.keep.size, fun g' hl hX => (setRow_other w g g' c' ?_).trans (h.keep.block g' hl hX)⟩
    rintro rfl
    rcases (h.own k g' hk hg).2.2 with h1 | h1
    · omega
    · exact hX h1

/-- A box of the frame's own is written and takes the new name b. -/
theorem Sim.setAs (h : Sim X w0 E σ a w) {d : Option Tmp} {x : AV} {v : Value} {k b g nx : Nat} {cs : List AV} {vs : List Value} {c c' : Array Value} {ty : TypeId}
    (hd : ∀ t, d = some t → t < σ.nt) (hk : (blook k σ.bx).isSome) (hg : E.bl k = some g) (hw : w.heap[g]? = some (.cells c ty (0, 0))) (hsz : c'.size = c.size)
    (hb : E.bl b = none) (hb' : ¬ E.ph b) (hnx : b < nx) (hn : ∀ k, nx ≤ k → E.bl k = none ∧ ¬ E.ph k)
    (hm : Ms w E cs vs) (hvl : vs.length ≤ c.size) (hvc : ∀ i, i < vs.length → c'[i]? = vs[i]?) (hx : M (w.setRow g c') (E.with b g) x v) :
    Grow w0 E (E.with b g) ∧ Sim X w0 (E.with b g) (σ.app nx d ⟨x, [(b, some cs), (k, none)]⟩) (a.put d v) (w.setRow g c') := by
  have hst0 := Stays.setRow h hk hg hw hsz
  have hbk : b ≠ k := by rintro rfl; rw [hb] at hg; simp at hg
  have hext : ∀ k' g', E.bl k' = some g' → (E.with b g).bl k' = some g' := by
    intro k' g' hk'
    simp only [Env.with]
    rw [if_neg (by rintro rfl; rw [hb] at hk'; simp at hk')]
    exact hk'
  have hst : Stays w E (w.setRow g c') (E.with b g) := ⟨hext, fun _ h => h, fun _ h => h, fun _ h => h, hst0.sz, hst0.blk⟩
  have bk : ∀ k', blook k' ([(b, some cs), (k, none)] ++ σ.bx) = if k' = b then some cs else if k' = k then none else blook k' σ.bx := fun k' => rfl
  have other : ∀ k', k' ≠ b → (blook k' ([(b, some cs), (k, none)] ++ σ.bx)).isSome → k' ≠ k ∧ (blook k' σ.bx).isSome := by
    intro k' hne h'
    rw [bk, if_neg hne] at h'
    split at h'
    · simp at h'
    · exact ⟨‹_›, h'⟩
  have noth : ∀ k' g', k' ≠ b → (E.with b g).bl k' = some g' → E.bl k' = some g' := by
    intro k' g' hne h'
    simpa [Env.with, hne] using h'
  refine ⟨⟨hext, fun _ h => h, fun _ h => h, fun _ => Iff.rfl, fun _ h => .inl h⟩, h.step hst hd hx ?_ ?_ ?_ ?_ ?_ ?_ ?_⟩
  · intro k' cs' hk'
    by_cases hkb : k' = b
    · subst hkb
      rw [bk, if_pos rfl] at hk'
      simp at hk'
      subst hk'
      exact .inr ⟨g, c', ty, vs, by simp [Env.with], setRow_heap w g c c' ty _ hw, by omega, hvc, Ms.stays hst _ _ hm⟩
    · obtain ⟨h1, h2⟩ := other k' hkb (by rw [hk']; rfl)
      rw [bk, if_neg hkb, if_neg h1] at hk'
      refine (h.bx k' cs' hk').stays_other hst (fun g' hg' => setRow_other w g g' c' ?_)
      rintro rfl
      exact h1 (h.inj k' k g' h2 hk hg' hg)
  · intro k' g' hk' hg'
    by_cases hkb : k' = b
    · subst hkb
      simp [Env.with] at hg'
      subst hg'
      exact h.own k g hk hg
    · exact h.own k' g' (other k' hkb hk').2 (noth k' g' hkb hg')
  · have one : ∀ k1, (blook k1 ([(b, some cs), (k, none)] ++ σ.bx)).isSome → (E.with b g).bl k1 = some g → k1 = b := by
      intro k1 hk1 hg1
      by_cases hkb : k1 = b
      · exact hkb
      · obtain ⟨h1, h2⟩ := other k1 hkb hk1
        exact absurd (h.inj k1 k g h2 hk (noth k1 g hkb hg1) hg) h1
    intro k1 k2 g' h1 h2 hg1 hg2
    by_cases hkb : k1 = b
    · subst hkb
      simp [Env.with] at hg1
      subst hg1
      exact (one k2 h2 hg2).symm
    · by_cases hkb' : k2 = b
      · subst hkb'
        simp [Env.with] at hg2
        subst hg2
        exact one k1 h1 hg1
      · exact h.inj k1 k2 g' (other k1 hkb h1).2 (other k2 hkb' h2).2 (noth k1 g' hkb hg1) (noth k2 g' hkb' hg2)
  · intro g' hg'
    have := h.lim g' hg'
    simpa using this
  · refine ⟨h.keep.os, h.keep.tape, h.keep.output, by simpa using h.keep.size, fun g' hl hX => (setRow_other w g g' c' ?_).trans (h.keep.block g' hl hX)⟩
    rintro rfl
    rcases (h.own k g' hk hg).2.2 with h1 | h1
    · omega
    · exact hX h1
  · intro k' hk'
    refine ⟨?_, (hn k' hk').2⟩
    simp only [Env.with]
    rw [if_neg (by omega)]
    exact (hn k' hk').1
  · intro k' hk'
    simp only [Env.with]
    rw [if_neg (by rintro rfl; exact hb' hk')]
    exact h.px k' hk'

/-- An empty box that lies nowhere: the nil slice that is going to be appended to. -/
theorem Sim.phantom (h : Sim X w0 E σ a w) {d : Option Tmp} {x : AV} {v : Value} {b nx : Nat} (bxs : List (Nat × Option (List AV)))
    (hd : ∀ t, d = some t → t < σ.nt) (hb : E.bl b = none) (hb' : ¬ E.ph b) (hnx : b < nx) (hn : ∀ k, nx ≤ k → E.bl k = none ∧ ¬ E.ph k)
    (hbx : ∀ k, k ≠ b → (blook k (bxs ++ σ.bx)).isSome → blook k (bxs ++ σ.bx) = blook k σ.bx) (hbb : ∀ cs', blook b (bxs ++ σ.bx) = some cs' → cs' = [])
    (hx : M w { E with ph := fun k => k = b ∨ E.ph k } x v) :
    Grow w0 E { E with ph := fun k => k = b ∨ E.ph k } ∧ Sim X w0 { E with ph := fun k => k = b ∨ E.ph k } (σ.app nx d ⟨x, bxs⟩) (a.put d v) w := by
  have hst : Stays w E w { E with ph := fun k => k = b ∨ E.ph k } := ⟨fun _ _ h => h, fun _ h => .inr h, fun _ h => h, fun _ h => h, fun _ _ h => h, fun _ _ => rfl⟩
  refine ⟨⟨fun _ _ h => h, fun _ h => .inr h, fun _ h => h, fun _ => Iff.rfl, fun _ h => .inl h⟩, h.step hst hd hx ?_ ?_ ?_ h.lim h.keep ?_ ?_⟩
  · intro k cs hk
    by_cases hkb : k = b
    · subst hkb
      exact .inl ⟨.inl rfl, hbb cs hk⟩
    · have e := hbx k hkb (by rw [hk]; rfl)
      rw [e] at hk
      exact (h.bx k cs hk).stays_other hst (fun _ _ => rfl)
  · intro k g hk hg
    by_cases hkb : k = b
    · subst hkb
      exact absurd hg (by rw [hb]; simp)
    · have e := hbx k hkb hk
      rw [e] at hk
      exact h.own k g hk hg
  · intro k k' g hk hk' hg hg'
    have ne : ∀ k, E.bl k = some g → k ≠ b := by rintro k h' rfl; rw [hb] at h'; simp at h'
    have e := hbx k (ne k hg) hk
    have e' := hbx k' (ne k' hg') hk'
    rw [e] at hk; rw [e'] at hk'
    exact h.inj k k' g hk hk' hg hg'
  · intro k hk
    refine ⟨(hn k hk).1, fun h' => ?_⟩
    rcases h' with rfl | h'
    · omega
    · exact (hn k hk).2 h'
  · intro k hk
    rcases hk with rfl | hk
    · exact hb
    · exact h.px k hk

/-- New memory that is only read from now on. -/
theorem Sim.stable (h : Sim X w0 E σ a w) {d : Option Tmp} {x : AV} {v : Value} {nx : Nat} (hwo : w'.os = w.os) (hwt : w'.tape = w.tape) (hwp : w'.output = w.output)
    (hold : ∀ g, g < w.heap.size → w'.heap[g]? = w.heap[g]?) (hsz : w'.heap.size = w.heap.size + 1)
    (hd : ∀ t, d = some t → t < σ.nt) (hnx : σ.nx ≤ nx) (hx : M w' { E with S := fun g => g = w.heap.size ∨ E.S g } x v) :
    Grow w0 E { E with S := fun g => g = w.heap.size ∨ E.S g } ∧ Sim X w0 { E with S := fun g => g = w.heap.size ∨ E.S g } (σ.app nx d ⟨x, []⟩) (a.put d v) w' := by
  have hst : Stays w E w' { E with S := fun g => g = w.heap.size ∨ E.S g } := ⟨fun _ _ h => h, fun _ h => h, fun _ h => .inr h, fun _ h => h, fun _ _ hi => rowIn_old hold hi, fun g hg => hold g (h.lim g hg)⟩
  refine ⟨⟨fun _ _ h => h, fun _ h => h, fun _ h => .inr h, fun _ => Iff.rfl, fun g hg => ?_⟩, h.step hst hd hx ?_ ?_ h.inj ?_ ?_ (fun k hk => h.fr k (Nat.le_trans hnx hk)) h.px⟩
  · rcases hg with rfl | hg
    · exact .inr h.keep.size
    · exact .inl hg
  · intro k cs hk
    exact (h.bx k cs hk).stays_other hst (fun g hg => hold g (h.live_lt (by rw [show blook k σ.bx = some cs from hk]; rfl) hg))
  · intro k g hk hg
    obtain ⟨h1, h2, h3⟩ := h.own k g hk hg
    refine ⟨fun h' => ?_, h2, h3⟩
    rcases h' with rfl | h'
    · exact absurd (h.live_lt hk hg) (Nat.lt_irrefl _)
    · exact h1 h'
  · intro g hg
    rcases hg with (rfl | hg) | hg
    · omega
    · have := h.lim g (.inl hg); omega
    · have := h.lim g (.inr hg); omega
  · exact h.keep.trans ⟨hwo, hwt, hwp, by omega, fun g hg _ => hold g hg⟩

end
end Go.Proofs.Ytdnmnafadondkaa
