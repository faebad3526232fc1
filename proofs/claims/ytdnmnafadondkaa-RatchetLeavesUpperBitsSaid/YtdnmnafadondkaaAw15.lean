/- A call by its contract. No condition. -/
import Derived.Test.YtdnmnafadondkaaAw14
set_option linter.unusedVariables false
set_option linter.unusedSimpArgs false
namespace Go.Proofs.Ytdnmnafadondkaa
open Go Go.RowKit

mutual
/-- Nothing borrowed. -/
def AV.kept : AV → Bool
  | .ds b _ cs => b && AVs.kept cs
  | .dp b cs => b && AVs.kept cs
  | .agg cs => AVs.kept cs
  | .tup cs => AVs.kept cs
  | .clo _ cs => AVs.kept cs
  | .ifc _ x => AV.kept x
  | _ => true
def AVs.kept : List AV → Bool
  | [] => true
  | x :: l => AV.kept x && AVs.kept l
end

/-- E2 has E1's names under f. 't': borrowed places count too. -/
structure Fwd (f : Nat → Nat) (t : Bool) (E1 E2 : Env) : Prop where
  bl : ∀ k g, E1.bl k = some g → E2.bl (f k) = some g
  ph : ∀ k, E1.ph k → E2.ph (f k)
  S : ∀ g, E1.S g → E2.S g
  T : t = true → ∀ g, E1.T g → E2.T g

theorem Fwd.ok {f : Nat → Nat} {t : Bool} {E1 E2 : Env} (h : Fwd f t E1 E2) {b : Bool} {g : Nat} (hk : (t || b) = true) (ho : E1.ok b g) : E2.ok b g := by
  rcases ho with h1 | ⟨h1, h2⟩
  · exact .inl (h.S g h1)
  · subst h1
    simp at hk
    exact .inr ⟨rfl, h.T hk g h2⟩

mutual
theorem M.fwd {w : World} {f : Nat → Nat} {t : Bool} {E1 E2 : Env} (h : Fwd f t E1 E2) : ∀ (x : AV) (v : Value), (t || x.kept) = true → M w E1 x v → M w E2 (x.map f) v
  | .any, _, _, _ => trivial
  | .val _, _, _, hm => hm
  | .ptr _ _, _, _, ⟨g, hg, hv⟩ => ⟨g, h.bl _ _ hg, hv⟩
  | .sl _ _ _ _ _, _, _, hm => hm.elim (fun ⟨c, a, b⟩ => .inl ⟨c, h.ph _ a, b⟩) (fun hm => .inr (hm.elim .inl (fun ⟨g, cap, ty, sz, h1, h2⟩ => .inr ⟨g, cap, ty, sz, h.bl _ _ h1, h2⟩)))
  | .ds b _ cells, _, hk, hm =>
    have hk' : (t || b) = true ∧ (t || AVs.kept cells) = true := by cases t <;> simp [AV.kept] at hk ⊢; exact hk
    hm.elim (fun ⟨h1, h2, h3⟩ => .inl ⟨h1, by subst h2; rfl, h3⟩)
      (fun ⟨g, off, cap, vs, h1, h2, h3, h4, h6⟩ => .inr ⟨g, off, cap, vs, h1, h2, h.ok hk'.1 h3, h4, Ms.fwd h cells vs hk'.2 h6⟩)
  | .dp b cells, _, hk, ⟨g, off, vs, h1, h3, h4, h6⟩ =>
    have hk' : (t || b) = true ∧ (t || AVs.kept cells) = true := by cases t <;> simp [AV.kept] at hk ⊢; exact hk
    ⟨g, off, vs, h1, h.ok hk'.1 h3, h4, Ms.fwd h cells vs hk'.2 h6⟩
  | .agg cells, _, hk, ⟨vs, hv, hm⟩ => ⟨vs, hv, Ms.fwd h cells vs hk hm⟩
  | .tup cells, _, hk, ⟨vs, hv, hm⟩ => ⟨vs, hv, Ms.fwd h cells vs hk hm⟩
  | .clo _ caps, _, hk, ⟨vs, hv, hm⟩ => ⟨vs, hv, Ms.fwd h caps vs hk hm⟩
  | .ifc _ x, _, hk, ⟨u, hv, hm⟩ => ⟨u, hv, M.fwd h x u hk hm⟩
theorem Ms.fwd {w : World} {f : Nat → Nat} {t : Bool} {E1 E2 : Env} (h : Fwd f t E1 E2) : ∀ (as : List AV) (vs : List Value), (t || AVs.kept as) = true → Ms w E1 as vs → Ms w E2 (AVs.map f as) vs
  | [], _, _, hm => hm
  | a :: as, _, hk, ⟨v, vs', hv, h1, h2⟩ =>
    have hk' : (t || a.kept) = true ∧ (t || AVs.kept as) = true := by cases t <;> simp [AVs.kept] at hk ⊢; exact hk
    ⟨v, vs', hv, M.fwd h a v hk'.1 h1, Ms.fwd h as vs' hk'.2 h2⟩
end

/-! ### Lending -/

def lendC (bx : Nat → Option (List AV)) : AV → AV
  | .sl k off n z _ => match bx k with
    | some cs => .ds false n ((cs.drop off).take (n * z))
    | none => .any
  | .val (.slice none 0 0) => .ds true 0 []
  | x => x

def lendA (bx : Nat → Option (List AV)) : AV → AV
  | .sl k off n z _ => match bx k with
    | some cs => .ds false n (((cs.drop off).take (n * z)).map (lendC bx))
    | none => .any
  | .agg cs => .agg (cs.map (lendC bx))
  | x => lendC bx x

/-- The places of the lent boxes may be read. -/
def Env.lent (E : Env) (L : Nat → Prop) : Env := { E with T := fun g => E.T g ∨ ∃ k, L k ∧ E.bl k = some g }

theorem stays_lent (w : World) (E : Env) (L : Nat → Prop) : Stays w E w (E.lent L) :=
  ⟨fun _ _ h => h, fun _ h => h, fun _ h => h, fun _ h => .inl h, fun _ _ h => h, fun _ _ => rfl⟩

section
variable {w : World} {E : Env} {L : Nat → Prop} {bx : Nat → Option (List AV)}

theorem Ms_mapf {E' : Env} {f : AV → AV} (hf : ∀ x v, M w E x v → M w E' (f x) v) : ∀ (l : List AV) (vs : List Value), Ms w E l vs → Ms w E' (l.map f) vs
  | [], _, h => h
  | x :: l, _, ⟨v, vs', hv, h1, h2⟩ => ⟨v, vs', hv, hf x v h1, Ms_mapf hf l vs' h2⟩

theorem sl_lend (hb : ∀ k cs, bx k = some cs → boxAt w E k cs ∧ L k) {f : AV → AV} (hf : ∀ x v, M w E x v → M w (E.lent L) (f x) v)
    {k off n z : Nat} {gr : Option TypeId} {cs : List AV} {v : Value} (hk : bx k = some cs) (hm : M w E (.sl k off n z gr) v) : M w (E.lent L) (.ds false n (((cs.drop off).take (n * z)).map f)) v := by
  have mapf := Ms_mapf (w := w) (E := E) (E' := E.lent L) hf
  rcases hm with ⟨_, _, rfl, _, rfl⟩ | ⟨_, rfl, a, cap, rfl⟩ | ⟨g, cap, ty, sz, hg, rfl, hcap, hri, _⟩
  · exact .inl ⟨rfl, by simp, _, _, rfl⟩
  · exact .inl ⟨rfl, by simp, _, _, rfl⟩
  · obtain ⟨hbx, hL⟩ := hb k cs hk
    have hok : (E.lent L).ok false g := .inr ⟨rfl, .inr ⟨k, hL, hg⟩⟩
    rcases hbx with ⟨_, rfl⟩ | ⟨g', c, ty', vs, hg', hw, hl, hc, hms⟩
    · have : ∃ c ty fr, w.heap[g]? = some (.cells c ty fr) := by
        unfold rowIn at hri
        split at hri
        · rename_i c ty fr hh; exact ⟨c, ty, fr, hh⟩
        · simp at hri
      obtain ⟨c, ty, fr, hh⟩ := this
      exact .inr ⟨g, off, cap, [], rfl, hcap, hok, ⟨c, ty, fr, hh, by simp⟩, by simp [Ms]⟩
    · obtain rfl : g = g' := by rw [hg] at hg'; simpa using hg'
      have hcl : cellsAt w g 0 vs := ⟨c, ty', _, hw, fun i hi => by simpa using hc i hi⟩
      have h1 := (hcl.drop off).take (n * z)
      simp only [Nat.zero_add] at h1
      exact .inr ⟨g, off, cap, _, rfl, hcap, hok, h1, mapf _ _ ((hms.drop off).take (n * z))⟩

theorem lendC_run (hb : ∀ k cs, bx k = some cs → boxAt w E k cs ∧ L k) {x : AV} {v : Value} (hm : M w E x v) : M w (E.lent L) (lendC bx x) v := by
  have st := stays_lent w E L
  unfold lendC
  split
  · rename_i k off n z gr
    split
    · rename_i cs hk
      have := sl_lend hb (f := fun x => x) (fun x v h => M.stays st x v h) hk hm
      simpa using this
    · trivial
  · simp only [M] at hm
    subst hm
    exact .inl ⟨rfl, rfl, _, _, rfl⟩
  · exact M.stays st _ _ hm

theorem lendA_run (hb : ∀ k cs, bx k = some cs → boxAt w E k cs ∧ L k) {x : AV} {v : Value} (hm : M w E x v) : M w (E.lent L) (lendA bx x) v := by
  unfold lendA
  split
  · rename_i k off n z gr
    split
    · rename_i cs hk
      exact sl_lend hb (fun x v h => lendC_run hb h) hk hm
    · trivial
  · rename_i cs
    obtain ⟨vs, rfl, hms⟩ := hm
    exact ⟨vs, rfl, Ms_mapf (fun x v h => lendC_run hb h) cs vs hms⟩
  · exact lendC_run hb hm

theorem lendAs_run (hb : ∀ k cs, bx k = some cs → boxAt w E k cs ∧ L k) : ∀ {xs : List AV} {vs : List Value}, Ms w E xs vs → Ms w (E.lent L) (xs.map (lendA bx)) vs
  | [], _, hm => hm
  | x :: xs, _, ⟨v, vs', hv, h1, h2⟩ => ⟨v, vs', hv, lendA_run hb h1, lendAs_run hb h2⟩
end

/-! ### The call -/

/-- The callee's names for the boxes that go in; any other name is a free one. -/
def ioMap (nx : Nat) (ios : List Nat) (k : Nat) : Nat := match ios[k]? with | some j => j | none => nx + k

/-- The caller's names for the callee's: those that went in, and the new ones from nx on. -/
def gMap (nx : Nat) (ios : List Nat) (k : Nat) : Nat := match ios[k]? with | some j => j | none => nx + (k - ios.length)

def zipIo (f : Nat → Nat) : List Nat → List (List AV) → List (Nat × Option (List AV))
  | k :: ks, c :: cs => (k, some (AVs.map f c)) :: zipIo f ks cs
  | _, _ => []

def newIo (f : Nat → Nat) (b : Nat) : List (List AV) → List (Nat × Option (List AV))
  | [] => []
  | c :: cs => (b, some (AVs.map f c)) :: newIo f (b + 1) cs

/-- The state behind a call; b: the first name of the new boxes; N: the next free name. -/
def St.behindB (σ : St) (b N : Nat) (tm : List (Nat × AV)) (ios : List Nat) (io nb : List (List AV)) : St :=
  { σ with nx := N, tm := tm, bx := zipIo (gMap b ios) ios io ++ (newIo (gMap b ios) b nb ++ σ.bx) }

def St.behind (σ : St) (tm : List (Nat × AV)) (ios : List Nat) (io nb : List (List AV)) : St := σ.behindB σ.nx (σ.nx + 8) tm ios io nb

theorem blook_zip {f : Nat → Nat} {r : List (Nat × Option (List AV))} {k : Nat} : ∀ {ios : List Nat} {io : List (List AV)}, ios.Nodup → ios.length = io.length →
    blook k (zipIo f ios io ++ r) = if k ∈ ios then (ios.idxOf? k).bind (fun j => (io[j]?).map (AVs.map f)) else blook k r
  | [], [], _, _ => by simp [zipIo]
  | i :: ios, c :: io, hnd, hl => by
    simp only [zipIo, List.cons_append, blook]
    by_cases h : k = i
    · subst h
      simp [List.idxOf?_cons]
    · rw [if_neg h, blook_zip (List.nodup_cons.1 hnd).2 (by simpa using hl)]
      have : (k ∈ i :: ios) ↔ k ∈ ios := by simp [h]
      by_cases hm : k ∈ ios
      · rw [if_pos hm, if_pos (this.2 hm)]
        rw [List.idxOf?_cons]
        have hik : (i == k) = false := by simp; exact fun h' => h h'.symm
        simp only [hik, Bool.false_eq_true, if_false]
        cases ios.idxOf? k <;> simp
      · rw [if_neg hm, if_neg (fun h' => hm (this.1 h'))]

theorem blook_new {f : Nat → Nat} {r : List (Nat × Option (List AV))} {k : Nat} : ∀ {nb : List (List AV)} {b : Nat},
    blook k (newIo f b nb ++ r) = if b ≤ k ∧ k < b + nb.length then (nb[k - b]?).map (AVs.map f) else blook k r
  | [], b => by simp [newIo]; intro h1 h2; omega
  | c :: nb, b => by
    simp only [newIo, List.cons_append, blook]
    by_cases h : k = b
    · subst h; simp
    · rw [if_neg h, blook_new]
      by_cases h1 : b + 1 ≤ k ∧ k < b + 1 + nb.length
      · rw [if_pos h1, if_pos (by simp; omega), show k - b = (k - (b + 1)) + 1 by omega]
        simp
      · rw [if_neg h1, if_neg (by simp; omega)]

section
variable {P : Program} {X : Nat → Prop} {w0 : World} {E0 : Env} {T : TypeId → Option TI} {eqt : List TypeId}

theorem idxOf_some {ios : List Nat} {k j : Nat} (hnd : ios.Nodup) (hj : ios[j]? = some k) : ios.idxOf? k = some j := by
  induction ios generalizing j with
  | nil => simp at hj
  | cons i ios ih =>
    rw [List.idxOf?_cons]
    cases j with
    | zero => simp at hj; subst hj; simp
    | succ j =>
      simp at hj
      have hm : k ∈ ios := List.mem_of_getElem? hj
      have hne : (i == k) = false := by
        simp
        rintro rfl
        exact (List.nodup_cons.1 hnd).1 hm
      simp [hne, ih (List.nodup_cons.1 hnd).2 hj]

theorem mem_idx {ios : List Nat} {k : Nat} (h : k ∈ ios) : ∃ j : Nat, ios[j]? = some k := List.mem_iff_getElem?.1 h

/-- The callee's env. -/
def Env.callee (E : Env) (nx : Nat) (ios : List Nat) : Env := E.ren (ioMap nx ios)

/-- The caller's env behind the call. -/
def Env.back (E E' : Env) (nx m n : Nat) : Env :=
  { bl := fun k => if nx ≤ k ∧ k < nx + n then E'.bl (m + (k - nx)) else E.bl k
    ph := fun k => (nx ≤ k ∧ k < nx + n ∧ E'.ph (m + (k - nx))) ∨ E.ph k
    S := E'.S
    T := E.T }

/-- The frame behind a call: what was there is there. 'L': the boxes that were lent. -/
theorem Sim.behind {E E' : Env} {σ : St} {a : Act} {w w' : World} (h : Sim X w0 E σ a w) (hg : Grow w0 E0 E) {b N : Nat} (hbf : ∀ k, b ≤ k → k < b + 8 → E.bl k = none ∧ ¬ E.ph k) (hN : σ.nx ≤ N) (hbN : b + 8 ≤ N) {L : Nat → Prop} {ios : List Nat} {io io' nb : List (List AV)}
    (hnd : ios.Nodup) (hlen : ios.length = io.length) (hlive : ∀ k ∈ ios, (blook k σ.bx).isSome ∧ E.bl k ≠ none) (hL : ∀ k, L k → (blook k σ.bx).isSome ∧ k ∉ ios)
    (ha : After w ((E.lent L).callee σ.nx ios) w' E' io.length io' nb) (hn : nb.length ≤ 8)
    {t : Bool} (ht : t = true → ∀ k, ¬ L k) (hk1 : ∀ c ∈ io', (t || AVs.kept c) = true) (hk2 : ∀ c ∈ nb, (t || AVs.kept c) = true)
    {a' : Act} {tm : List (Nat × AV)} (hnt : a'.tmps.size = a.tmps.size) (hdf : a'.defers = a.defers)
    (htm : Stays w E w' (E.back E' b io.length nb.length) → Fwd (gMap b ios) t E' (E.back E' b io.length nb.length) → ∀ q, M w' (E.back E' b io.length nb.length) (alook q tm) (a'.tmps.getD q undef)) :
    Grow w0 E0 (E.back E' b io.length nb.length) ∧ Sim X w0 (E.back E' b io.length nb.length) (σ.behindB b N tm ios io' nb) a' w' := by
  let E2 := E.back E' b io.length nb.length
  have hlen' : io'.length = ios.length := by rw [ha.len, hlen]
  -- the callee's names of what went in
  have cbl : ∀ j k, ios[j]? = some k → ((E.lent L).callee σ.nx ios).bl j = E.bl k := by
    intro j k hj
    show E.bl (ioMap σ.nx ios j) = _
    simp [ioMap, hj]
  have bl_in : ∀ j k g, ios[j]? = some k → (E'.bl j = some g ↔ E.bl k = some g) := by
    intro j k g hj
    have hk : k ∈ ios := List.mem_of_getElem? hj
    obtain ⟨q, hq⟩ := Option.ne_none_iff_exists'.1 (hlive k hk).2
    have := ha.grow.bl j q (by rw [cbl j k hj]; exact hq)
    rw [this, hq]
  have nx_none : ∀ k g, E.bl k = some g → ¬ (b ≤ k ∧ k < b + nb.length) := by
    intro k g hk hc
    rw [(hbf k hc.1 (by omega)).1] at hk
    simp at hk
  have bl_old : ∀ k g, E.bl k = some g → E2.bl k = some g := by
    intro k g hk
    show (if b ≤ k ∧ k < b + nb.length then _ else _) = _
    rw [if_neg (nx_none k g hk)]
    exact hk
  have io_lt : ∀ k ∈ ios, ¬ (b ≤ k ∧ k < b + nb.length) := by
    intro k hk hc
    exact absurd (hbf k hc.1 (by omega)).1 (hlive k hk).2
  have fwd : Fwd (gMap b ios) t E' E2 := by
    refine ⟨fun k g hk => ?_, fun k hk => ?_, fun _ h => h, fun htt g hg' => ?_⟩
    · unfold gMap
      cases hj : ios[k]? with
      | some j => exact bl_old j g ((bl_in k j g hj).1 hk)
      | none =>
        have hge : ios.length ≤ k := by simpa using hj
        have hlt : k < io.length + nb.length := by
          rcases Nat.lt_or_ge k (io.length + nb.length) with h1 | h1
          · exact h1
          · rw [(ha.fr k h1).1] at hk; simp at hk
        show (if b ≤ b + (k - ios.length) ∧ b + (k - ios.length) < b + nb.length then _ else _) = _
        rw [if_pos (by omega), show io.length + (b + (k - ios.length) - b) = k by omega]
        exact hk
    · unfold gMap
      cases hj : ios[k]? with
      | some j =>
        have hjm : j ∈ ios := List.mem_of_getElem? hj
        obtain ⟨q, hq⟩ := Option.ne_none_iff_exists'.1 (hlive j hjm).2
        have := ha.grow.bl k q (by rw [cbl k j hj]; exact hq)
        rw [ha.px k hk] at this
        simp at this
      | none =>
        have hge : ios.length ≤ k := by simpa using hj
        have hlt : k < io.length + nb.length := by
          rcases Nat.lt_or_ge k (io.length + nb.length) with h1 | h1
          · exact h1
          · exact absurd hk (ha.fr k h1).2
        have : b ≤ b + (k - ios.length) ∧ b + (k - ios.length) < b + nb.length ∧ E'.ph (io.length + (b + (k - ios.length) - b)) :=
          ⟨by omega, by omega, by rw [show io.length + (b + (k - ios.length) - b) = k by omega]; exact hk⟩
        exact .inl this
    · have := (ha.grow.T g).1 hg'
      rcases this with h1 | ⟨k, h1, _⟩
      · exact h1
      · exact absurd h1 (ht htt k)
  have old_blk : ∀ g, g < w.heap.size → (∀ k ∈ ios, E.bl k ≠ some g) → w'.heap[g]? = w.heap[g]? := by
    intro g hgl hne
    refine ha.keep.block g hgl ?_
    rintro ⟨j, hj, hjg⟩
    have hj' : j < ios.length := by omega
    rw [cbl j ios[j] (List.getElem?_eq_getElem hj')] at hjg
    exact hne _ (List.getElem_mem hj') hjg
  have own_io : ∀ k ∈ ios, ∀ g, E.bl k = some g → ¬ E.S g ∧ ¬ E.T g ∧ (w0.heap.size ≤ g ∨ X g) := fun k hk g hkg => h.own k g (hlive k hk).1 hkg
  have st : Stays w E w' E2 := by
    refine ⟨bl_old, fun k hk => .inr hk, fun g hg' => ha.grow.S g hg', fun g hg' => hg', ha.rw, fun g hg' => old_blk g (h.lim g hg') ?_⟩
    intro k hk hkg
    have := own_io k hk g hkg
    exact hg'.elim this.1 this.2.1
  have hgr : Grow w0 E E2 := by
    refine ⟨bl_old, fun k hk => .inr hk, fun g hg' => ha.grow.S g hg', fun _ => Iff.rfl, fun g hg' => ?_⟩
    rcases ha.grow.new g hg' with h1 | h1
    · exact .inl h1
    · exact .inr (Nat.le_trans h.keep.size h1)
  -- the boxes by name
  have bk : ∀ k, blook k (σ.behindB b N tm ios io' nb).bx = if k ∈ ios then (ios.idxOf? k).bind (fun j => (io'[j]?).map (AVs.map (gMap b ios))) else
      if b ≤ k ∧ k < b + nb.length then (nb[k - b]?).map (AVs.map (gMap b ios)) else blook k σ.bx := by
    intro k
    show blook k (zipIo _ ios io' ++ (newIo _ b nb ++ σ.bx)) = _
    rw [blook_zip hnd hlen'.symm, blook_new]
  have kind : ∀ k, (blook k (σ.behindB b N tm ios io' nb).bx).isSome → (∃ j : Nat, ios[j]? = some k) ∨ (k ∉ ios ∧ b ≤ k ∧ k < b + nb.length) ∨ (k ∉ ios ∧ ¬ (b ≤ k ∧ k < b + nb.length) ∧ (blook k σ.bx).isSome) := by
    intro k hk
    by_cases h1 : k ∈ ios
    · exact .inl (mem_idx h1)
    · rw [bk, if_neg h1] at hk
      by_cases h2 : b ≤ k ∧ k < b + nb.length
      · exact .inr (.inl ⟨h1, h2⟩)
      · rw [if_neg h2] at hk
        exact .inr (.inr ⟨h1, h2, hk⟩)
  have e2_new : ∀ k, b ≤ k ∧ k < b + nb.length → E2.bl k = E'.bl (io.length + (k - b)) := by
    intro k hk
    show (if b ≤ k ∧ k < b + nb.length then _ else _) = _
    rw [if_pos hk]
  have e2_old : ∀ k, ¬ (b ≤ k ∧ k < b + nb.length) → E2.bl k = E.bl k := by
    intro k hk
    show (if b ≤ k ∧ k < b + nb.length then _ else _) = _
    rw [if_neg hk]
  have ok_bx : ∀ (j : Nat) c, (io' ++ nb)[j]? = some c → boxAt w' E' j c := ha.ok.bx
  have fwdbox : ∀ j k c, (t || AVs.kept c) = true → boxAt w' E' j c → (∀ g, E'.bl j = some g → E2.bl k = some g) → (E'.ph j → E2.ph k) → boxAt w' E2 k (AVs.map (gMap b ios) c) := by
    intro j k c hkc hbx h1 h2
    rcases hbx with ⟨h3, rfl⟩ | ⟨g, cc, ty, vs, h3, h4, h5, h6, h7⟩
    · exact .inl ⟨h2 h3, rfl⟩
    · exact .inr ⟨g, cc, ty, vs, h1 g h3, h4, h5, h6, Ms.fwd fwd c vs hkc h7⟩
  have io_of : ∀ j k, ios[j]? = some k → j < ios.length := by
    intro j k hj
    rcases Nat.lt_or_ge j ios.length with h1 | h1
    · exact h1
    · simp [List.getElem?_eq_none h1] at hj
  refine ⟨hg.trans hgr, ⟨by rw [hnt]; exact h.nt, htm st fwd, fun g => M.stays st _ _ (h.gl g), ?_, ?_, ?_, ?_, ?_, fun g i h0 => ha.rw g i (h.rw g i h0), ?_, ?_, ?_⟩⟩
  · intro k cs hk
    rcases kind k (by rw [hk]; rfl) with ⟨j, hj⟩ | ⟨h1, h2⟩ | ⟨h1, h2, h3⟩
    · have hkm : k ∈ ios := List.mem_of_getElem? hj
      rw [bk, if_pos hkm, idxOf_some hnd hj] at hk
      simp only [Option.bind_some, Option.map_eq_some_iff] at hk
      obtain ⟨c, hc, rfl⟩ := hk
      have hjl := io_of j k hj
      refine fwdbox j k c (hk1 c (List.mem_of_getElem? hc)) (ok_bx j c (by rw [List.getElem?_append_left (by omega)]; exact hc)) (fun g hg' => bl_old k g ((bl_in j k g hj).1 hg')) (fun hp => ?_)
      obtain ⟨q, hq⟩ := Option.ne_none_iff_exists'.1 (hlive k hkm).2
      have := (bl_in j k q hj).2 hq
      rw [ha.px j hp] at this
      simp at this
    · rw [bk, if_neg h1, if_pos h2] at hk
      simp only [Option.map_eq_some_iff] at hk
      obtain ⟨c, hc, rfl⟩ := hk
      refine fwdbox (io.length + (k - b)) k c (hk2 c (List.mem_of_getElem? hc)) (ok_bx _ c ?_) (fun g hg' => by rw [e2_new k h2]; exact hg') (fun hp => .inl ⟨h2.1, h2.2, hp⟩)
      rw [List.getElem?_append_right (by rw [ha.len]; omega), ha.len, show io.length + (k - b) - io.length = k - b by omega]
      exact hc
    · rw [bk, if_neg h1, if_neg h2] at hk
      refine (h.bx k cs hk).stays_other st (fun g hg' => old_blk g (h.live_lt h3 hg') (fun k' hk' hk'g => ?_))
      exact h1 (h.inj k k' g h3 (hlive k' hk').1 hg' hk'g ▸ hk')
  · intro k g hk hkg
    rcases kind k hk with ⟨j, hj⟩ | ⟨h1, h2⟩ | ⟨h1, h2, h3⟩
    · have hkm : k ∈ ios := List.mem_of_getElem? hj
      have hjl := io_of j k hj
      rw [e2_old k (io_lt k hkm)] at hkg
      have hs := ha.ok.own j g (by simp; omega) ((bl_in j k g hj).2 hkg)
      exact ⟨hs.1, (own_io k hkm g hkg).2⟩
    · rw [e2_new k h2] at hkg
      have hs := ha.ok.own (io.length + (k - b)) g (by rw [List.length_append, ha.len]; omega) hkg
      refine ⟨hs.1, fun hT => hs.2 ((ha.grow.T g).2 (.inl hT)), .inl (Nat.le_trans h.keep.size (ha.new _ g (by omega) (by omega) hkg))⟩
    · rw [e2_old k h2] at hkg
      obtain ⟨o1, o2, o3⟩ := h.own k g h3 hkg
      refine ⟨fun hS => ?_, o2, o3⟩
      rcases ha.grow.new g hS with h4 | h4
      · exact o1 h4
      · have := h.live_lt h3 hkg; omega
  · -- injective
    have num : ∀ k g, (blook k (σ.behindB b N tm ios io' nb).bx).isSome → E2.bl k = some g → (∃ j, j < io.length + nb.length ∧ E'.bl j = some g ∧ gMap b ios j = k) ∨ (k ∉ ios ∧ (blook k σ.bx).isSome ∧ E.bl k = some g) := by
      intro k g hk hkg
      rcases kind k hk with ⟨j, hj⟩ | ⟨h1, h2⟩ | ⟨h1, h2, h3⟩
      · have hkm : k ∈ ios := List.mem_of_getElem? hj
        have hjl := io_of j k hj
        rw [e2_old k (io_lt k hkm)] at hkg
        exact .inl ⟨j, by omega, (bl_in j k g hj).2 hkg, by simp [gMap, hj]⟩
      · rw [e2_new k h2] at hkg
        refine .inl ⟨io.length + (k - b), by omega, hkg, ?_⟩
        have : ios[io.length + (k - b)]? = none := List.getElem?_eq_none (by omega)
        simp only [gMap, this]
        omega
      · rw [e2_old k h2] at hkg
        exact .inr ⟨h1, h3, hkg⟩
    intro k k' g hk hk' hkg hkg'
    have cross : ∀ j k, j < io.length + nb.length → E'.bl j = some g → k ∉ ios → (blook k σ.bx).isSome → E.bl k = some g → False := by
      intro j k hj hjg hkm hkl hkg
      rcases Nat.lt_or_ge j io.length with h1 | h1
      · have hj' : ios[j]? = some ios[j] := List.getElem?_eq_getElem (by omega)
        have := (bl_in j _ g hj').1 hjg
        have hm : ios[j] ∈ ios := List.getElem_mem (by omega)
        exact hkm (h.inj k ios[j] g hkl (hlive _ hm).1 hkg this ▸ hm)
      · have := ha.new j g h1 hj hjg
        have := h.live_lt hkl hkg
        omega
    rcases num k g hk hkg with ⟨j, hj, hjg, hjk⟩ | ⟨h1, h2, h3⟩
    · rcases num k' g hk' hkg' with ⟨j', hj', hjg', hjk'⟩ | ⟨h1, h2, h3⟩
      · have := ha.ok.inj j j' g (by rw [List.length_append, ha.len]; exact hj) (by rw [List.length_append, ha.len]; exact hj') hjg hjg'
        rw [← hjk, ← hjk', this]
      · exact (cross j k' hj hjg h1 h2 h3).elim
    · rcases num k' g hk' hkg' with ⟨j', hj', hjg', hjk'⟩ | ⟨h1', h2', h3'⟩
      · exact (cross j' k hj' hjg' h1 h2 h3).elim
      · exact h.inj k k' g h2 h2' h3 h3'
  · intro g hg'
    rcases hg' with h1 | h1
    · exact ha.lim g (.inl h1)
    · exact ha.lim g (.inr ((ha.grow.T g).2 (.inl h1)))
  · refine ⟨ha.keep.os.trans h.keep.os, ha.keep.tape.trans h.keep.tape, ha.keep.output.trans h.keep.output, Nat.le_trans h.keep.size ha.keep.size, fun g hgl hX => ?_⟩
    rw [old_blk g (Nat.lt_of_lt_of_le hgl h.keep.size) (fun k hk hkg => ?_)]
    · exact h.keep.block g hgl hX
    · rcases (own_io k hk g hkg).2.2 with h1 | h1
      · omega
      · exact hX h1
  · intro k hk
    have hk' : N ≤ k := hk
    have hne : ¬ (b ≤ k ∧ k < b + nb.length) := by omega
    rw [e2_old k hne]
    refine ⟨(h.fr k (by omega)).1, fun hp => ?_⟩
    rcases hp with ⟨h1, h2, _⟩ | h1
    · omega
    · exact (h.fr k (by omega)).2 h1
  · intro k hk
    rcases hk with ⟨h1, h2, h3⟩ | h1
    · rw [e2_new k ⟨h1, h2⟩]; exact ha.px _ h3
    · have hkk := h.px k h1
      by_cases hc : b ≤ k ∧ k < b + nb.length
      · exact absurd h1 (hbf k hc.1 (by omega)).2
      · rw [e2_old k hc]; exact hkk
  · have := Md.stays st h.df
    rw [hdf]
    exact this

end
end Go.Proofs.Ytdnmnafadondkaa
