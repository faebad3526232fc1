/- A region whose order is drawn: whatever the order, the same state. No condition. -/
import Derived.Test.YtdnmnafadondkaaAw17
import Derived.Orders
set_option linter.unusedVariables false
set_option linter.unusedSimpArgs false
namespace Go.Proofs.Ytdnmnafadondkaa
open Go Go.RowKit

def preds (o : Oper) : List Nat := o.after.toList.filterMap fun e => if Region.binds .any e then some e.on else none

def onesOf (acc : List (List Nat)) : List Nat → List Nat
  | [] => []
  | p :: l => p :: (acc.getD p [] ++ onesOf acc l)

/-- For each operation those that come before it in every order. -/
def ancGo : List Oper → List (List Nat) → List (List Nat)
  | [], acc => acc
  | o :: l, acc => ancGo l (acc ++ [(onesOf acc (preds o)).eraseDups])

def cmp (ms : List (List Nat)) (a b : Nat) : Bool := (ms.getD b []).contains a

/-- The slots that an operation writes or looks at. -/
def onames (ops : Array Oper) (o : Oper) : List Tmp := o.dst.toList ++ o.looksAt ops

def noclash (ops : Array Oper) (p o : Oper) : Bool :=
  (match p.dst with | some d => !(onames ops o).contains d | none => true) && (match o.dst with | some d => !(onames ops p).contains d | none => true)

def statOk (ops : Array Oper) (ms : List (List Nat)) : Bool :=
  ops.toList.zipIdx.all fun (o, b) => (preds o).all (· < b) && ops.toList.zipIdx.all fun (p, a) => !(decide (a < b)) || cmp ms a b || noclash ops p o

abbrev Foot := List Nat × List Nat

def disj : List Nat → List Nat → Bool
  | [], _ => true
  | k :: l, m => !m.contains k && disj l m

def apart (g f : Foot) : Bool := disj g.1 (f.1 ++ f.2) && disj f.1 g.2

def fine (ms : List (List Nat)) (i : Nat) (f : Foot) : List (Nat × Foot) → Bool
  | [] => true
  | (j, g) :: l => (apart g f || cmp ms j i) && fine ms i f l

def addFoot (i : Nat) (f : Foot) (acc : List (Nat × Foot)) : List (Nat × Foot) := if f.1.isEmpty && f.2.isEmpty then acc else (i, f) :: acc

def AV.tops : List AV → List Nat
  | [] => []
  | .ptr k _ :: l => k :: AV.tops l
  | .sl k _ _ _ _ :: l => k :: AV.tops l
  | _ :: l => AV.tops l

structure Tk where
  e : Eff
  rd : List Nat

def Tk.foot (t : Tk) : Foot := (t.e.bxs.map (·.1), t.rd)

/-- The state with the effects of the operations that are listed. -/
def part (N : Nat) (ops : Array Oper) (L : Nat → Bool) : Nat → List Tk → St → St
  | _, [], σ => σ
  | i, t :: ts, σ => part N ops L (i + 1) ts (if L i = true then σ.app N (gslot ops i) t.e else σ)

section
variable (P : Program) (X : Nat → Prop) (w0 : World) (E0 : Env)

/-- Operation i comes to t in every state that is like σ where it looks. -/
def TaskOk (ops : Array Oper) (n0 N : Nat) (i : Nat) (o : Oper) (σ : St) (t : Tk) : Prop :=
  ∀ (σ' : St), σ'.nt = σ.nt → σ'.nx = N → σ'.gl = σ.gl → σ'.df = σ.df → (∀ q ∈ onames ops o, alook q σ'.tm = alook q σ.tm) → (∀ k ∈ t.rd, blook k σ'.bx = blook k σ.bx) →
  ∀ E a w (Q : Exit → Act → World → Prop) (K : Act → World → Prop), Grow w0 E0 E → Sim X w0 E σ' a w → (∀ k, n0 + 8 * i ≤ k → k < n0 + 8 * i + 8 → E.bl k = none ∧ ¬ E.ph k) →
    (∀ E' a' w', Near (n0 + 8 * i) E E' → Grow w0 E0 E' → Sim X w0 E' (σ'.app N o.dst t.e) a' w' → K a' w') → wpOp P ops Q i K a w

def Chain (ops : Array Oper) (ms : List (List Nat)) (n0 N : Nat) : Nat → List (Nat × Foot) → St → List Tk → St → Prop
  | i, _, σ, [], σf => i = ops.size ∧ σf = σ
  | i, acc, σ, t :: ts, σf => (∃ o, ops[i]? = some o ∧ TaskOk P X w0 E0 ops n0 N i o σ t) ∧ fine ms i t.foot acc = true ∧ Chain ops ms n0 N (i + 1) (addFoot i t.foot acc) (σ.app N (gslot ops i) t.e) ts σf

/-- From operation i on, in the order of the text. -/
def DR (ops : Array Oper) (ms : List (List Nat)) (n0 N : Nat) (Q : St → Prop) (i : Nat) (acc : List (Nat × Foot)) (σ : St) : Prop := ∃ ts σf, Chain P X w0 E0 ops ms n0 N i acc σ ts σf ∧ Q σf

variable {P X w0 E0}

theorem disj_spec {l m : List Nat} (h : disj l m = true) : ∀ k ∈ l, k ∉ m := by
  induction l with
  | nil => simp
  | cons x l ih =>
    simp [disj] at h
    intro k hk
    rcases List.mem_cons.1 hk with rfl | hk
    · simpa using h.1
    · exact ih h.2 k hk

theorem apart_spec {g f : Foot} (h : apart g f = true) : (∀ k ∈ g.1, k ∉ f.1 ∧ k ∉ f.2) ∧ (∀ k ∈ f.1, k ∉ g.2) := by
  simp [apart] at h
  refine ⟨fun k hk => ?_, fun k hk => disj_spec h.2 k hk⟩
  have := disj_spec h.1 k hk
  simpa using this

theorem apart_empty {g f : Foot} (h : (g.1.isEmpty && g.2.isEmpty) = true) : apart g f = true := by
  simp at h
  obtain ⟨h1, h2⟩ := h
  have : ∀ l : List Nat, disj l [] = true := by
    intro l; induction l with
    | nil => rfl
    | cons x l ih => simp [disj, ih]
  simp [apart, h1, h2, disj, this]

theorem part_none (N : Nat) (ops : Array Oper) (L : Nat → Bool) : ∀ (ts : List Tk) (i : Nat) (σ : St), (∀ j, i ≤ j → j < i + ts.length → L j = false) → part N ops L i ts σ = σ
  | [], _, _, _ => rfl
  | t :: ts, i, σ, h => by
    simp only [part]
    rw [h i (Nat.le_refl _) (by simp), if_neg (by simp)]
    exact part_none N ops L ts (i + 1) σ (fun j h1 h2 => h j (by omega) (by simp at h2 ⊢; omega))

theorem chain_len {ops : Array Oper} {ms : List (List Nat)} {n0 N : Nat} : ∀ (ts : List Tk) (i : Nat) (acc : List (Nat × Foot)) (σ σf : St), Chain P X w0 E0 ops ms n0 N i acc σ ts σf → i + ts.length = ops.size
  | [], i, _, _, _, h => by simpa using h.1
  | t :: ts, i, acc, σ, σf, h => by
    have := chain_len ts (i + 1) _ _ _ h.2.2
    simp; omega

theorem chain_last {ops : Array Oper} {ms : List (List Nat)} {n0 N : Nat} (L : Nat → Bool) : ∀ (ts : List Tk) (i : Nat) (acc : List (Nat × Foot)) (σ σf : St), Chain P X w0 E0 ops ms n0 N i acc σ ts σf → (∀ j, i ≤ j → j < ops.size → L j = true) → σf = part N ops L i ts σ
  | [], i, _, _, _, h, _ => h.2
  | t :: ts, i, acc, σ, σf, h, hL => by
    have hl := chain_len _ _ _ _ _ h
    simp only [part]
    rw [hL i (Nat.le_refl _) (by simp at hl; omega), if_pos rfl]
    exact chain_last L ts (i + 1) _ _ _ h.2.2 (fun j h1 h2 => hL j (by omega) h2)

theorem chain_task {ops : Array Oper} {ms : List (List Nat)} {n0 N : Nat} : ∀ (ts : List Tk) (i : Nat) (acc : List (Nat × Foot)) (σ σf : St), Chain P X w0 E0 ops ms n0 N i acc σ ts σf →
    ∀ (m : Nat) (t : Tk), ts[m]? = some t → ∃ o, ops[i + m]? = some o ∧ TaskOk P X w0 E0 ops n0 N (i + m) o (part N ops (fun j => decide (j < i + m)) i ts σ) t
  | [], i, _, _, _, _, m, t, hm => by simp at hm
  | t :: ts, i, acc, σ, σf, h, m, t', hm => by
    cases m with
    | zero =>
      simp at hm
      subst hm
      rw [part_none N ops _ (t :: ts) i σ (fun j h1 _ => by simp; omega)]
      exact h.1
    | succ m =>
      simp at hm
      obtain ⟨o, h1, h2⟩ := chain_task ts (i + 1) _ _ _ h.2.2 m t' hm
      refine ⟨o, by rw [show i + (m + 1) = i + 1 + m by omega]; exact h1, ?_⟩
      rw [show i + (m + 1) = i + 1 + m by omega]
      simp only [part]
      rw [if_pos (by simp; omega)]
      exact h2

theorem fine_mem {ms : List (List Nat)} {i : Nat} {f : Foot} : ∀ {acc : List (Nat × Foot)}, fine ms i f acc = true → ∀ j g, (j, g) ∈ acc → apart g f = true ∨ cmp ms j i = true
  | [], _, j, g, hm => by simp at hm
  | (j', g') :: l, h, j, g, hm => by
    simp [fine] at h
    rcases List.mem_cons.1 hm with h1 | h1
    · simp at h1; obtain ⟨rfl, rfl⟩ := h1; exact h.1
    · exact fine_mem h.2 j g h1

theorem chain_acc {ops : Array Oper} {ms : List (List Nat)} {n0 N : Nat} : ∀ (ts : List Tk) (i : Nat) (acc : List (Nat × Foot)) (σ σf : St), Chain P X w0 E0 ops ms n0 N i acc σ ts σf →
    ∀ j g, (j, g) ∈ acc → ∀ (m : Nat) (t : Tk), ts[m]? = some t → apart g t.foot = true ∨ cmp ms j (i + m) = true
  | [], i, _, _, _, _, _, _, _, m, t, hm => by simp at hm
  | t :: ts, i, acc, σ, σf, h, j, g, hj, m, t', hm => by
    cases m with
    | zero => simp at hm; subst hm; exact fine_mem h.2.1 j g hj
    | succ m =>
      simp at hm
      rw [show i + (m + 1) = i + 1 + m by omega]
      refine chain_acc ts (i + 1) _ _ _ h.2.2 j g ?_ m t' hm
      unfold addFoot
      split
      · exact hj
      · simp [hj]

theorem chain_pairs {ops : Array Oper} {ms : List (List Nat)} {n0 N : Nat} : ∀ (ts : List Tk) (i : Nat) (acc : List (Nat × Foot)) (σ σf : St), Chain P X w0 E0 ops ms n0 N i acc σ ts σf →
    ∀ (m m' : Nat) (t t' : Tk), m < m' → ts[m]? = some t → ts[m']? = some t' → apart t.foot t'.foot = true ∨ cmp ms (i + m) (i + m') = true
  | [], i, _, _, _, _, m, _, t, _, _, hm, _ => by simp at hm
  | t0 :: ts, i, acc, σ, σf, h, m, m', t, t', hlt, hm, hm' => by
    cases m' with
    | zero => omega
    | succ m' =>
      simp at hm'
      rw [show i + (m' + 1) = i + 1 + m' by omega]
      cases m with
      | zero =>
        simp at hm
        subst hm
        by_cases he : (t0.foot.1.isEmpty && t0.foot.2.isEmpty) = true
        · exact .inl (apart_empty he)
        · exact chain_acc ts (i + 1) _ _ _ h.2.2 i t0.foot (by unfold addFoot; rw [if_neg he]; simp) m' t' hm'
      | succ m =>
        simp at hm
        rw [show i + (m + 1) = i + 1 + m by omega]
        exact chain_pairs ts (i + 1) _ _ _ h.2.2 m m' t t' (by omega) hm hm'

/-! ### Look-ups in a part -/

theorem alook_tput {d : Option Tmp} {x : AV} {l : List (Nat × AV)} {q : Nat} : alook q (tput d x l) = if d = some q then x else alook q l := by
  cases d with
  | none => simp [tput]
  | some s =>
    simp only [tput, alook, Option.some.injEq]
    by_cases h : q = s
    · subst h; simp
    · rw [if_neg h, if_neg (fun h' => h h'.symm)]

theorem blook_app_in {k : Nat} : ∀ {l m m' : List (Nat × Option (List AV))}, k ∈ l.map (·.1) → blook k (l ++ m) = blook k (l ++ m')
  | [], _, _, h => by simp at h
  | (s, c) :: l, m, m', h => by
    simp only [List.cons_append, blook]
    split
    · rfl
    · rename_i hne
      simp at h
      exact blook_app_in (by simpa using h.resolve_left hne)

theorem blook_app_out {k : Nat} : ∀ {l m : List (Nat × Option (List AV))}, k ∉ l.map (·.1) → blook k (l ++ m) = blook k m
  | [], _, _ => rfl
  | (s, c) :: l, m, h => by
    simp only [List.cons_append, blook]
    simp at h
    rw [if_neg h.1]
    exact blook_app_out (by simpa using h.2)

theorem part_tm (N : Nat) (ops : Array Oper) (L L' : Nat → Bool) (q : Nat) : ∀ (ts : List Tk) (i : Nat) (σ σ' : St), alook q σ.tm = alook q σ'.tm →
    (∀ m, m < ts.length → gslot ops (i + m) = some q → L (i + m) = L' (i + m)) → alook q (part N ops L i ts σ).tm = alook q (part N ops L' i ts σ').tm
  | [], _, _, _, h, _ => h
  | t :: ts, i, σ, σ', h, hL => by
    simp only [part]
    refine part_tm N ops L L' q ts (i + 1) _ _ ?_ (fun m hm => by have := hL (m + 1) (by simp; omega); rwa [show i + (m + 1) = i + 1 + m by omega] at this)
    by_cases hd : gslot ops i = some q
    · have := hL 0 (by simp) hd
      simp only [Nat.add_zero] at this
      rw [this]
      split
      · simp only [St.app, alook_tput, hd, if_true]
      · exact h
    · have e : ∀ (b : Bool) (s : St), alook q (if b = true then s.app N (gslot ops i) t.e else s).tm = alook q s.tm := by
        intro b s
        cases b
        · simp
        · simp only [if_true, St.app, alook_tput]; rw [if_neg hd]
      rw [e, e, h]

theorem part_bx (N : Nat) (ops : Array Oper) (L L' : Nat → Bool) (k : Nat) : ∀ (ts : List Tk) (i : Nat) (σ σ' : St), blook k σ.bx = blook k σ'.bx →
    (∀ m t, ts[m]? = some t → k ∈ t.foot.1 → L (i + m) = L' (i + m)) → blook k (part N ops L i ts σ).bx = blook k (part N ops L' i ts σ').bx
  | [], _, _, _, h, _ => h
  | t :: ts, i, σ, σ', h, hL => by
    simp only [part]
    refine part_bx N ops L L' k ts (i + 1) _ _ ?_ (fun m t' hm => by have := hL (m + 1) t' (by simpa using hm); rwa [show i + (m + 1) = i + 1 + m by omega] at this)
    by_cases hd : k ∈ t.foot.1
    · have := hL 0 t (by simp) hd
      simp only [Nat.add_zero] at this
      rw [this]
      split
      · exact blook_app_in hd
      · exact h
    · have e : ∀ (b : Bool) (s : St), blook k (if b = true then s.app N (gslot ops i) t.e else s).bx = blook k s.bx := by
        intro b s
        cases b
        · simp
        · simp only [if_true]; exact blook_app_out hd
      rw [e, e, h]

theorem part_tm_last (N : Nat) (ops : Array Oper) (L : Nat → Bool) (q : Nat) : ∀ (ts : List Tk) (i m : Nat) (t : Tk) (σ : St), ts[m]? = some t → L (i + m) = true → gslot ops (i + m) = some q →
    (∀ m', m < m' → m' < ts.length → gslot ops (i + m') = some q → L (i + m') = false) → alook q (part N ops L i ts σ).tm = t.e.dst
  | [], _, _, _, _, h, _, _, _ => by simp at h
  | t :: ts, i, 0, t', σ, h, hL, hd, hn => by
    simp at h
    subst h
    simp only [Nat.add_zero] at hL hd
    simp only [part]
    rw [if_pos hL]
    rw [part_tm N ops L (fun _ => false) q ts (i + 1) _ _ rfl (fun m hm hg => by
      have := hn (m + 1) (by omega) (by simp; omega) (by rw [show i + (m + 1) = i + 1 + m by omega]; exact hg)
      rwa [show i + (m + 1) = i + 1 + m by omega] at this), part_none N ops _ ts (i + 1) _ (fun _ _ _ => rfl)]
    simp only [St.app, alook_tput, hd, if_true]
  | t :: ts, i, m + 1, t', σ, h, hL, hd, hn => by
    simp only [part]
    rw [show i + (m + 1) = i + 1 + m by omega] at hL hd
    refine part_tm_last N ops L q ts (i + 1) m t' _ (by simpa using h) hL hd (fun m' h1 h2 h3 => ?_)
    have := hn (m' + 1) (by omega) (by simp; omega) (by rw [show i + (m' + 1) = i + 1 + m' by omega]; exact h3)
    rwa [show i + (m' + 1) = i + 1 + m' by omega] at this

theorem part_bx_last (N : Nat) (ops : Array Oper) (L : Nat → Bool) (k : Nat) : ∀ (ts : List Tk) (i m : Nat) (t : Tk) (σ : St), ts[m]? = some t → L (i + m) = true → k ∈ t.foot.1 →
    (∀ m' t', m < m' → ts[m']? = some t' → k ∈ t'.foot.1 → L (i + m') = false) → ∀ r, blook k (part N ops L i ts σ).bx = blook k (t.e.bxs ++ r)
  | [], _, _, _, _, h, _, _, _, _ => by simp at h
  | t :: ts, i, 0, t', σ, h, hL, hd, hn, r => by
    simp at h
    subst h
    simp only [Nat.add_zero] at hL
    simp only [part]
    rw [if_pos hL]
    rw [part_bx N ops L (fun _ => false) k ts (i + 1) _ _ rfl (fun m t' hm hg => by
      have := hn (m + 1) t' (by omega) (by simpa using hm) hg
      rwa [show i + (m + 1) = i + 1 + m by omega] at this), part_none N ops _ ts (i + 1) _ (fun _ _ _ => rfl)]
    exact blook_app_in hd
  | t :: ts, i, m + 1, t', σ, h, hL, hd, hn, r => by
    simp only [part]
    rw [show i + (m + 1) = i + 1 + m by omega] at hL
    refine part_bx_last N ops L k ts (i + 1) m t' _ (by simpa using h) hL hd (fun m' t'' h1 h2 h3 => ?_) r
    have := hn (m' + 1) t'' (by omega) (by simpa using h2) h3
    rwa [show i + (m' + 1) = i + 1 + m' by omega] at this

theorem part_rest (N : Nat) (ops : Array Oper) (L : Nat → Bool) : ∀ (ts : List Tk) (i : Nat) (σ : St), σ.nx = N → (part N ops L i ts σ).nx = N ∧ (part N ops L i ts σ).nt = σ.nt ∧ (part N ops L i ts σ).gl = σ.gl ∧ (part N ops L i ts σ).df = σ.df
  | [], _, _, h => ⟨h, rfl, rfl, rfl⟩
  | t :: ts, i, σ, h => by
    simp only [part]
    split
    · exact part_rest N ops L ts (i + 1) (σ.app N (gslot ops i) t.e) rfl
    · exact part_rest N ops L ts (i + 1) σ h

/-! ### What comes before -/

def Closed (ops : Array Oper) (L : Nat → Bool) : Prop := ∀ (j : Nat) (o : Oper), ops[j]? = some o → L j = true → ∀ p ∈ preds o, L p = true

theorem onesOf_mem {acc : List (List Nat)} {a : Nat} : ∀ {l : List Nat}, a ∈ onesOf acc l → ∃ p ∈ l, a = p ∨ a ∈ acc.getD p []
  | [], h => by simp [onesOf] at h
  | p :: l, h => by
    simp only [onesOf, List.mem_cons, List.mem_append] at h
    rcases h with rfl | h | h
    · exact ⟨a, by simp, .inl rfl⟩
    · exact ⟨p, by simp, .inr h⟩
    · obtain ⟨p', h1, h2⟩ := onesOf_mem h
      exact ⟨p', by simp [h1], h2⟩

theorem ancGo_sound {ops : Array Oper} {L : Nat → Bool} (hc : Closed ops L) : ∀ (l : List Oper) (acc : List (List Nat)), l = ops.toList.drop acc.length → acc.length ≤ ops.size →
    (∀ b a, a ∈ acc.getD b [] → ∀ o, ops[b]? = some o → (∀ p ∈ preds o, L p = true) → L a = true) →
    ∀ b a, a ∈ (ancGo l acc).getD b [] → ∀ o, ops[b]? = some o → (∀ p ∈ preds o, L p = true) → L a = true
  | [], acc, _, _, h => h
  | o :: l, acc, hl, hle, h => by
    simp only [ancGo]
    obtain ⟨h1, h2⟩ := drop_cons hl
    have hlt : acc.length < ops.size := by
      rcases Nat.lt_or_ge acc.length ops.size with h3 | h3
      · exact h3
      · rw [List.drop_eq_nil_of_le (by simpa using h3)] at hl; simp at hl
    refine ancGo_sound hc l _ (by simpa using h2) (by simp; omega) ?_
    intro b a ha o' ho' hp
    rcases Nat.lt_trichotomy b acc.length with h3 | h3 | h3
    · refine h b a ?_ o' ho' hp
      rw [List.getD_eq_getElem?_getD, List.getElem?_append_left h3] at ha
      rwa [List.getD_eq_getElem?_getD]
    · subst h3
      have hoo : o' = o := by
        have : ops[acc.length]? = some o := by simpa using h1
        rw [this] at ho'; simpa using ho'.symm
      subst hoo
      rw [List.getD_eq_getElem?_getD, List.getElem?_append_right (Nat.le_refl _)] at ha
      simp at ha
      obtain ⟨p, hp1, hp2⟩ := onesOf_mem ha
      rcases hp2 with rfl | hp2
      · exact hp a hp1
      · have hpl : p < acc.length := by
          rcases Nat.lt_or_ge p acc.length with h4 | h4
          · exact h4
          · rw [List.getD_eq_getElem?_getD, List.getElem?_eq_none h4] at hp2; simp at hp2
        have hop : ops[p]? = some ops[p] := Array.getElem?_eq_getElem (by omega)
        exact h p a hp2 ops[p] hop (hc p _ hop (hp p hp1))
    · rw [List.getD_eq_getElem?_getD, List.getElem?_eq_none (by simp; omega)] at ha
      simp at ha

theorem anc_sound {ops : Array Oper} {ms : List (List Nat)} (hms : ancGo ops.toList [] = ms) {L : Nat → Bool} (hc : Closed ops L) {a b : Nat} (h : cmp ms a b = true) {o : Oper} (ho : ops[b]? = some o) (hp : ∀ p ∈ preds o, L p = true) : L a = true := by
  subst hms
  refine ancGo_sound hc ops.toList [] (by simp) (by simp) (fun b a ha => by simp at ha) b a ?_ o ho hp
  simpa [cmp] using h

theorem statOk_spec {ops : Array Oper} {ms : List (List Nat)} (h : statOk ops ms = true) :
    (∀ (b : Nat) (o : Oper), ops[b]? = some o → ∀ p ∈ preds o, p < b) ∧ (∀ (a b : Nat) (p o : Oper), a < b → ops[a]? = some p → ops[b]? = some o → cmp ms a b = true ∨ noclash ops p o = true) := by
  unfold statOk at h
  rw [List.all_eq_true] at h
  have at' : ∀ (b : Nat) (o : Oper), ops[b]? = some o → (o, b) ∈ ops.toList.zipIdx := by
    intro b o ho
    rw [List.mem_zipIdx_iff_getElem?]
    simpa using ho
  constructor
  · intro b o ho p hp
    have := h _ (at' b o ho)
    simp only [Bool.and_eq_true, List.all_eq_true] at this
    simpa using this.1 p hp
  · intro a b p o hlt hp ho
    have := h _ (at' b o ho)
    simp only [Bool.and_eq_true, List.all_eq_true] at this
    have h2 := this.2 _ (at' a p hp)
    simp only [Bool.or_eq_true] at h2
    rcases h2 with (h2 | h2) | h2
    · simp at h2; omega
    · exact .inl h2
    · exact .inr h2

theorem noclash_spec {ops : Array Oper} {p o : Oper} (h : noclash ops p o = true) : (∀ d, p.dst = some d → d ∉ onames ops o) ∧ (∀ d, o.dst = some d → d ∉ onames ops p) := by
  unfold noclash at h
  simp only [Bool.and_eq_true] at h
  constructor
  · intro d hd
    have := h.1
    rw [hd] at this
    simpa using this
  · intro d hd
    have := h.2
    rw [hd] at this
    simpa using this

end
end Go.Proofs.Ytdnmnafadondkaa
