/- What a session comes to on cells, in plain Lean. No condition. -/
import Derived.Test.YtdnmnafadondkaaW16
set_option linter.unusedVariables false
set_option linter.unusedSimpArgs false
namespace Go.Proofs.Ytdnmnafadondkaa

inductive Res (α : Type) where
  | done (x : α) (c : List Int) (i : Nat)
  | cut (c : List Int) (i : Nat)

def Pg.live {α : Type} (fl : List Int) : Pg α → List Int → Nat → Res α
  | .ret x, c, i => .done x c i
  | .ask a k, c, i => if cutAt fl i = true then .cut (accD a c true (noiseAt fl i) a.2.2.toNat).1 (i + 1)
      else (k ⟨(accD a c false (noiseAt fl i) a.2.2.toNat).2, ByteArray.empty⟩).live fl (accD a c false (noiseAt fl i) a.2.2.toNat).1 (i + 1)

/-- A program of at most so many accesses, all of n cells of bank 0, whose outcome has P. -/
def Pg.fine {α : Type} (n : Nat) (P : α → Prop) : Pg α → Nat → Prop
  | .ret x, _ => P x
  | .ask _ _, 0 => False
  | .ask a k, m + 1 => (∃ i : Nat, a = (1, 0, (i : Int)) ∧ i < n ∨ a = (2, 0, (i : Int)) ∧ i < n) ∧ ∀ r, (k r).fine n P m

theorem fine_okA {α : Type} {n : Nat} {P : α → Prop} : ∀ (p : Pg α) {m : Nat}, p.fine n P m → p.okA n
  | .ret x, _, _ => trivial
  | .ask a k, 0, h => h.elim
  | .ask a k, m + 1, h => ⟨h.1, fun r => fine_okA (k r) (h.2 r)⟩

theorem fine_bind {α β : Type} {n : Nat} {P : α → Prop} {Q : β → Prop} {f : α → Pg β} {m' : Nat} (hf : ∀ x, P x → (f x).fine n Q m') : ∀ (p : Pg α) {m : Nat}, p.fine n P m → (p.bind f).fine n Q (m + m')
  | .ret x, m, h => by
    simp only [Pg.bind]
    have mono : ∀ (q : Pg β) (a b : Nat), a ≤ b → q.fine n Q a → q.fine n Q b := by
      intro q
      induction q with
      | ret x => intro a b _ h; exact h
      | ask c k ih =>
        intro a b hab h
        cases a with
        | zero => exact h.elim
        | succ a => cases b with
          | zero => omega
          | succ b => exact ⟨h.1, fun r => ih r a b (by omega) (h.2 r)⟩
    exact mono _ _ _ (by omega) (hf x h)
  | .ask a k, 0, h => h.elim
  | .ask a k, m + 1, h => by
    rw [show m + 1 + m' = (m + m') + 1 by omega]
    exact ⟨h.1, fun r => fine_bind hf (k r) (h.2 r)⟩

theorem fine_mono {α : Type} {n : Nat} {P Q : α → Prop} (hPQ : ∀ x, P x → Q x) : ∀ (p : Pg α) {a b : Nat}, a ≤ b → p.fine n P a → p.fine n Q b
  | .ret x, _, _, _, h => hPQ x h
  | .ask c k, 0, _, _, h => h.elim
  | .ask c k, a + 1, 0, hab, h => by omega
  | .ask c k, a + 1, b + 1, hab, h => ⟨h.1, fun r => fine_mono hPQ (k r) (by omega) (h.2 r)⟩

theorem fine_reads {n b : Nat} (hb : 3 * b + 3 ≤ n) : ∀ (k i : Nat) (xs : List Int), i + k ≤ 3 → (readsP 0 b k i xs).fine n (fun _ => True) k
  | 0, i, xs, _ => trivial
  | k + 1, i, xs, h => by
    simp only [readsP, fuseP, Pg.bind]
    exact ⟨⟨3 * b + i, .inl ⟨by simp, by omega⟩⟩, fun r => fine_reads hb k (i + 1) _ (by omega)⟩

theorem fine_read {n b : Nat} (hb : 3 * b + 3 ≤ n) : (readP 0 b).fine n (fun _ => True) 3 := by
  unfold readP
  refine fine_bind (P := fun _ => True) (m' := 0) (m := 3) (fun x _ => ?_) _ (fine_reads hb 3 0 [] (by omega))
  exact trivial

theorem fine_puls {n b : Nat} (hb : 3 * b + 3 ≤ n) : ∀ (k i : Nat), i + k ≤ 3 → (pulsesP 0 b k i).fine n (fun _ => True) k
  | 0, i, _ => trivial
  | k + 1, i, h => by
    simp only [pulsesP, pulseP, Pg.bind]
    exact ⟨⟨3 * b + i, .inr ⟨by simp, by omega⟩⟩, fun r => fine_puls hb k (i + 1) (by omega)⟩

theorem fine_up {n : Nat} : ∀ (k b : Nat), 3 * (b + k) ≤ n → (upP 0 k b).fine n (fun x => x ≤ b + k) (3 * k)
  | 0, b, _ => Nat.le_refl _
  | k + 1, b, h => by
    simp only [upP]
    rw [show 3 * (k + 1) = 3 + 3 * k by omega]
    refine fine_bind (fun v _ => ?_) _ (fine_read (by omega))
    cases v with
    | true => exact fine_mono (fun x hx => by omega) _ (Nat.le_refl _) (fine_up k (b + 1) (by omega))
    | false => exact (by show b ≤ b + (k + 1); omega)

theorem fine_all {n : Nat} : ∀ (k b : Nat), 3 * (b + k) ≤ n → (allP 0 k b).fine n (fun _ => True) (3 * k)
  | 0, b, _ => trivial
  | k + 1, b, h => by
    simp only [allP]
    rw [show 3 * (k + 1) = 3 + 3 * k by omega]
    exact fine_bind (fun _ _ => fine_all k (b + 1) (by omega)) _ (fine_puls (by omega) 3 0 (by omega))

theorem fine_level {n bits : Nat} (h : 3 * bits ≤ n) : (levelP 0 bits).fine n (fun x => x ≤ bits) (6 * bits) := by
  rw [show 6 * bits = 3 * bits + 3 * bits by omega]
  refine fine_bind (P := fun x => x ≤ bits) (fun x hx => ?_) _ (fine_mono (fun x hx => by omega) _ (Nat.le_refl _) (fine_up bits 0 (by omega)))
  rw [show 3 * bits = 3 * bits + 0 by omega]
  refine fine_bind (P := fun _ => True) (fun _ _ => ?_) _ (fine_mono (fun _ _ => trivial) _ (show 3 * x ≤ 3 * bits by omega) (fine_all x 0 (by omega)))
  exact hx

theorem fine_raiseN {n : Nat} : ∀ (k b : Nat), 3 * (b + k) ≤ n → (raiseN 0 k b).fine n (fun _ => True) (6 * k)
  | 0, b, _ => trivial
  | k + 1, b, h => by
    simp only [raiseN]
    rw [show 6 * (k + 1) = 3 + (3 + 6 * k) by omega]
    refine fine_bind (fun _ _ => ?_) _ (fine_puls (by omega) 3 0 (by omega))
    refine fine_bind (fun v _ => ?_) _ (fine_read (by omega))
    cases v with
    | true => exact fine_raiseN k (b + 1) (by omega)
    | false => exact trivial

theorem fine_raise {n bits t : Nat} (h : 3 * bits ≤ n) (ht : t ≤ bits) : (raiseP 0 bits t).fine n (fun _ => True) (12 * bits) := by
  rw [show 12 * bits = 6 * bits + 6 * bits by omega]
  refine fine_bind (fun x hx => ?_) _ (fine_level h)
  exact fine_mono (fun _ _ => trivial) _ (show 6 * (t - x) ≤ 6 * bits by omega) (by
    by_cases hxt : x ≤ t
    · exact fine_raiseN (t - x) x (by omega)
    · rw [Nat.sub_eq_zero_of_le (by omega)]; exact trivial)

/-! ### The replayed session is the live one -/

def Pg.after {α : Type} : Pg α → List Rs → Option (Pg α)
  | p, [] => some p
  | .ret _, _ :: _ => none
  | .ask _ k, r :: L => (k r).after L

theorem after_snoc {α : Type} {a : Ac} {k : Rs → Pg α} {r : Rs} : ∀ (L : List Rs) (p : Pg α), p.after L = some (.ask a k) → p.after (L ++ [r]) = some (k r)
  | [], p, h => by simp [Pg.after] at h; subst h; simp [Pg.after]
  | s :: L, .ret x, h => by simp [Pg.after] at h
  | s :: L, .ask b j, h => by simp only [Pg.after, List.cons_append] at h ⊢; exact after_snoc L (j s) h

theorem runAt_after {α : Type} : ∀ (L L0 : List Rs) (p q : Pg α), p.after L = some q → p.runAt (L0 ++ L) L0.length = q.runAt (L0 ++ L) (L0 ++ L).length
  | [], L0, p, q, h => by simp [Pg.after] at h; subst h; simp
  | s :: L, L0, .ret x, q, h => by simp [Pg.after] at h
  | s :: L, L0, .ask b j, q, h => by
    simp only [Pg.after] at h
    have h1 : (L0 ++ s :: L)[L0.length]? = some s := by simp
    simp only [Pg.runAt, h1]
    have := runAt_after L (L0 ++ [s]) (j s) q h
    simpa using this

def Res.run : Res (Int × Int) → RunR
  | .done x c i => ⟨c, x, true, i, false⟩
  | .cut c i => ⟨c, (0, 0), false, i, false⟩

theorem ex_live (p : Pg (Int × Int)) (fl : List Int) (n : Nat) (P : Int × Int → Prop) : ∀ (k m : Nat) (c : List Int) (L : List Rs) (q : Pg (Int × Int)), m < k → p.after L = some q → q.fine n P m → exL p fl k c L = (q.live fl c L.length).run
  | 0, m, c, L, q, h, _, _ => by omega
  | k + 1, m, c, L, .ret x, h, ha, hf => by
    have := runAt_after L [] p _ ha
    simp only [List.nil_append, List.length_nil, Pg.runAt] at this
    simp only [exL, this, Pg.live, Res.run]
  | k + 1, 0, c, L, .ask a j, h, ha, hf => hf.elim
  | k + 1, m + 1, c, L, .ask a j, h, ha, hf => by
    have := runAt_after L [] p _ ha
    have hn : L[L.length]? = none := by simp
    simp only [List.nil_append, List.length_nil, Pg.runAt, hn] at this
    simp only [exL, this, Pg.live]
    cases hc : cutAt fl L.length with
    | true => simp [Res.run]
    | false =>
      simp only [Bool.false_eq_true, if_false]
      rw [ex_live p fl n P k m _ _ _ (by omega) (after_snoc L p ha) (hf.2 _)]
      simp

/-! ### What holds behind a live run -/

def Wp {α : Type} (fl : List Int) (p : Pg α) (P : α → List Int → Nat → Prop) (C : List Int → Nat → Prop) (c : List Int) (i : Nat) : Prop :=
  match p.live fl c i with
  | .done x c' j => P x c' j
  | .cut c' j => C c' j

section
variable {α β : Type} {fl : List Int} {P : α → List Int → Nat → Prop} {Q : β → List Int → Nat → Prop} {C : List Int → Nat → Prop} {c : List Int} {i : Nat}

theorem Wp_ret {x : α} (h : P x c i) : Wp fl (.ret x) P C c i := h
theorem Wp_ask {a : Ac} {k : Rs → Pg α} (hc : cutAt fl i = true → C (accD a c true (noiseAt fl i) a.2.2.toNat).1 (i + 1))
    (h : cutAt fl i = false → Wp fl (k ⟨(accD a c false (noiseAt fl i) a.2.2.toNat).2, ByteArray.empty⟩) P C (accD a c false (noiseAt fl i) a.2.2.toNat).1 (i + 1)) : Wp fl (.ask a k) P C c i := by
  simp only [Wp, Pg.live]
  cases hb : cutAt fl i with
  | true => simpa using hc hb
  | false => simpa [Wp] using h hb
theorem Wp_bind {f : α → Pg β} : ∀ (p : Pg α) (c : List Int) (i : Nat), Wp fl p (fun x c' j => Wp fl (f x) Q C c' j) C c i → Wp fl (p.bind f) Q C c i
  | .ret x, c, i, h => h
  | .ask a k, c, i, h => by
    simp only [Pg.bind]
    simp only [Wp, Pg.live] at h
    refine Wp_ask (fun hb => ?_) (fun hb => ?_)
    · simpa [hb] using h
    · simp only [hb, Bool.false_eq_true, if_false] at h
      exact Wp_bind (k _) _ _ h
theorem Wp_mono {p : Pg α} {P' : α → List Int → Nat → Prop} {C' : List Int → Nat → Prop} (h : Wp fl p P C c i) (hP : ∀ x c j, P x c j → P' x c j) (hC : ∀ c j, C c j → C' c j) : Wp fl p P' C' c i := by
  simp only [Wp] at h ⊢
  split at h
  · exact hP _ _ _ h
  · exact hC _ _ h
end

theorem cutAt_nil (i : Nat) : cutAt [] i = false := by simp [cutAt]
theorem noiseAt_nil (i : Nat) : noiseAt [] i = false := by simp [noiseAt]
theorem ne_of_cut {fl : List Int} {i : Nat} (h : cutAt fl i = true) : fl ≠ [] := by rintro rfl; simp [cutAt_nil] at h

/-- What the three cells of bit b read as, under some noise (none without faults). -/
def Rd (fl c : List Int) (b : Nat) (v : Bool) : Prop :=
  ∃ n0 n1 n2 : Bool, (fl = [] → n0 = false ∧ n1 = false ∧ n2 = false) ∧ v = decide (2 ≤ rdV (c.getD (3 * b) 0) n0 + rdV (c.getD (3 * b + 1) 0) n1 + rdV (c.getD (3 * b + 2) 0) n2)

theorem cnt3 {x y z : Int} (hx : x = 0 ∨ x = 1) (hy : y = 0 ∨ y = 1) (hz : z = 0 ∨ z = 1) : decide ((3 : Int) < 2 * (cntN [x, y, z] : Nat)) = decide (2 ≤ x + y + z) := by
  rcases hx with rfl | rfl <;> rcases hy with rfl | rfl <;> rcases hz with rfl | rfl <;> decide

theorem rdV01 (v : Int) (n : Bool) : rdV v n = 0 ∨ rdV v n = 1 := by unfold rdV; split <;> simp

theorem toNat_cell (b i : Nat) : ((3 : Int) * (b : Int) + (i : Int)).toNat = 3 * b + i := by omega

theorem Wp_read {fl c : List Int} {P : Bool → List Int → Nat → Prop} {C : List Int → Nat → Prop} {i b : Nat} (hC : fl ≠ [] → ∀ j, C c j) (hP : ∀ v, Rd fl c b v → P v c (i + 3)) : Wp fl (readP 0 b) P C c i := by
  simp only [readP, readsP, fuseP, Pg.bind]
  refine Wp_ask (fun hb => by simpa [accD] using hC (ne_of_cut hb) _) (fun h0 => ?_)
  refine Wp_ask (fun hb => by simpa [accD] using hC (ne_of_cut hb) _) (fun h1 => ?_)
  refine Wp_ask (fun hb => by simpa [accD] using hC (ne_of_cut hb) _) (fun h2 => ?_)
  refine Wp_ret ?_
  simp only [accD, if_true, Bool.false_eq_true, if_false, List.nil_append, List.cons_append]
  refine hP _ ⟨noiseAt fl i, noiseAt fl (i + 1), noiseAt fl (i + 1 + 1), fun h => by subst h; simp [noiseAt_nil], ?_⟩
  have t0 := toNat_cell b 0
  have t1 := toNat_cell b 1
  have t2 := toNat_cell b 2
  simp only [Nat.add_zero] at t0
  simp only [Nat.zero_add, Nat.reduceAdd]
  rw [t0, t1, t2]
  exact cnt3 (rdV01 _ _) (rdV01 _ _) (rdV01 _ _)

/-- What pulses may make of a cell. -/
def PulR (v v' : Int) : Prop := v' = v ∨ (v ≤ 1 ∧ (v' = 1 ∨ v' = 2))
theorem PulR.trans {a b c : Int} (h : PulR a b) (k : PulR b c) : PulR a c := by
  unfold PulR at *; omega
theorem PulR.refl (a : Int) : PulR a a := .inl rfl
theorem pulV_R (v : Int) (cut : Bool) : PulR v (pulV v cut) := by
  unfold PulR pulV
  split
  · rename_i h; cases cut <;> simp [h]
  · exact .inl rfl

/-- c' comes out of c by pulses of the cells from lo up to hi. -/
structure Pul (lo hi : Nat) (c c' : List Int) : Prop where
  len : c'.length = c.length
  out : ∀ k, k < lo ∨ hi ≤ k → c'.getD k 0 = c.getD k 0
  rel : ∀ k, PulR (c.getD k 0) (c'.getD k 0)
theorem Pul.refl (lo hi : Nat) (c : List Int) : Pul lo hi c c := ⟨rfl, fun _ _ => rfl, fun _ => .refl _⟩
theorem Pul.trans {lo hi : Nat} {a b c : List Int} (h : Pul lo hi a b) (k : Pul lo hi b c) : Pul lo hi a c :=
  ⟨k.len.trans h.len, fun x hx => (k.out x hx).trans (h.out x hx), fun x => (h.rel x).trans (k.rel x)⟩
theorem Pul.mono {lo hi lo' hi' : Nat} {a b : List Int} (h : Pul lo hi a b) (h1 : lo' ≤ lo) (h2 : hi ≤ hi') : Pul lo' hi' a b :=
  ⟨h.len, fun x hx => h.out x (by omega), h.rel⟩

theorem getD_set (c : List Int) (i j : Nat) (v : Int) : (c.set i v).getD j 0 = if j = i ∧ i < c.length then v else c.getD j 0 := by
  rw [List.getD_eq_getElem?_getD, List.getD_eq_getElem?_getD, List.getElem?_set]
  by_cases h : i = j
  · subst h
    by_cases h2 : i < c.length
    · simp [h2]
    · simp [h2]
  · rw [if_neg h, if_neg (by omega)]

theorem set_pul {lo hi i : Nat} (c : List Int) (cut : Bool) (h1 : lo ≤ i) (h2 : i < hi) : Pul lo hi c (c.set i (pulV (c.getD i 0) cut)) := by
  refine ⟨by simp, fun k hk => ?_, fun k => ?_⟩
  · rw [getD_set, if_neg (by omega)]
  · rw [getD_set]
    split
    · rename_i h; rw [h.1]; exact pulV_R _ _
    · exact .refl _

def pul3 (c : List Int) (b : Nat) : List Int :=
  let c1 := c.set (3 * b) (pulV (c.getD (3 * b) 0) false)
  let c2 := c1.set (3 * b + 1) (pulV (c1.getD (3 * b + 1) 0) false)
  c2.set (3 * b + 2) (pulV (c2.getD (3 * b + 2) 0) false)

theorem pul3_in {c : List Int} {b k : Nat} (hb : 3 * b + 3 ≤ c.length) (h1 : 3 * b ≤ k) (h2 : k < 3 * b + 3) : (pul3 c b).getD k 0 = pulV (c.getD k 0) false := by
  have hk : k = 3 * b ∨ k = 3 * b + 1 ∨ k = 3 * b + 2 := by omega
  have l0 : 3 * b < c.length := by omega
  have l1 : 3 * b + 1 < c.length := by omega
  have l2 : 3 * b + 2 < c.length := by omega
  unfold pul3
  rcases hk with rfl | rfl | rfl <;> simp only [getD_set, List.length_set] <;> simp [l0, l1, l2]

theorem pul3_pul (c : List Int) (b : Nat) : Pul (3 * b) (3 * b + 3) c (pul3 c b) :=
  ((set_pul c false (Nat.le_refl _) (by omega)).trans (set_pul _ false (by omega) (by omega))).trans (set_pul _ false (by omega) (by omega))

theorem Wp_pulse {fl c : List Int} {P : Unit → List Int → Nat → Prop} {C : List Int → Nat → Prop} {i b : Nat} (hC : fl ≠ [] → ∀ c' j, Pul (3 * b) (3 * b + 3) c c' → C c' j) (hP : P () (pul3 c b) (i + 3)) : Wp fl (pulse3P 0 b) P C c i := by
  have t0 := toNat_cell b 0
  have t1 := toNat_cell b 1
  have t2 := toNat_cell b 2
  simp only [pulse3P, pulsesP, pulseP, Pg.bind]
  have n21 : ((2 : Int) = 1) = False := by simp
  have acc : ∀ (c : List Int) (cut noise : Bool) (k : Nat) , k < 3 → accD (2, 0, 3 * (b : Int) + ((k : Nat) : Int)) c cut noise (3 * (b : Int) + ((k : Nat) : Int)).toNat = (c.set (3 * b + k) (pulV (c.getD (3 * b + k) 0) cut), 0) := by
    intro c cut noise k hk
    simp only [accD, n21, if_false, toNat_cell]
  refine Wp_ask (fun hb => ?_) (fun h0 => ?_)
  · rw [acc _ _ _ 0 (by omega)]
    exact hC (ne_of_cut hb) _ _ (set_pul c true (by omega) (by omega))
  rw [acc _ _ _ 0 (by omega)]
  refine Wp_ask (fun hb => ?_) (fun h1 => ?_)
  · rw [acc _ _ _ 1 (by omega)]
    exact hC (ne_of_cut hb) _ _ ((set_pul c false (by omega) (by omega)).trans (set_pul _ true (by omega) (by omega)))
  rw [acc _ _ _ 1 (by omega)]
  refine Wp_ask (fun hb => ?_) (fun h2 => ?_)
  · rw [acc _ _ _ 2 (by omega)]
    exact hC (ne_of_cut hb) _ _ (((set_pul c false (by omega) (by omega)).trans (set_pul _ false (by omega) (by omega))).trans (set_pul _ true (by omega) (by omega)))
  rw [acc _ _ _ 2 (by omega)]
  exact Wp_ret hP

theorem Wp_up {fl c : List Int} {P : Nat → List Int → Nat → Prop} {C : List Int → Nat → Prop} : ∀ (k b i : Nat) (hC : fl ≠ [] → ∀ j, C c j)
    (hP : ∀ n, b ≤ n → n ≤ b + k → (∀ x, b ≤ x → x < n → Rd fl c x true) → (n < b + k → Rd fl c n false) → P n c (i + 3 * (n - b) + if n < b + k then 3 else 0)), Wp fl (upP 0 k b) P C c i
  | 0, b, i, hC, hP => by
    have := hP b (Nat.le_refl _) (Nat.le_refl _) (fun x _ _ => by omega) (fun h => by omega)
    simp only [Nat.sub_self, Nat.mul_zero, Nat.add_zero, Nat.lt_irrefl, if_false] at this
    exact Wp_ret this
  | k + 1, b, i, hC, hP => by
    simp only [upP]
    refine Wp_bind _ _ _ (Wp_read hC fun v hv => ?_)
    cases v with
    | false =>
      have := hP b (Nat.le_refl _) (by omega) (fun x _ _ => by omega) (fun _ => hv)
      rw [if_pos (by omega)] at this
      exact Wp_ret (by simpa using this)
    | true =>
      refine Wp_up k (b + 1) (i + 3) hC fun n h1 h2 h3 h4 => ?_
      have := hP n (by omega) (by omega) (fun x hx hn => by
        by_cases hxb : x = b
        · subst hxb; exact hv
        · exact h3 x (by omega) hn) (fun h => h4 (by omega))
      have e : (n < b + 1 + k) = (n < b + (k + 1)) := by rw [show b + 1 + k = b + (k + 1) by omega]
      rw [show i + 3 + 3 * (n - (b + 1)) = i + 3 * (n - b) by omega]
      simp only [e]
      exact this

/-- All the cells from lo up to hi were pulsed in full, and no others. -/
structure Full (lo hi : Nat) (c c' : List Int) : Prop where
  pul : Pul lo hi c c'
  full : ∀ k, lo ≤ k → k < hi → c'.getD k 0 = pulV (c.getD k 0) false
theorem Full.none (lo : Nat) (c : List Int) : Full lo lo c c := ⟨.refl _ _ _, fun k h1 h2 => by omega⟩

theorem Full.snoc {lo b : Nat} {c c' : List Int} (h : Full lo (3 * b) c c') (hlo : lo ≤ 3 * b) (hb : 3 * b + 3 ≤ c.length) : Full lo (3 * b + 3) c (pul3 c' b) := by
  have hb' : 3 * b + 3 ≤ c'.length := by rw [h.pul.len]; exact hb
  refine ⟨(h.pul.mono (Nat.le_refl _) (by omega)).trans ((pul3_pul c' b).mono (by omega) (Nat.le_refl _)), fun k h1 h2 => ?_⟩
  by_cases hk : k < 3 * b
  · rw [(pul3_pul c' b).out k (.inl hk)]
    exact h.full k h1 hk
  · rw [pul3_in hb' (by omega) h2, h.pul.out k (.inr (by omega))]

theorem Wp_all {fl c0 : List Int} {lo : Nat} {P : Unit → List Int → Nat → Prop} {C : List Int → Nat → Prop} : ∀ (k b i : Nat) (c : List Int), Full lo (3 * b) c0 c → lo ≤ 3 * b → 3 * (b + k) ≤ c0.length →
    (fl ≠ [] → ∀ c' j, Pul lo (3 * (b + k)) c0 c' → C c' j) → (∀ c', Full lo (3 * (b + k)) c0 c' → P () c' (i + 3 * k)) → Wp fl (allP 0 k b) P C c i
  | 0, b, i, c, hf, hlo, hl, hC, hP => Wp_ret (hP c hf)
  | k + 1, b, i, c, hf, hlo, hl, hC, hP => by
    simp only [allP]
    refine Wp_bind _ _ _ (Wp_pulse (fun hne c' j hp => hC hne c' j ?_) ?_)
    · exact (hf.pul.mono (Nat.le_refl _) (by omega)).trans (hp.mono (by omega) (by omega))
    · refine Wp_all k (b + 1) (i + 3) _ (by simpa [Nat.mul_add] using hf.snoc hlo (by omega)) (by omega) (by omega) (fun hne c' j hp => hC hne c' j (by rw [show b + (k + 1) = b + 1 + k by omega]; exact hp)) (fun c' hf' => ?_)
      rw [show i + 3 + 3 * k = i + 3 * (k + 1) by omega]
      exact hP c' (by rw [show b + (k + 1) = b + 1 + k by omega]; exact hf')

theorem Wp_level {fl c : List Int} {bits : Nat} {P : Nat → List Int → Nat → Prop} {C : List Int → Nat → Prop} {i : Nat} (hl : 3 * bits ≤ c.length)
    (hC : fl ≠ [] → ∀ n c' j, n ≤ bits → (∀ x, x < n → Rd fl c x true) → Pul 0 (3 * n) c c' → C c' j)
    (hP : ∀ n c', n ≤ bits → (∀ x, x < n → Rd fl c x true) → (n < bits → Rd fl c n false) → Full 0 (3 * n) c c' → P n c' (i + 6 * n + if n < bits then 3 else 0)) : Wp fl (levelP 0 bits) P C c i := by
  simp only [levelP]
  refine Wp_bind _ _ _ (Wp_up bits 0 i (fun hne j => hC hne 0 c j (by omega) (fun x hx => by omega) (.refl _ _ _)) fun n h1 h2 h3 h4 => ?_)
  refine Wp_bind _ _ _ (Wp_all (lo := 0) n 0 _ c (.none _ _) (by omega) (by omega) (fun hne c' j hp => hC hne n c' j (by omega) (fun x hx => h3 x (by omega) hx) (by simpa using hp)) fun c' hf => ?_)
  refine Wp_ret ?_
  have := hP n c' (by omega) (fun x hx => h3 x (by omega) hx) (fun h => h4 (by omega)) (by simpa using hf)
  rw [show i + 3 * (n - 0) + (if n < 0 + bits then 3 else 0) + 3 * n = i + 6 * n + if n < bits then 3 else 0 by simp only [Nat.zero_add, Nat.sub_zero]; omega]
  exact this

theorem Wp_raiseN {fl c0 : List Int} {lo : Nat} {P : Nat × Int → List Int → Nat → Prop} {C : List Int → Nat → Prop} : ∀ (k b i : Nat) (c : List Int), Full lo (3 * b) c0 c → lo ≤ 3 * b → 3 * (b + k) ≤ c0.length →
    (fl ≠ [] → ∀ c' j, Pul lo (3 * (b + k)) c0 c' → C c' j) → (∀ c', Full lo (3 * (b + k)) c0 c' → P (b + k, 0) c' (i + 6 * k)) →
    (∀ m c' j, b ≤ m → m < b + k → Full lo (3 * (m + 1)) c0 c' → Rd fl c' m false → P (m, 12) c' j) → Wp fl (raiseN 0 k b) P C c i
  | 0, b, i, c, hf, hlo, hl, hC, hP, hE => Wp_ret (hP c hf)
  | k + 1, b, i, c, hf, hlo, hl, hC, hP, hE => by
    simp only [raiseN]
    have hf1 : Full lo (3 * (b + 1)) c0 (pul3 c b) := by simpa [Nat.mul_add] using hf.snoc hlo (by omega)
    refine Wp_bind _ _ _ (Wp_pulse (fun hne c' j hp => hC hne c' j ?_) ?_)
    · exact (hf.pul.mono (Nat.le_refl _) (by omega)).trans (hp.mono (by omega) (by omega))
    · refine Wp_bind _ _ _ (Wp_read (fun hne j => hC hne _ j (hf1.pul.mono (Nat.le_refl _) (by omega))) fun v hv => ?_)
      cases v with
      | false => exact hE b _ _ (Nat.le_refl _) (by omega) hf1 hv
      | true =>
        refine Wp_raiseN k (b + 1) _ _ hf1 (by omega) (by omega) (fun hne c' j hp => hC hne c' j (by rw [show b + (k + 1) = b + 1 + k by omega]; exact hp)) (fun c' hf' => ?_) (fun m c' j h1 h2 h3 h4 => hE m c' j (by omega) (by omega) h3 h4)
        rw [show b + 1 + k = b + (k + 1) by omega] at hf' ⊢
        rw [show i + 3 + 3 + 6 * k = i + 6 * (k + 1) by omega]
        exact hP c' hf'

theorem Wp_raise {fl c : List Int} {bits t : Nat} {P : Nat × Int → List Int → Nat → Prop} {C : List Int → Nat → Prop} {i : Nat} (hl : 3 * bits ≤ c.length) (ht : t ≤ bits)
    (hC : fl ≠ [] → ∀ n c' j, n ≤ bits → (∀ x, x < n → Rd fl c x true) → Pul 0 (3 * max n t) c c' → C c' j)
    (hP : ∀ n c', n ≤ bits → (∀ x, x < n → Rd fl c x true) → (n < bits → Rd fl c n false) → Full 0 (3 * max n t) c c' → P (max n t, 0) c' (i + 6 * n + (if n < bits then 3 else 0) + 6 * (t - n)))
    (hE : ∀ n m c' j, n ≤ m → m < t → (∀ x, x < n → Rd fl c x true) → Full 0 (3 * (m + 1)) c c' → Rd fl c' m false → P (m, 12) c' j) : Wp fl (raiseP 0 bits t) P C c i := by
  simp only [raiseP]
  refine Wp_bind _ _ _ (Wp_level hl (fun hne n c' j h1 h2 h3 => hC hne n c' j h1 h2 (h3.mono (Nat.le_refl _) (by omega))) fun n c' h1 h2 h3 h4 => ?_)
  by_cases hnt : n ≤ t
  · have e : n + (t - n) = t := by omega
    have em : max n t = t := by omega
    refine Wp_raiseN (lo := 0) (c0 := c) (t - n) n _ c' h4 (by omega) (by omega) (fun hne c' j hp => hC hne n c' j h1 h2 (by rw [em]; rw [e] at hp; exact hp)) (fun c2 hf => ?_) (fun m c2 j k1 k2 k3 k4 => hE n m c2 j k1 (by omega) h2 k3 k4)
    have := hP n c2 h1 h2 h3 (by rw [em]; rw [e] at hf; exact hf)
    rw [em] at this
    rw [e]
    exact this
  · have em : max n t = n := by omega
    rw [show t - n = 0 by omega]
    refine Wp_ret ?_
    have := hP n c' h1 h2 h3 (by rw [em]; exact h4)
    rw [em, show t - n = 0 by omega] at this
    exact this

end Go.Proofs.Ytdnmnafadondkaa
