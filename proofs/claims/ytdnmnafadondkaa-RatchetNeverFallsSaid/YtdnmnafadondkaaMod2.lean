/- What the reference's step programs do, in plain Lean, and that it is what the step programs do. No condition. -/
import Derived.Test.YtdnmnafadondkaaMod
namespace Go.Proofs.Ytdnmnafadondkaa

/-- The state of a reference run: the place in the log, and the access at which it stopped. -/
abbrev CurSt := Nat × Option Ac

def zeroRs : Rs := ⟨0, ByteArray.empty⟩

def cdo (L : List Rs) (ac : Ac) (s : CurSt) : Rs × CurSt :=
  match s.2 with
  | some _ => (zeroRs, s)
  | none => match L[s.1]? with
    | some r => (r, (s.1 + 1, none))
    | none => (zeroRs, (s.1, some ac))

def cfuse (L : List Rs) (bank cell : Int) (s : CurSt) : Int × CurSt := ((cdo L (1, bank, cell) s).1.v, (cdo L (1, bank, cell) s).2)
def cpulse (L : List Rs) (bank cell : Int) (s : CurSt) : CurSt := (cdo L (2, bank, cell) s).2

def cbitGo (L : List Rs) (bank bit : Int) : Nat → Nat → Nat → CurSt → Nat × CurSt
  | 0, _, c, s => (c, s)
  | n + 1, i, c, s => cbitGo L bank bit n (i + 1) (c + if (cfuse L bank (3 * bit + i) s).1 ≠ 0 then 1 else 0) (cfuse L bank (3 * bit + i) s).2

def cbit (L : List Rs) (bank bit : Int) (s : CurSt) : Bool × CurSt := (decide (1 < (cbitGo L bank bit 3 0 0 s).1), (cbitGo L bank bit 3 0 0 s).2)

def cpulGo (L : List Rs) (bank bit : Int) : Nat → Nat → CurSt → CurSt
  | 0, _, s => s
  | n + 1, i, s => cpulGo L bank bit n (i + 1) (cpulse L bank (3 * bit + i) s)

def cpul3 (L : List Rs) (bank bit : Int) (s : CurSt) : CurSt := cpulGo L bank bit 3 0 s

def cup (L : List Rs) (bank : Int) : Nat → Nat → CurSt → Nat × CurSt
  | 0, n, s => (n, s)
  | k + 1, n, s => if s.2.isSome = true then (n, s) else if (cbit L bank n s).1 = true then cup L bank k (n + 1) (cbit L bank n s).2 else (n, (cbit L bank n s).2)

def cdown (L : List Rs) (bank : Int) : Nat → Nat → CurSt → CurSt
  | 0, _, s => s
  | k + 1, b, s => if s.2.isSome = true then s else cdown L bank k (b + 1) (cpul3 L bank b s)

def clevel (L : List Rs) (bank : Int) (bits : Nat) (s : CurSt) : Nat × CurSt := ((cup L bank bits 0 s).1, cdown L bank (cup L bank bits 0 s).1 0 (cup L bank bits 0 s).2)

def craise (L : List Rs) (bank : Int) : Nat → Nat → CurSt → (Nat × Int) × CurSt
  | 0, n, s => ((n, 0), s)
  | k + 1, n, s => if s.2.isSome = true then ((n, 0), s) else
      if (cbit L bank n (cpul3 L bank n s)).1 = true then craise L bank k (n + 1) (cbit L bank n (cpul3 L bank n s)).2 else ((n, 12), (cbit L bank n (cpul3 L bank n s)).2)

def craiseTo (L : List Rs) (bank : Int) (bits t : Nat) (s : CurSt) : (Nat × Int) × CurSt := craise L bank (t - (clevel L bank bits s).1) (clevel L bank bits s).1 (clevel L bank bits s).2

/-! ### A stopped run does nothing -/

theorem cdo_stop (L : List Rs) (ac : Ac) (j : Nat) (a : Ac) : cdo L ac (j, some a) = (zeroRs, (j, some a)) := rfl
theorem cbitGo_stop (L : List Rs) (bank bit : Int) (j : Nat) (a : Ac) : ∀ n i c, cbitGo L bank bit n i c (j, some a) = (c, (j, some a))
  | 0, _, _ => rfl
  | n + 1, i, c => by simp [cbitGo, cfuse, cdo_stop, zeroRs, cbitGo_stop L bank bit j a n]
theorem cpulGo_stop (L : List Rs) (bank bit : Int) (j : Nat) (a : Ac) : ∀ n i, cpulGo L bank bit n i (j, some a) = (j, some a)
  | 0, _ => rfl
  | n + 1, i => by simp [cpulGo, cpulse, cdo_stop, cpulGo_stop L bank bit j a n]
theorem cbit_stop (L : List Rs) (bank bit : Int) (j : Nat) (a : Ac) : (cbit L bank bit (j, some a)).2 = (j, some a) := by simp [cbit, cbitGo_stop]
theorem cup_stop (L : List Rs) (bank : Int) (j : Nat) (a : Ac) (k n : Nat) : cup L bank k n (j, some a) = (n, (j, some a)) := by cases k <;> simp [cup]
theorem cdown_stop (L : List Rs) (bank : Int) (j : Nat) (a : Ac) (k n : Nat) : cdown L bank k n (j, some a) = (j, some a) := by cases k <;> simp [cdown]
theorem craise_stop (L : List Rs) (bank : Int) (j : Nat) (a : Ac) (k n : Nat) : (craise L bank k n (j, some a)).2 = (j, some a) := by cases k <;> simp [craise]

/-- A reference function f from place j does what the step program p does. -/
def Does {α : Type} (L : List Rs) (p : Pg α) (j : Nat) (f : α × CurSt) : Prop :=
  match p.runAt L j with
  | .inl (x, j') => f = (x, (j', none))
  | .inr a => ∃ j', f.2 = (j', some a)

theorem does_fuse (L : List Rs) (bank cell : Int) (j : Nat) : Does L (fuseP bank cell) j (cfuse L bank cell (j, none)) := by
  simp only [Does, fuseP, Pg.runAt, cfuse, cdo]
  cases L[j]? with
  | none => exact ⟨j, rfl⟩
  | some r => rfl

theorem does_pulse (L : List Rs) (bank cell : Int) (j : Nat) : Does L (pulseP bank cell) j ((), cpulse L bank cell (j, none)) := by
  simp only [Does, pulseP, Pg.runAt, cpulse, cdo]
  cases L[j]? with
  | none => exact ⟨j, rfl⟩
  | some r => rfl

theorem cntN_snoc (xs : List Int) (v : Int) : cntN (xs ++ [v]) = cntN xs + if v ≠ 0 then 1 else 0 := by
  unfold cntN
  rw [List.filter_append, List.length_append]
  by_cases h : v = 0 <;> simp [h]

theorem does_bitGo (L : List Rs) (bank bit : Int) : ∀ (n i : Nat) (xs : List Int) (j : Nat), Does L ((readsP bank bit n i xs).bind fun xs => .ret (cntN xs)) j (cbitGo L bank bit n i (cntN xs) (j, none))
  | 0, i, xs, j => rfl
  | n + 1, i, xs, j => by
    have h := does_fuse L bank (3 * bit + i) j
    simp only [Does, readsP, Pg.runAt_bind] at h ⊢
    cases hr : (fuseP bank (3 * bit + i)).runAt L j with
    | inr a =>
      rw [hr] at h
      obtain ⟨j', h⟩ := h
      refine ⟨j', ?_⟩
      rw [cbitGo, h, cbitGo_stop]
    | inl q =>
      obtain ⟨v, j'⟩ := q
      rw [hr] at h
      try simp only at h
      have ih := does_bitGo L bank bit n (i + 1) (xs ++ [v]) j'
      simp only [Does, Pg.runAt_bind, cntN_snoc] at ih
      simp only [cbitGo, h]
      exact ih

theorem does_bit (L : List Rs) (bank bit : Int) (j : Nat) : Does L (readP bank bit) j (cbit L bank bit (j, none)) := by
  have h := does_bitGo L bank bit 3 0 [] j
  simp only [Does, readP, Pg.runAt_bind, cbit] at h ⊢
  have e : cntN [] = 0 := rfl
  rw [e] at h
  cases hr : (readsP bank bit 3 0 []).runAt L j with
  | inr a =>
    rw [hr] at h
    obtain ⟨j', h⟩ := h
    exact ⟨j', h⟩
  | inl q =>
    obtain ⟨xs, j'⟩ := q
    rw [hr] at h
    simp only [Pg.runAt] at h ⊢
    rw [h]
    simp only [Prod.mk.injEq, and_true, decide_eq_decide]
    omega

theorem does_pul (L : List Rs) (bank bit : Int) : ∀ (n i : Nat) (j : Nat), Does L (pulsesP bank bit n i) j ((), cpulGo L bank bit n i (j, none))
  | 0, i, j => rfl
  | n + 1, i, j => by
    have h := does_pulse L bank (3 * bit + i) j
    simp only [Does, pulsesP, Pg.runAt_bind] at h ⊢
    cases hr : (pulseP bank (3 * bit + i)).runAt L j with
    | inr a =>
      rw [hr] at h
      obtain ⟨j', h⟩ := h
      refine ⟨j', ?_⟩
      try simp only at h
      simp only [cpulGo, h, cpulGo_stop]
    | inl q =>
      obtain ⟨v, j'⟩ := q
      rw [hr] at h
      simp only [Prod.mk.injEq, true_and] at h
      have ih := does_pul L bank bit n (i + 1) j'
      simp only [Does] at ih
      simp only [cpulGo, h]
      exact ih

theorem does_pul3 (L : List Rs) (bank bit : Int) (j : Nat) : Does L (pulse3P bank bit) j ((), cpul3 L bank bit (j, none)) := does_pul L bank bit 3 0 j

theorem does_up (L : List Rs) (bank : Int) : ∀ (k n : Nat) (j : Nat), Does L (upP bank k n) j (cup L bank k n (j, none))
  | 0, n, j => rfl
  | k + 1, n, j => by
    have h := does_bit L bank n j
    simp only [Does, upP, Pg.runAt_bind] at h ⊢
    cases hr : (readP bank n).runAt L j with
    | inr a =>
      rw [hr] at h
      obtain ⟨j', h⟩ := h
      refine ⟨j', ?_⟩
      simp only [cup, h]
      split
      · rename_i h2; simp at h2
      · split
        · rw [cup_stop]
        · rfl
    | inl q =>
      obtain ⟨v, j'⟩ := q
      rw [hr] at h
      try simp only at h
      have ih := does_up L bank k (n + 1) j'
      simp only [Does] at ih
      simp only [cup, h, Option.isSome_none, Bool.false_eq_true, if_false]
      cases v with
      | true => simpa using ih
      | false => simp [Pg.runAt]

theorem does_down (L : List Rs) (bank : Int) : ∀ (k n : Nat) (j : Nat), Does L (allP bank k n) j ((), cdown L bank k n (j, none))
  | 0, n, j => rfl
  | k + 1, n, j => by
    have h := does_pul3 L bank n j
    simp only [Does, allP, Pg.runAt_bind] at h ⊢
    cases hr : (pulse3P bank n).runAt L j with
    | inr a =>
      rw [hr] at h
      obtain ⟨j', h⟩ := h
      try simp only at h
      exact ⟨j', by simp [cdown, h, cdown_stop]⟩
    | inl q =>
      obtain ⟨v, j'⟩ := q
      rw [hr] at h
      simp only [Prod.mk.injEq, true_and] at h
      have ih := does_down L bank k (n + 1) j'
      simp only [Does] at ih
      simp only [cdown, h, Option.isSome_none, Bool.false_eq_true, if_false]
      exact ih

theorem does_level (L : List Rs) (bank : Int) (bits j : Nat) : Does L (levelP bank bits) j (clevel L bank bits (j, none)) := by
  have h := does_up L bank bits 0 j
  simp only [Does, levelP, Pg.runAt_bind, clevel] at h ⊢
  cases hr : (upP bank bits 0).runAt L j with
  | inr a =>
    rw [hr] at h
    obtain ⟨j', h⟩ := h
    exact ⟨j', by simp only [h, cdown_stop]⟩
  | inl q =>
    obtain ⟨n, j'⟩ := q
    rw [hr] at h
    try simp only at h
    simp only [h]
    have h2 := does_down L bank n 0 j'
    simp only [Does] at h2
    cases hr2 : (allP bank n 0).runAt L j' with
    | inr a =>
      rw [hr2] at h2
      obtain ⟨j2, h2⟩ := h2
      exact ⟨j2, h2⟩
    | inl q2 =>
      obtain ⟨_, j2⟩ := q2
      rw [hr2] at h2
      simp only [Prod.mk.injEq, true_and] at h2
      simp only [Pg.runAt, h2]

theorem does_raiseN (L : List Rs) (bank : Int) : ∀ (k n : Nat) (j : Nat), Does L (raiseN bank k n) j (craise L bank k n (j, none))
  | 0, n, j => rfl
  | k + 1, n, j => by
    have h := does_pul3 L bank n j
    simp only [Does, raiseN, Pg.runAt_bind] at h ⊢
    cases hr : (pulse3P bank n).runAt L j with
    | inr a =>
      rw [hr] at h
      obtain ⟨j', h⟩ := h
      try simp only at h
      refine ⟨j', ?_⟩
      simp only [craise, h, Option.isSome_none, Bool.false_eq_true, if_false, cbit_stop]
      split
      · rw [craise_stop]
      · rfl
    | inl q =>
      obtain ⟨v, j'⟩ := q
      rw [hr] at h
      simp only [Prod.mk.injEq, true_and] at h
      have h2 := does_bit L bank n j'
      simp only [Does] at h2
      simp only [craise, h, Option.isSome_none, Bool.false_eq_true, if_false]
      cases hr2 : (readP bank n).runAt L j' with
      | inr a =>
        rw [hr2] at h2
        obtain ⟨j2, h2⟩ := h2
        refine ⟨j2, ?_⟩
        rw [h2]
        split
        · rw [craise_stop]
        · rfl
      | inl q2 =>
        obtain ⟨b, j2⟩ := q2
        rw [hr2] at h2
        try simp only at h2
        have ih := does_raiseN L bank k (n + 1) j2
        simp only [Does] at ih
        simp only [h2]
        cases b with
        | true => simpa using ih
        | false => simp [Pg.runAt]

theorem does_raise (L : List Rs) (bank : Int) (bits t j : Nat) : Does L (raiseP bank bits t) j (craiseTo L bank bits t (j, none)) := by
  have h := does_level L bank bits j
  simp only [Does, raiseP, Pg.runAt_bind, craiseTo] at h ⊢
  cases hr : (levelP bank bits).runAt L j with
  | inr a =>
    rw [hr] at h
    obtain ⟨j', h⟩ := h
    exact ⟨j', by rw [h, craise_stop]⟩
  | inl q =>
    obtain ⟨n, j'⟩ := q
    rw [hr] at h
    try simp only at h
    simp only [h]
    exact does_raiseN L bank (t - n) n j'

end Go.Proofs.Ytdnmnafadondkaa
