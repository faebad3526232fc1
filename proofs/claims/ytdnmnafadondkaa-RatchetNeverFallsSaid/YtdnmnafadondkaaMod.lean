/- What the step programs of layer 11 do, in plain Lean. No condition. -/
namespace Go.Proofs.Ytdnmnafadondkaa

/-- A result of an access, and an access: its kind, bank and cell. -/
structure Rs where
  v : Int
  b : ByteArray

abbrev Ac := Int × Int × Int

/-- A step program. -/
inductive Pg (α : Type) where
  | ret (x : α)
  | ask (a : Ac) (k : Rs → Pg α)

def Pg.bind {α β : Type} : Pg α → (α → Pg β) → Pg β
  | .ret x, f => f x
  | .ask a k, f => .ask a fun r => (k r).bind f

/-- The replay of a log from a place on: the outcome and the place behind it, or the first access without a result. -/
def Pg.runAt {α : Type} (L : List Rs) : Pg α → Nat → (α × Nat) ⊕ Ac
  | .ret x, i => .inl (x, i)
  | .ask a k, i => match L[i]? with
    | some r => (k r).runAt L (i + 1)
    | none => .inr a

theorem Pg.runAt_bind {α β : Type} (L : List Rs) (f : α → Pg β) : ∀ (p : Pg α) (i : Nat), (p.bind f).runAt L i = match p.runAt L i with | .inl (x, j) => (f x).runAt L j | .inr a => .inr a
  | .ret x, i => rfl
  | .ask a k, i => by
    simp only [Pg.bind, Pg.runAt]
    cases L[i]? with
    | none => rfl
    | some r => exact Pg.runAt_bind L f (k r) (i + 1)

theorem Pg.runAt_le {α : Type} (L : List Rs) : ∀ (p : Pg α) (i : Nat) {x : α} {j : Nat}, p.runAt L i = .inl (x, j) → i ≤ L.length → i ≤ j ∧ j ≤ L.length
  | .ret x, i, y, j, h, hi => by simp [Pg.runAt] at h; omega
  | .ask a k, i, y, j, h, hi => by
    simp only [Pg.runAt] at h
    cases hr : L[i]? with
    | none => rw [hr] at h; simp at h
    | some r =>
      rw [hr] at h
      have hl : i < L.length := by
        rcases Nat.lt_or_ge i L.length with h1 | h1
        · exact h1
        · rw [List.getElem?_eq_none h1] at hr; simp at hr
      have := Pg.runAt_le L (k r) (i + 1) h (by omega)
      omega

def cntN (xs : List Int) : Nat := (xs.filter (fun x => decide (x ≠ 0))).length

def fuseP (bank cell : Int) : Pg Int := .ask (1, bank, cell) fun r => .ret r.v
def pulseP (bank cell : Int) : Pg Unit := .ask (2, bank, cell) fun _ => .ret ()

/-- So many of the three readings from cell number i of a bit on, behind those read. -/
def readsP (bank bit : Int) : Nat → Nat → List Int → Pg (List Int)
  | 0, _, xs => .ret xs
  | n + 1, i, xs => (fuseP bank (3 * bit + i)).bind fun v => readsP bank bit n (i + 1) (xs ++ [v])

def readP (bank bit : Int) : Pg Bool := (readsP bank bit 3 0 []).bind fun xs => .ret (decide ((3 : Int) < 2 * cntN xs))

def pulsesP (bank bit : Int) : Nat → Nat → Pg Unit
  | 0, _ => .ret ()
  | n + 1, i => (pulseP bank (3 * bit + i)).bind fun _ => pulsesP bank bit n (i + 1)

def pulse3P (bank bit : Int) : Pg Unit := pulsesP bank bit 3 0

def upP (bank : Int) : Nat → Nat → Pg Nat
  | 0, n => .ret n
  | k + 1, n => (readP bank n).bind fun b => if b then upP bank k (n + 1) else .ret n

def allP (bank : Int) : Nat → Nat → Pg Unit
  | 0, _ => .ret ()
  | k + 1, b => (pulse3P bank b).bind fun _ => allP bank k (b + 1)

def levelP (bank : Int) (bits : Nat) : Pg Nat := (upP bank bits 0).bind fun n => (allP bank n 0).bind fun _ => .ret n

def raiseN (bank : Int) : Nat → Nat → Pg (Nat × Int)
  | 0, n => .ret (n, 0)
  | k + 1, n => (pulse3P bank n).bind fun _ => (readP bank n).bind fun b => if b then raiseN bank k (n + 1) else .ret (n, 12)

def raiseP (bank : Int) (bits target : Nat) : Pg (Nat × Int) := (levelP bank bits).bind fun n => raiseN bank (target - n) n

def validB (bank bits : Int) : Bool := decide (bank ≥ 0) && decide (bank < 4) && decide (bits ≥ 0) && decide (bits ≤ 16)

/-- Level and Raise as step programs with the outcome (level, error). -/
def LevelP (bank bits : Int) : Pg (Int × Int) := if validB bank bits then (levelP bank bits.toNat).bind fun n => .ret ((n : Int), 0) else .ret (0, 1)
def RaiseP (bank bits target : Int) : Pg (Int × Int) :=
  if validB bank bits && decide (0 ≤ target) && decide (target ≤ bits) then (raiseP bank bits.toNat target.toNat).bind fun (n, e) => .ret ((n : Int), e) else .ret (0, 1)

theorem upP_le (bank : Int) (L : List Rs) : ∀ (k n i m j : Nat), (upP bank k n).runAt L i = .inl (m, j) → n ≤ m ∧ m ≤ n + k
  | 0, n, i, m, j, h => by simp [upP, Pg.runAt] at h; omega
  | k + 1, n, i, m, j, h => by
    rw [upP, Pg.runAt_bind] at h
    cases hr : (readP bank n).runAt L i with
    | inr a => rw [hr] at h; simp at h
    | inl q =>
      obtain ⟨b, i'⟩ := q
      rw [hr] at h
      cases b with
      | true => have := upP_le bank L k (n + 1) i' m j (by simpa using h); omega
      | false => simp [Pg.runAt] at h; omega

theorem levelP_le (bank : Int) (L : List Rs) {bits i m j : Nat} (h : (levelP bank bits).runAt L i = .inl (m, j)) : m ≤ bits := by
  rw [levelP, Pg.runAt_bind] at h
  cases hr : (upP bank bits 0).runAt L i with
  | inr a => rw [hr] at h; simp at h
  | inl q =>
    obtain ⟨n, i'⟩ := q
    rw [hr] at h
    simp only [Pg.runAt_bind] at h
    cases h2 : (allP bank n 0).runAt L i' with
    | inr a => rw [h2] at h; simp at h
    | inl q2 =>
      rw [h2] at h
      simp [Pg.runAt] at h
      have := upP_le bank L _ _ _ _ _ hr
      omega

end Go.Proofs.Ytdnmnafadondkaa
