/- The ratchet's laws over sessions on cells, in plain Lean. No condition. -/
import Derived.Test.YtdnmnafadondkaaMod3
set_option linter.unusedVariables false
set_option linter.unusedSimpArgs false
namespace Go.Proofs.Ytdnmnafadondkaa

def Ses.run (s : Ses) (bits : Nat) (c : List Int) : RunR := exL (s.pg bits) s.fl 400 c []

def Ses.tn (s : Ses) (bits : Nat) : Nat := (s.t % ((bits : Int) + 1)).toNat

theorem Ses.tn_eq (s : Ses) (bits : Nat) : ((s.tn bits : Nat) : Int) = s.t % ((bits : Int) + 1) := by
  have := Int.emod_nonneg s.t (show (bits : Int) + 1 ≠ 0 by omega)
  unfold Ses.tn; omega
theorem Ses.tn_le (s : Ses) (bits : Nat) : s.tn bits ≤ bits := by
  have := Int.emod_lt_of_pos s.t (show 0 < (bits : Int) + 1 by omega)
  have := s.tn_eq bits
  omega

theorem pg_level {s : Ses} {bits : Nat} (hr : s.ra = false) (hb : bits ≤ 16) : s.pg bits = (levelP 0 bits).bind fun n => .ret ((n : Int), 0) := by
  unfold Ses.pg LevelP
  rw [hr, if_neg (by simp), if_pos (by simp [validB]; omega)]
  rfl
theorem pg_raise {s : Ses} {bits : Nat} (hr : s.ra = true) (hb : bits ≤ 16) : s.pg bits = (raiseP 0 bits (s.tn bits)).bind fun q => .ret ((q.1 : Int), q.2) := by
  have h1 := s.tn_eq bits
  have h2 := s.tn_le bits
  unfold Ses.pg RaiseP
  rw [if_pos hr, ← h1, if_pos (by simp [validB]; omega)]
  rfl

theorem pg_fine (s : Ses) {bits n : Nat} (hb : bits ≤ 16) (hn : 3 * bits ≤ n) : (s.pg bits).fine n (fun _ => True) 192 := by
  cases hr : s.ra with
  | false =>
    rw [pg_level hr hb]
    refine fine_mono (P := fun _ => True) (fun _ _ => trivial) _ (show 6 * bits + 0 ≤ 192 by omega) (fine_bind (fun _ _ => ?_) _ (fine_level hn))
    exact trivial
  | true =>
    rw [pg_raise hr hb]
    refine fine_mono (P := fun _ => True) (fun _ _ => trivial) _ (show 12 * bits + 0 ≤ 192 by omega) (fine_bind (fun _ _ => ?_) _ (fine_raise hn (s.tn_le bits)))
    exact trivial

theorem pg_okA (s : Ses) {bits n : Nat} (hb : bits ≤ 16) (hn : 3 * bits ≤ n) : (s.pg bits).okA n := fine_okA _ (pg_fine s hb hn)

theorem run_live (s : Ses) {bits : Nat} {c : List Int} (hb : bits ≤ 16) (hn : 3 * bits ≤ c.length) : s.run bits c = ((s.pg bits).live s.fl c 0).run :=
  ex_live (s.pg bits) s.fl c.length (fun _ => True) 400 192 c [] (s.pg bits) (by omega) (by simp [Pg.after]) (pg_fine s hb hn)

theorem run_of_Wp {s : Ses} {bits : Nat} {c : List Int} (hb : bits ≤ 16) (hn : 3 * bits ≤ c.length) {R : RunR → Prop} (h : Wp s.fl (s.pg bits) (fun x c j => R ⟨c, x, true, j, false⟩) (fun c j => R ⟨c, (0, 0), false, j, false⟩) c 0) : R (s.run bits c) := by
  rw [run_live s hb hn]
  simp only [Wp] at h
  revert h
  cases (s.pg bits).live s.fl c 0 with
  | done x c j => exact fun h => h
  | cut c j => exact fun h => h

/-- What a session that reads the level comes to. -/
def LevelR (fl c : List Int) (bits : Nat) (r : RunR) : Prop :=
  (∃ (n : Nat) (c' : List Int), r = ⟨c', ((n : Int), 0), true, 6 * n + (if n < bits then 3 else 0), false⟩ ∧ n ≤ bits ∧ (∀ x, x < n → Rd fl c x true) ∧ (n < bits → Rd fl c n false) ∧ Full 0 (3 * n) c c') ∨
  (fl ≠ [] ∧ ∃ (n : Nat) (c' : List Int) (j : Nat), r = ⟨c', (0, 0), false, j, false⟩ ∧ n ≤ bits ∧ (∀ x, x < n → Rd fl c x true) ∧ Pul 0 (3 * n) c c')

def RaiseR (fl c : List Int) (bits t : Nat) (r : RunR) : Prop :=
  (∃ (n : Nat) (c' : List Int), r = ⟨c', (((max n t : Nat) : Int), 0), true, 6 * n + (if n < bits then 3 else 0) + 6 * (t - n), false⟩ ∧ n ≤ bits ∧ (∀ x, x < n → Rd fl c x true) ∧ (n < bits → Rd fl c n false) ∧ Full 0 (3 * max n t) c c') ∨
  (∃ (n m : Nat) (c' : List Int) (j : Nat), r = ⟨c', ((m : Int), 12), true, j, false⟩ ∧ n ≤ m ∧ m < t ∧ (∀ x, x < n → Rd fl c x true) ∧ Full 0 (3 * (m + 1)) c c' ∧ Rd fl c' m false) ∨
  (fl ≠ [] ∧ ∃ (n : Nat) (c' : List Int) (j : Nat), r = ⟨c', (0, 0), false, j, false⟩ ∧ n ≤ bits ∧ (∀ x, x < n → Rd fl c x true) ∧ Pul 0 (3 * max n t) c c')

theorem run_level {s : Ses} {bits : Nat} {c : List Int} (hr : s.ra = false) (hb : bits ≤ 16) (hn : 3 * bits ≤ c.length) : LevelR s.fl c bits (s.run bits c) := by
  refine run_of_Wp hb hn ?_
  rw [pg_level hr hb]
  refine Wp_bind _ _ _ (Wp_level hn (fun hne n c' j h1 h2 h3 => .inr ⟨hne, n, c', j, rfl, h1, h2, h3⟩) (fun n c' h1 h2 h3 h4 => Wp_ret (.inl ⟨n, c', ?_, h1, h2, h3, h4⟩)))
  simp

theorem run_raise {s : Ses} {bits : Nat} {c : List Int} (hr : s.ra = true) (hb : bits ≤ 16) (hn : 3 * bits ≤ c.length) : RaiseR s.fl c bits (s.tn bits) (s.run bits c) := by
  refine run_of_Wp hb hn ?_
  rw [pg_raise hr hb]
  refine Wp_bind _ _ _ (Wp_raise hn (s.tn_le bits) (fun hne n c' j h1 h2 h3 => .inr (.inr ⟨hne, n, c', j, rfl, h1, h2, h3⟩)) (fun n c' h1 h2 h3 h4 => Wp_ret (.inl ⟨n, c', ?_, h1, h2, h3, h4⟩)) (fun n m c' j h1 h2 h3 h4 h5 => Wp_ret (.inr (.inl ⟨n, m, c', j, rfl, h1, h2, h3, h4, h5⟩))))
  simp

/-! ### Levels -/

theorem rdV_mono (v : Int) (n : Bool) : rdV v false ≤ rdV v n ∧ rdV v n ≤ rdV v true := by
  unfold rdV rdB
  by_cases h1 : v = 2 <;> by_cases h2 : v = 1 <;> cases n <;> simp [h1, h2]
  all_goals omega
theorem rdV_pul {v v' : Int} (h : PulR v v') : rdV v false ≤ rdV v' false := by
  unfold rdV rdB
  unfold PulR at h
  by_cases h1 : v = 2
  · have : v' = 2 := by omega
    simp [h1, this]
  · by_cases h2 : v' = 2 <;> simp [h1, h2]
theorem sum_pul {lo hi : Nat} {c c' : List Int} (h : Pul lo hi c c') (b : Nat) : sum7 c false b ≤ sum7 c' false b := by
  have := rdV_pul (h.rel (3 * b)); have := rdV_pul (h.rel (3 * b + 1)); have := rdV_pul (h.rel (3 * b + 2))
  unfold sum7; omega
theorem Rd_true {fl c : List Int} {b : Nat} (h : Rd fl c b true) : 2 ≤ sum7 c true b := by
  obtain ⟨n0, n1, n2, _, h⟩ := h
  have := of_decide_eq_true h.symm
  have := (rdV_mono (c.getD (3 * b) 0) n0).2; have := (rdV_mono (c.getD (3 * b + 1) 0) n1).2; have := (rdV_mono (c.getD (3 * b + 2) 0) n2).2
  unfold sum7; omega
theorem Rd_false {fl c : List Int} {b : Nat} (h : Rd fl c b false) : sum7 c false b < 2 := by
  obtain ⟨n0, n1, n2, _, h⟩ := h
  have := of_decide_eq_false h.symm
  have := (rdV_mono (c.getD (3 * b) 0) n0).1; have := (rdV_mono (c.getD (3 * b + 1) 0) n1).1; have := (rdV_mono (c.getD (3 * b + 2) 0) n2).1
  unfold sum7; omega
theorem Rd_nil {c : List Int} {b : Nat} {v : Bool} (h : Rd [] c b v) : v = decide (2 ≤ sum7 c false b) := by
  obtain ⟨n0, n1, n2, h0, h⟩ := h
  obtain ⟨rfl, rfl, rfl⟩ := h0 rfl
  exact h

theorem lv7Go_spec (c : List Int) (noise : Bool) : ∀ k i, i ≤ lv7Go c noise k i ∧ lv7Go c noise k i ≤ i + k ∧ (∀ x, i ≤ x → x < lv7Go c noise k i → 2 ≤ sum7 c noise x) ∧ (lv7Go c noise k i < i + k → sum7 c noise (lv7Go c noise k i) < 2)
  | 0, i => ⟨Nat.le_refl _, Nat.le_refl _, fun x h1 h2 => by simp [lv7Go] at h2; omega, fun h => by simp [lv7Go] at h⟩
  | k + 1, i => by
    simp only [lv7Go]
    split
    · rename_i h
      exact ⟨Nat.le_refl _, by omega, fun x h1 h2 => by omega, fun _ => h⟩
    · rename_i h
      obtain ⟨h1, h2, h3, h4⟩ := lv7Go_spec c noise k (i + 1)
      refine ⟨by omega, by omega, fun x hx hl => ?_, fun hl => h4 (by omega)⟩
      by_cases hxi : x = i
      · subst hxi; omega
      · exact h3 x (by omega) hl

theorem lv7_le_len (c : List Int) (noise : Bool) : lv7 c noise ≤ c.length / 3 := by
  have := (lv7Go_spec c noise (c.length / 3) 0).2.1
  unfold lv7; omega
theorem lv7_at {c : List Int} {noise : Bool} {x : Nat} (h : x < lv7 c noise) : 2 ≤ sum7 c noise x := (lv7Go_spec c noise (c.length / 3) 0).2.2.1 x (Nat.zero_le _) h
theorem lv7_ge {c : List Int} {noise : Bool} {n : Nat} (hn : n ≤ c.length / 3) (h : ∀ x, x < n → 2 ≤ sum7 c noise x) : n ≤ lv7 c noise := by
  obtain ⟨h1, h2, h3, h4⟩ := lv7Go_spec c noise (c.length / 3) 0
  rcases Nat.lt_or_ge (lv7 c noise) n with hl | hl
  · have := h4 (by unfold lv7 at hl; omega)
    have := h (lv7 c noise) hl
    unfold lv7 at this
    omega
  · exact hl
theorem lv7_le {c : List Int} {noise : Bool} {n : Nat} (h : sum7 c noise n < 2) : lv7 c noise ≤ n := by
  rcases Nat.lt_or_ge n (lv7 c noise) with hl | hl
  · have := lv7_at hl; omega
  · exact hl
theorem lv7_mono {lo hi : Nat} {c c' : List Int} (h : Pul lo hi c c') : lv7 c false ≤ lv7 c' false :=
  lv7_ge (by rw [h.len]; exact lv7_le_len _ _) fun x hx => by have := lv7_at hx; have := sum_pul h x; omega

/-! ### Sound cells -/

def Rng (c : List Int) : Prop := ∀ k, 0 ≤ c.getD k 0 ∧ c.getD k 0 ≤ 3
/-- No two of a bit's cells are stuck. -/
def Snd (c : List Int) : Prop := ∀ b i j, i < 3 → j < 3 → i ≠ j → c.getD (3 * b + i) 0 = 3 → c.getD (3 * b + j) 0 ≠ 3

theorem Rng.pul {lo hi : Nat} {c c' : List Int} (h : Pul lo hi c c') (hr : Rng c) : Rng c' := fun k => by
  have h1 := h.rel k; have h2 := hr k
  unfold PulR at h1; omega
theorem Snd.pul {lo hi : Nat} {c c' : List Int} (h : Pul lo hi c c') (hs : Snd c) : Snd c' := fun b i j hi hj hij h3 hj3 => by
  have h1 := h.rel (3 * b + i); have h2 := h.rel (3 * b + j)
  unfold PulR at h1 h2
  exact hs b i j hi hj hij (by omega) (by omega)

theorem rd_full {v : Int} (h1 : 0 ≤ v) (h2 : v ≤ 3) : rdV (pulV v false) false = if v = 3 then 0 else 1 := by
  have : v = 0 ∨ v = 1 ∨ v = 2 ∨ v = 3 := by omega
  rcases this with rfl | rfl | rfl | rfl <;> decide

theorem full_sum {lo hi : Nat} {c c' : List Int} (h : Full lo hi c c') (hr : Rng c) {b : Nat} (h1 : lo ≤ 3 * b) (h2 : 3 * b + 3 ≤ hi) :
    sum7 c' false b = (if c.getD (3 * b) 0 = 3 then 0 else 1) + (if c.getD (3 * b + 1) 0 = 3 then 0 else 1) + (if c.getD (3 * b + 2) 0 = 3 then 0 else 1) := by
  unfold sum7
  rw [h.full (3 * b) h1 (by omega), h.full (3 * b + 1) (by omega) (by omega), h.full (3 * b + 2) (by omega) (by omega), rd_full (hr _).1 (hr _).2, rd_full (hr _).1 (hr _).2, rd_full (hr _).1 (hr _).2]

theorem full_sound {lo hi : Nat} {c c' : List Int} (h : Full lo hi c c') (hr : Rng c) (hs : Snd c) {b : Nat} (h1 : lo ≤ 3 * b) (h2 : 3 * b + 3 ≤ hi) : 2 ≤ sum7 c' false b := by
  rw [full_sum h hr h1 h2]
  have s01 := hs b 0 1 (by omega) (by omega) (by omega)
  have s02 := hs b 0 2 (by omega) (by omega) (by omega)
  have s12 := hs b 1 2 (by omega) (by omega) (by omega)
  simp only [Nat.add_zero] at s01 s02
  split <;> split <;> split <;> first | omega | (exfalso; simp_all)

theorem full_lv {n : Nat} {c c' : List Int} (h : Full 0 (3 * n) c c') (hr : Rng c) (hs : Snd c) (hn : n ≤ c.length / 3) : n ≤ lv7 c' false :=
  lv7_ge (by rw [h.pul.len]; exact hn) fun x hx => full_sound h hr hs (Nat.zero_le _) (by omega)

theorem no_worn {fl c c' : List Int} {m : Nat} (h : Full 0 (3 * (m + 1)) c c') (hr : Rng c) (hs : Snd c) (hf : Rd fl c' m false) : False := by
  have := Rd_false hf
  have := full_sound h hr hs (b := m) (Nat.zero_le _) (by omega)
  omega

/-! ### The laws -/

theorem never_falls {s : Ses} {bits best : Nat} {c : List Int} (hb : bits ≤ 16) (hn : c.length = 3 * bits) (hr : Rng c) (hs : Snd c) (hbest : best ≤ lv7 c false) :
    (s.run bits c).bad = false ∧ (s.run bits c).c.length = 3 * bits ∧ Rng (s.run bits c).c ∧ Snd (s.run bits c).c ∧
    ((s.run bits c).done = false → best ≤ lv7 (s.run bits c).c false) ∧
    ((s.run bits c).done = true → (s.run bits c).out.2 = 0 ∧ ∃ m : Nat, (s.run bits c).out.1 = m ∧ best ≤ m ∧ (s.ra = true → s.tn bits ≤ m) ∧ m ≤ lv7 (s.run bits c).c false) := by
  have up : ∀ n : Nat, n ≤ bits → (n < bits → Rd s.fl c n false) → best ≤ n := fun n h1 h2 => by
    rcases Nat.lt_or_ge n bits with h | h
    · have := lv7_le (Rd_false (h2 h)); omega
    · have := lv7_le_len c false; omega
  cases hra : s.ra with
  | false =>
    rcases run_level hra hb (by omega : 3 * bits ≤ c.length) with ⟨n, c', e, h1, h2, h3, h4⟩ | ⟨_, n, c', j, e, h1, h2, h3⟩
    · rw [e]
      refine ⟨rfl, h4.pul.len.trans hn, hr.pul h4.pul, hs.pul h4.pul, fun h => by simp at h, fun _ => ⟨rfl, n, rfl, up n h1 h3, fun h => by simp at h, full_lv h4 hr hs (by omega)⟩⟩
    · rw [e]
      exact ⟨rfl, h3.len.trans hn, hr.pul h3, hs.pul h3, fun _ => Nat.le_trans hbest (lv7_mono h3), fun h => by simp at h⟩
  | true =>
    have ht := s.tn_le bits
    rcases run_raise hra hb (by omega : 3 * bits ≤ c.length) with ⟨n, c', e, h1, h2, h3, h4⟩ | ⟨n, m, c', j, e, h1, h2, h3, h4, h5⟩ | ⟨_, n, c', j, e, h1, h2, h3⟩
    · rw [e]
      have := up n h1 h3
      refine ⟨rfl, h4.pul.len.trans hn, hr.pul h4.pul, hs.pul h4.pul, fun h => by simp at h, fun _ => ⟨rfl, max n (s.tn bits), rfl, by omega, fun _ => by omega, full_lv h4 hr hs (by omega)⟩⟩
    · exact (no_worn h4 hr hs h5).elim
    · rw [e]
      exact ⟨rfl, h3.len.trans hn, hr.pul h3, hs.pul h3, fun _ => Nat.le_trans hbest (lv7_mono h3), fun h => by simp at h⟩

theorem level_nf {t : Int} {bits : Nat} {c : List Int} (hb : bits ≤ 16) (hn : c.length = 3 * bits) : ∃ c', (Ses.mk false t []).run bits c = ⟨c', ((lv7 c false : Nat), 0), true, 6 * lv7 c false + (if lv7 c false < bits then 3 else 0), false⟩ ∧ Full 0 (3 * lv7 c false) c c' := by
  rcases run_level (s := ⟨false, t, []⟩) rfl hb (by omega : 3 * bits ≤ c.length) with ⟨n, c', e, h1, h2, h3, h4⟩ | ⟨h, _⟩
  · have : n = lv7 c false := by
      have g1 : n ≤ lv7 c false := lv7_ge (by omega) fun x hx => by simpa using (Rd_nil (h2 x hx))
      have g2 : lv7 c false ≤ n := by
        rcases Nat.lt_or_ge n bits with h | h
        · exact lv7_le (Rd_false (h3 h))
        · have := lv7_le_len c false; omega
      omega
    subst this
    exact ⟨c', e, h4⟩
  · exact absurd rfl h

theorem raise_nf {t : Int} {bits : Nat} {c : List Int} (hb : bits ≤ 16) (hn : c.length = 3 * bits) :
    (∃ c', (Ses.mk true t []).run bits c = ⟨c', ((max (lv7 c false) ((Ses.mk true t []).tn bits) : Nat), 0), true, 6 * lv7 c false + (if lv7 c false < bits then 3 else 0) + 6 * ((Ses.mk true t []).tn bits - lv7 c false), false⟩ ∧ Full 0 (3 * max (lv7 c false) ((Ses.mk true t []).tn bits)) c c') ∨
    (∃ m c' j, (Ses.mk true t []).run bits c = ⟨c', ((m : Nat), 12), true, j, false⟩ ∧ m < (Ses.mk true t []).tn bits ∧ Full 0 (3 * (m + 1)) c c' ∧ sum7 c' false m < 2) := by
  rcases run_raise (s := ⟨true, t, []⟩) rfl hb (by omega : 3 * bits ≤ c.length) with ⟨n, c', e, h1, h2, h3, h4⟩ | ⟨n, m, c', j, e, h1, h2, h3, h4, h5⟩ | ⟨h, _⟩
  · have : n = lv7 c false := by
      have g1 : n ≤ lv7 c false := lv7_ge (by omega) fun x hx => by simpa using (Rd_nil (h2 x hx))
      have g2 : lv7 c false ≤ n := by
        rcases Nat.lt_or_ge n bits with h | h
        · exact lv7_le (Rd_false (h3 h))
        · have := lv7_le_len c false; omega
      omega
    subst this
    exact .inl ⟨c', e, h4⟩
  · exact .inr ⟨m, c', j, e, h2, h4, Rd_false h5⟩
  · exact absurd rfl h

/-- RatchetRaiseReaches. -/
theorem reaches {t : Int} {bits : Nat} {c : List Int} (hb : bits ≤ 16) (hn : c.length = 3 * bits) (hr : Rng c) (hs : Snd c) :
    ∃ (la want lc : Nat) (ca cb cc : List Int) (ma mb mc : Nat), (Ses.mk false 0 []).run bits c = ⟨ca, ((la : Nat), 0), true, ma, false⟩ ∧ (Ses.mk true t []).run bits c = ⟨cb, ((want : Nat), 0), true, mb, false⟩ ∧ want = max la ((Ses.mk true t []).tn bits) ∧
      cb.length = 3 * bits ∧ (Ses.mk false 0 []).run bits cb = ⟨cc, ((lc : Nat), 0), true, mc, false⟩ ∧ want ≤ lc ∧ want ≤ lv7 cb false := by
  obtain ⟨ca, ea, _⟩ := level_nf (t := 0) hb hn
  rcases raise_nf (t := t) hb hn with ⟨cb, eb, hf⟩ | ⟨m, c', j, e, h2, h4, h5⟩
  · have hl : cb.length = 3 * bits := hf.pul.len.trans hn
    obtain ⟨cc, ec, _⟩ := level_nf (t := 0) hb hl
    have ht := (Ses.mk true t []).tn_le bits
    have h0 := lv7_le_len c false
    have := full_lv hf hr hs (by omega)
    exact ⟨_, _, _, ca, cb, cc, _, _, _, ea, eb, rfl, hl, ec, this, this⟩
  · have := full_sound h4 hr hs (b := m) (Nat.zero_le _) (by omega)
    omega

/-- RatchetWornOnlyIfStuck. -/
theorem worn {t : Int} {bits : Nat} {c : List Int} (hb : bits ≤ 16) (hn : c.length = 3 * bits) (hr : Rng c) :
    ∃ (r : Nat) (e : Int) (c' : List Int) (j : Nat), (Ses.mk true t []).run bits c = ⟨c', ((r : Nat), e), true, j, false⟩ ∧
      (e = 0 ∧ (Ses.mk true t []).tn bits ≤ r ∨ e = 12 ∧ r < bits ∧ 2 ≤ (if c.getD (3 * r) 0 = 3 then 1 else 0) + (if c.getD (3 * r + 1) 0 = 3 then 1 else 0) + (if c.getD (3 * r + 2) 0 = 3 then (1 : Nat) else 0)) := by
  rcases raise_nf (t := t) hb hn with ⟨cb, eb, hf⟩ | ⟨m, c', j, e, h2, h4, h5⟩
  · exact ⟨_, 0, cb, _, eb, .inl ⟨rfl, by omega⟩⟩
  · have ht := (Ses.mk true t []).tn_le bits
    refine ⟨m, 12, c', j, e, .inr ⟨rfl, by omega, ?_⟩⟩
    have := full_sum h4 hr (b := m) (Nat.zero_le _) (by omega)
    rw [this] at h5
    revert h5
    split <;> split <;> split <;> simp

/-- RatchetLeavesUpperBits. -/
theorem leaves {s : Ses} {bits : Nat} {c : List Int} (hb : bits ≤ 16) (hn : c.length = 3 * bits) :
    (s.run bits c).bad = false ∧ (s.run bits c).c.length = 3 * bits ∧ ∀ k, 3 * (if s.ra = true then max (lv7 c true) (s.tn bits) else lv7 c true) ≤ k → (s.run bits c).c.getD k 0 = c.getD k 0 := by
  have top : ∀ n : Nat, n ≤ bits → (∀ x, x < n → Rd s.fl c x true) → n ≤ lv7 c true := fun n h1 h2 => lv7_ge (by omega) fun x hx => Rd_true (h2 x hx)
  cases hra : s.ra with
  | false =>
    rcases run_level hra hb (by omega : 3 * bits ≤ c.length) with ⟨n, c', e, h1, h2, h3, h4⟩ | ⟨_, n, c', j, e, h1, h2, h3⟩
    · rw [e]
      exact ⟨rfl, h4.pul.len.trans hn, fun k hk => h4.pul.out k (.inr (by have := top n h1 h2; simp at hk; omega))⟩
    · rw [e]
      exact ⟨rfl, h3.len.trans hn, fun k hk => h3.out k (.inr (by have := top n h1 h2; simp at hk; omega))⟩
  | true =>
    have ht := s.tn_le bits
    rcases run_raise hra hb (by omega : 3 * bits ≤ c.length) with ⟨n, c', e, h1, h2, h3, h4⟩ | ⟨n, m, c', j, e, h1, h2, h3, h4, h5⟩ | ⟨_, n, c', j, e, h1, h2, h3⟩
    · rw [e]
      exact ⟨rfl, h4.pul.len.trans hn, fun k hk => h4.pul.out k (.inr (by have := top n h1 h2; simp at hk; omega))⟩
    · rw [e]
      exact ⟨rfl, h4.pul.len.trans hn, fun k hk => h4.pul.out k (.inr (by simp at hk; omega))⟩
    · rw [e]
      exact ⟨rfl, h3.len.trans hn, fun k hk => h3.out k (.inr (by have := top n h1 h2; simp at hk; omega))⟩

/-- RatchetCounts. -/
theorem counts {t : Int} {bits : Nat} {c : List Int} (hb : bits ≤ 16) (hn : c.length = 3 * bits) :
    ∃ (n : Nat) (ca : List Int), n ≤ bits ∧ (Ses.mk false 0 []).run bits c = ⟨ca, ((n : Nat), 0), true, 6 * n + (if n < bits then 3 else 0), false⟩ ∧
      ∃ (o : Int × Int) (cb : List Int) (j : Nat), (Ses.mk true t []).run bits c = ⟨cb, o, true, j, false⟩ ∧ (o.2 ≠ 0 ∨ j = 6 * n + (if n < bits then 3 else 0) + 6 * ((Ses.mk true t []).tn bits - n)) := by
  obtain ⟨ca, ea, _⟩ := level_nf (t := 0) hb hn
  have h0 := lv7_le_len c false
  refine ⟨_, ca, by omega, ea, ?_⟩
  rcases raise_nf (t := t) hb hn with ⟨cb, eb, hf⟩ | ⟨m, c', j, e, h2, h4, h5⟩
  · exact ⟨_, cb, _, eb, .inr rfl⟩
  · exact ⟨_, c', j, e, .inl (by simp)⟩

/-! ### The given cells -/

theorem cellsL_len (l : List Int) (sound : Bool) : (cellsL l sound).length = 3 * (l.length / 3) := by simp [cellsL, cellsN_len]

theorem cellsL_at (l : List Int) (sound : Bool) (k : Nat) : (cellsL l sound).getD k 0 = if k < 3 * (l.length / 3) then cellV l sound k else 0 := by
  rw [List.getD_eq_getElem?_getD]
  by_cases h : k < 3 * (l.length / 3)
  · rw [if_pos h, List.getElem?_eq_getElem (by rw [cellsL_len]; exact h)]
    simp [cellsL, cellsN]
  · rw [if_neg h, List.getElem?_eq_none (by rw [cellsL_len]; omega)]
    rfl

theorem cellsL_rng {l : List Int} {sound : Bool} (hl : ∀ x ∈ l, 0 ≤ x ∧ x < 256) : Rng (cellsL l sound) := fun k => by
  rw [cellsL_at]
  split
  · unfold cellV
    split
    · omega
    · omega
  · omega

theorem cellsL_snd {l : List Int} : Snd (cellsL l true) := fun b i j hi hj hij h3 hj3 => by
  rw [cellsL_at] at h3 hj3
  by_cases hb : b < l.length / 3
  · rw [if_pos (by omega)] at h3 hj3
    unfold cellV at h3 hj3
    have e1 : (3 * b + i) / 3 = b := by omega
    have e2 : (3 * b + j) / 3 = b := by omega
    rw [e1] at h3; rw [e2] at hj3
    by_cases hst : 1 < stk l b 3
    · rw [if_pos ⟨rfl, hst⟩] at h3; omega
    · rw [if_neg (by simp [hst])] at h3 hj3
      apply hst
      have hi' : i = 0 ∨ i = 1 ∨ i = 2 := by omega
      have hj' : j = 0 ∨ j = 1 ∨ j = 2 := by omega
      simp only [stk]
      rcases hi' with rfl | rfl | rfl <;> rcases hj' with rfl | rfl | rfl <;> first | exact absurd rfl hij | (simp only [h3, hj3, if_true]; omega)
  · rw [if_neg (by omega)] at h3; omega

end Go.Proofs.Ytdnmnafadondkaa
