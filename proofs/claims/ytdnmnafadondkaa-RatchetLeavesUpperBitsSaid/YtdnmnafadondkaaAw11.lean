/- The operations that make or write memory do what the abstract state says. No condition. -/
import Derived.Test.YtdnmnafadondkaaAw10
set_option linter.unusedVariables false
set_option linter.unusedSimpArgs false
namespace Go.Proofs.Ytdnmnafadondkaa
open Go Go.RowKit

section
variable {P : Program} {T : TypeId → Option TI} {eqt : List TypeId} {X : Nat → Prop} {w0 : World} {E : Env} {σ : St} {a : Act} {w : World}

/-- No name but those from b to b + 7 has turned. -/
def Near (b : Nat) (E E' : Env) : Prop := ∀ k, k < b ∨ b + 8 ≤ k → E'.bl k = E.bl k ∧ (E'.ph k ↔ E.ph k)

theorem near_refl (b : Nat) (E : Env) : Near b E E := fun _ _ => ⟨rfl, Iff.rfl⟩
theorem near_with (b g : Nat) (E : Env) : Near b E (E.with b g) := fun k hk => ⟨by simp only [Env.with]; rw [if_neg (by omega)], Iff.rfl⟩
theorem near_ph (b : Nat) (E : Env) : Near b E { E with ph := fun k => k = b ∨ E.ph k } := fun k hk => ⟨rfl, by
  constructor
  · rintro (h | h)
    · omega
    · exact h
  · exact .inr⟩

/-- The operation runs and the state goes on. -/
def Went (P : Program) (X : Nat → Prop) (w0 : World) (E : Env) (σ : St) (a : Act) (w : World) (b nx : Nat) (dst : Option Tmp) (e : Eff) (s : Sem Next) : Prop :=
  ∃ r w' E' v, Near b E E' ∧ s.run P w = .ok r w' ∧ (r = .value v ∨ (r = .skip ∧ v = undef)) ∧ Grow w0 E E' ∧ Sim X w0 E' (σ.app nx dst e) (a.put dst v) w'

theorem went_of {b nx : Nat} {dst : Option Tmp} {e : Eff} {s : Sem Value} (h : ∃ v w' E', Near b E E' ∧ s.run P w = .ok v w' ∧ Grow w0 E E' ∧ Sim X w0 E' (σ.app nx dst e) (a.put dst v) w') :
    Went P X w0 E σ a w b nx dst e (do pure (.value (← s))) := by
  obtain ⟨v, w', E', hn, hr, hg, hs⟩ := h
  exact ⟨.value v, w', E', v, hn, by simp [hr], .inl rfl, hg, hs⟩

theorem Ms_u8 {w : World} {E : Env} : ∀ (l : List UInt8), Ms w E (l.map u8) (l.map fun b => .int .u8 b.toNat)
  | [] => by simp [Ms]
  | b :: l => Ms_cons.2 ⟨_, _, rfl, rfl, Ms_u8 l⟩

theorem box_vals (h : Sim X w0 E σ a w) {k : Nat} {cs : List AV} (hk : aBox σ k = some cs) :
    (cs = [] ∧ E.ph k) ∨ ∃ g c ty vs, E.bl k = some g ∧ w.heap[g]? = some (.cells c ty (0, 0)) ∧ vs.length ≤ c.size ∧ (∀ i, i < vs.length → c[i]? = vs[i]?) ∧ Ms w E cs vs := by
  rcases h.bx k cs hk with ⟨h1, h2⟩ | h1
  · exact .inl ⟨h2, h1⟩
  · exact .inr h1

theorem src_nil {size : Nat} {x : Value} (hx : ∃ ad cap, x = .slice ad 0 cap) : Src P w size 0 x [] := by
  obtain ⟨ad, cap, rfl⟩ := hx
  refine ⟨fun w' => by simp [Builtin.lenOf], fun w' n hn _ => ?_, by simp, by simp⟩
  obtain rfl : n = 0 := by omega
  cases ad with
  | none => simp [Builtin.firstCells]
  | some ad => simp [Builtin.firstCells, loadCells, loadCellsFrom]

theorem src_cells {size m g off cap : Nat} {vs : List Value} (hc : cellsAt w g off vs) (hl : vs.length = m * size) (h1 : ∀ u ∈ vs, u.oneCell' = true) :
    Src P w size m (.slice (some ⟨g, off, none⟩) m cap) vs := by
  refine ⟨fun w' => by simp [Builtin.lenOf], fun w' n hn hw => ?_, hl, h1⟩
  have hle : n * size ≤ m * size := Nat.mul_le_mul_right _ hn
  refine run_firstCells_some (P := P) w' size n ⟨g, off, none⟩ m cap (vs.take (n * size)) (by simp; omega) (fun j u hu => ?_)
  rw [addr_add]
  have := (hc.take (n * size)).cell hu
  simpa [World.cell?, hw] using this

theorem srcOf_run (h : Sim X w0 E σ a w) {size m : Nat} {x : AV} {v : Value} {cs : List AV} (hm : M w E x v) (hx : srcOf σ size x = some (m, cs)) (hl : cs.length = m * size) (hc : cs.all AV.cell = true) :
    ∃ news, Src P w size m v news ∧ Ms w E cs news := by
  unfold srcOf at hx
  split at hx
  · rename_i k off n z gr
    split at hx
    · rename_i bcs hk
      split at hx
      · rename_i hcond
        obtain ⟨rfl, hle⟩ := hcond
        simp at hx
        obtain ⟨rfl, rfl⟩ := hx
        rcases hm with ⟨_, _, rfl, rfl, rfl⟩ | ⟨_, rfl, ad, cap, rfl⟩ | ⟨g, cap, ty, sz, hg, rfl, _⟩
        · exact ⟨[], by simpa using src_nil ⟨_, _, rfl⟩, by simp [Ms]⟩
        · exact ⟨[], by simpa using src_nil ⟨_, _, rfl⟩, by simp [Ms]⟩
        · rcases box_vals h hk with ⟨rfl, _⟩ | ⟨g', c, ty', vs, hg', hw, hvl, hvc, hms⟩
          · simp at hle hl
            have hz : n * z = 0 := by omega
            refine ⟨[], ⟨fun w' => by simp [Builtin.lenOf], fun w' n' hn' _ => ?_, by simp [hz], by simp⟩, by simp [hz, Ms]⟩
            have hz' : n' * z = 0 := by have := Nat.mul_le_mul_right z hn'; omega
            simp [Builtin.firstCells, hz', loadCells, loadCellsFrom]
          · obtain rfl : g = g' := by rw [hg] at hg'; simpa using hg'
            have hcl : cellsAt w g 0 vs := ⟨c, ty', _, hw, fun i hi => by simpa using hvc i hi⟩
            have h1 := (hcl.drop off).take (n * z)
            simp only [Nat.zero_add] at h1
            have h2 := (hms.drop off).take (n * z)
            exact ⟨_, src_cells h1 (by rw [h2.len]; exact hl) (h2.cells hc), h2⟩
      · simp at hx
    · simp at hx
  · rename_i b n bcs
    split at hx
    · rename_i hle
      simp at hx
      obtain ⟨rfl, rfl⟩ := hx
      rcases hm with ⟨rfl, rfl, ad, cap, rfl⟩ | ⟨g, off, cap, vs, rfl, hcap, hok, hcl, hms⟩
      · exact ⟨[], by simpa using src_nil ⟨_, _, rfl⟩, by simp [Ms]⟩
      · have h2 := hms.take (n * size)
        exact ⟨_, src_cells (hcl.take _) (by rw [h2.len]; exact hl) (h2.cells hc), h2⟩
    · simp at hx
  · simp only [M] at hm
    subst hm
    simp at hx
    obtain ⟨rfl, rfl⟩ := hx
    exact ⟨[], src_nil ⟨_, _, rfl⟩, by simp [Ms]⟩
  · rename_i s
    split at hx
    · rename_i h1
      subst h1
      simp at hx
      obtain ⟨rfl, rfl⟩ := hx
      simp only [M] at hm
      subst hm
      refine ⟨s.data.toList.map fun b => .int .u8 b.toNat, ⟨fun w' => by simp [Builtin.lenOf], fun w' n' hn' _ => ?_, by simp, ?_⟩, Ms_u8 _⟩
      · simp only [Builtin.firstCells, Sem.run_pure]
        congr 1
        apply Array.ext'
        simp [ByteArray.data_extract, List.extract_eq_take_drop]
      · intro u hu
        simp at hu
        obtain ⟨b, _, rfl⟩ := hu
        rfl
    · simp at hx
  · simp at hx

theorem replZ_run {n size : Nat} {zero : Array Value} (hz : zero.size = size) (hs : 0 < size) : (Array.range (n * size)).map (fun i => zero[i % zero.size]!) = ⟨(List.replicate n zero.toList).flatten⟩ := by
  apply Array.ext'
  apply List.ext_getElem?
  intro i
  induction n generalizing i with
  | zero => simp
  | succ n ih =>
    simp only [List.replicate_succ, List.flatten_cons]
    by_cases hi : i < size
    · rw [List.getElem?_append_left (by simp [hz, hi])]
      have h1 : i < (n + 1) * size := by rw [Nat.add_mul]; omega
      have h2 : i % zero.size = i := Nat.mod_eq_of_lt (by omega)
      simp only [Array.toList_map, Array.toList_range, List.getElem?_map, List.getElem?_range h1, Option.map_some, h2]
      simp [hz, hi]
    · rw [List.getElem?_append_right (by simp [hz]; omega)]
      have := ih (i - size)
      simp only [Array.length_toList, hz]
      rw [← this]
      simp only [Array.toList_map, Array.toList_range, List.getElem?_map]
      by_cases h1 : i < (n + 1) * size
      · have h2 : i - size < n * size := by rw [Nat.add_mul] at h1; omega
        have h3 : i % size = (i - size) % size := by rw [Nat.mod_eq_sub_mod (by omega)]
        simp [h1, h2, hz, h3]
      · have h2 : ¬ i - size < n * size := by rw [Nat.add_mul] at h1; omega
        simp [h1, h2]

theorem Ms_replZ {w : World} {E : Env} (n : Nat) (zero : List Value) : Ms w E (replZ n zero) (List.replicate n zero).flatten := by
  unfold replZ
  induction n with
  | zero => simp [Ms]
  | succ n ih => simp only [List.replicate_succ, List.flatten_cons]; exact (Ms_vals zero).append ih

theorem spl_vals {w : World} {E : Env} {cs vc : List AV} {vs us : List Value} {off : Nat} (hm : Ms w E cs vs) (hu : Ms w E vc us) (hl : off + vc.length ≤ cs.length) :
    Ms w E (spl cs off vc) (vs.take off ++ us ++ vs.drop (off + us.length)) := by
  have hlen := hu.len
  unfold spl
  split
  · rename_i x
    obtain ⟨v, us', rfl, h1, h2⟩ := Ms_cons.1 hu
    simp [Ms] at h2
    subst h2
    have := hm.set off h1
    have hvs := hm.len
    rw [List.set_eq_take_append_cons_drop (l := vs), if_pos (by simp at hl; omega)] at this
    simpa using this
  · rw [hlen]
    exact ((hm.take _).append hu).append (hm.drop _)

end
end Go.Proofs.Ytdnmnafadondkaa
