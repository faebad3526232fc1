/- The rule of a region whose order is drawn. No condition. -/
import Derived.Test.YtdnmnafadondkaaAw18
set_option linter.unusedVariables false
set_option linter.unusedSimpArgs false
namespace Go.Proofs.Ytdnmnafadondkaa
open Go Go.RowKit

section
variable {P : Program} {X : Nat → Prop} {w0 : World} {E0 : Env} {T : TypeId → Option TI} {eqt : List TypeId}

theorem Sim.same {E : Env} {σ σ' : St} {a : Act} {w : World} (h : Sim X w0 E σ a w) (h1 : σ'.nt = σ.nt) (h2 : σ.nx ≤ σ'.nx) (h3 : σ'.gl = σ.gl) (h4 : σ'.df = σ.df) (h5 : ∀ q, alook q σ'.tm = alook q σ.tm) (h6 : ∀ k, blook k σ'.bx = blook k σ.bx) : Sim X w0 E σ' a w :=
  ⟨h.nt.trans h1.symm, fun t => by rw [h5]; exact h.tm t, fun g => by rw [h3]; exact h.gl g, fun k cs hk => h.bx k cs (by rw [← h6]; exact hk), fun k g hk => h.own k g (by rw [← h6]; exact hk),
   fun k k' g hk hk' => h.inj k k' g (by rw [← h6]; exact hk) (by rw [← h6]; exact hk'), h.lim, h.keep, h.rw, fun k hk => h.fr k (Nat.le_trans h2 hk), h.px, by rw [h4]; exact h.df⟩

theorem Sim.drawn {E : Env} {σ : St} {a : Act} {w : World} (h : Sim X w0 E σ a w) (n : Nat) : Sim X w0 E σ a { w with drawn := n } := by
  have st : Stays w E { w with drawn := n } E := ⟨fun _ _ h => h, fun _ h => h, fun _ h => h, fun _ h => h, fun _ _ h => h, fun _ _ => rfl⟩
  refine ⟨h.nt, fun t => M.stays st _ _ (h.tm t), fun g => M.stays st _ _ (h.gl g), fun k cs hk => (h.bx k cs hk).stays_other st (fun _ _ => rfl), h.own, h.inj, h.lim, ⟨h.keep.os, h.keep.tape, h.keep.output, h.keep.size, h.keep.block⟩, h.rw, h.fr, h.px, Md.stays st h.df⟩

theorem gslot_some {ops : Array Oper} {m : Nat} {q : Tmp} (h : gslot ops m = some q) : ∃ p, ops[m]? = some p ∧ p.dst = some q := by
  unfold gslot at h
  simpa [Option.bind_eq_some_iff] using h

theorem mem_onames {ops : Array Oper} {p : Oper} {q : Tmp} (h : p.dst = some q) : q ∈ onames ops p := by simp [onames, h]

/-- One operation more. -/
theorem part_step {ops : Array Oper} {ms : List (List Nat)} (hms : ancGo ops.toList [] = ms) (hst : statOk ops ms = true) {n0 N : Nat} {σ σf : St} (hσ : σ.nx = N) {ts : List Tk}
    (hch : Chain P X w0 E0 ops ms n0 N 0 [] σ ts σf) {L : Nat → Bool} (hcl : Closed ops L) {i : Nat} {o : Oper} (ho : ops[i]? = some o) (hLi : L i = false) (hp : ∀ p ∈ preds o, L p = true)
    {E : Env} {a : Act} {w : World} (hg : Grow w0 E0 E) (hs : Sim X w0 E (part N ops L 0 ts σ) a w) (hfr : ∀ j, j < ops.size → L j = false → ∀ k, n0 + 8 * j ≤ k → k < n0 + 8 * j + 8 → E.bl k = none ∧ ¬ E.ph k)
    (Q : Exit → Act → World → Prop) (K : Act → World → Prop)
    (hK : ∀ E' a' w', Grow w0 E0 E' → Sim X w0 E' (part N ops (fun j => decide (j = i) || L j) 0 ts σ) a' w' → (∀ j, j < ops.size → (decide (j = i) || L j) = false → ∀ k, n0 + 8 * j ≤ k → k < n0 + 8 * j + 8 → E'.bl k = none ∧ ¬ E'.ph k) → K a' w') :
    wpOp P ops Q i K a w := by
  have hlen : ts.length = ops.size := by simpa using chain_len _ _ _ _ _ hch
  have hi : i < ops.size := by
    rcases Nat.lt_or_ge i ops.size with h1 | h1
    · exact h1
    · simp [Array.getElem?_eq_none h1] at ho
  have hti : ts[i]? = some ts[i] := List.getElem?_eq_getElem (by omega)
  obtain ⟨o', ho', htask⟩ := chain_task _ _ _ _ _ hch i _ hti
  simp only [Nat.zero_add] at ho' htask
  obtain rfl : o = o' := by rw [ho] at ho'; simpa using ho'
  obtain ⟨hs1, hs2⟩ := statOk_spec hst
  -- listed or not, by the order
  have before : ∀ m, cmp ms m i = true → L m = true := fun m hm => anc_sound hms hcl hm ho hp
  have behind : ∀ m p, ops[m]? = some p → cmp ms i m = true → L m = false := by
    intro m p hpm hm
    cases hLm : L m with
    | false => rfl
    | true =>
      have := anc_sound hms hcl hm hpm (hcl m p hpm hLm)
      rw [hLi] at this
      simp at this
  have inb : ∀ (m : Nat) (t : Tk), ts[m]? = some t → ∃ p, ops[m]? = some p := by
    intro m t hm
    have : m < ts.length := by
      rcases Nat.lt_or_ge m ts.length with h1 | h1
      · exact h1
      · simp [List.getElem?_eq_none h1] at hm
    exact ⟨ops[m], Array.getElem?_eq_getElem (by omega)⟩
  have slotAgree : ∀ q, q ∈ onames ops o → ∀ m, gslot ops m = some q → L m = decide (m < i) := by
    intro q hq m hm
    obtain ⟨p, hpm, hpd⟩ := gslot_some hm
    rcases Nat.lt_trichotomy m i with h1 | h1 | h1
    · rcases hs2 m i p o h1 hpm ho with h2 | h2
      · rw [before m h2]; simp [h1]
      · exact absurd hq ((noclash_spec h2).1 q hpd)
    · subst h1; simp [hLi]
    · rcases hs2 i m o p h1 ho hpm with h2 | h2
      · rw [behind m p hpm h2]; simp; omega
      · exact absurd hq ((noclash_spec h2).2 q hpd)
  have boxAgree : ∀ k, k ∈ ts[i].rd → ∀ (m : Nat) (t : Tk), ts[m]? = some t → k ∈ t.foot.1 → L m = decide (m < i) := by
    intro k hk m t hm hkt
    obtain ⟨p, hpm⟩ := inb m t hm
    rcases Nat.lt_trichotomy m i with h1 | h1 | h1
    · rcases chain_pairs _ _ _ _ _ hch m i t _ h1 hm hti with h2 | h2
      · exact absurd hk ((apart_spec h2).1 k hkt).2
      · simp only [Nat.zero_add] at h2
        rw [before m h2]; simp [h1]
    · subst h1; simp [hLi]
    · rcases chain_pairs _ _ _ _ _ hch i m _ t h1 hti hm with h2 | h2
      · exact absurd hk ((apart_spec h2).2 k hkt)
      · simp only [Nat.zero_add] at h2
        rw [behind m p hpm h2]; simp; omega
  obtain ⟨r1, r2, r3, r4⟩ := part_rest N ops L ts 0 σ hσ
  obtain ⟨q1, q2, q3, q4⟩ := part_rest N ops (fun j => decide (j < i)) ts 0 σ hσ
  refine htask (part N ops L 0 ts σ) (by rw [r2, q2]) r1 (by rw [r3, q3]) (by rw [r4, q4])
    (fun q hq => part_tm N ops L _ q ts 0 σ σ rfl (fun m _ hm => by simp only [Nat.zero_add] at hm ⊢; exact slotAgree q hq m hm))
    (fun k hk => part_bx N ops L _ k ts 0 σ σ rfl (fun m t hm hkt => by simp only [Nat.zero_add]; exact boxAgree k hk m t hm hkt))
    E a w Q K hg hs (hfr i hi hLi) ?_
  intro E' a' w' hnear hg' hs'
  have hgs : gslot ops i = o.dst := by simp [gslot, ho]
  refine hK E' a' w' hg' (hs'.same ?_ ?_ ?_ ?_ ?_ ?_) ?_
  · rw [(part_rest N ops _ ts 0 σ hσ).2.1]; exact r2.symm
  · rw [(part_rest N ops _ ts 0 σ hσ).1]; exact Nat.le_refl _
  · rw [(part_rest N ops _ ts 0 σ hσ).2.2.1]; exact r3.symm
  · rw [(part_rest N ops _ ts 0 σ hσ).2.2.2]; exact r4.symm
  · intro q
    simp only [St.app, alook_tput]
    by_cases hd : o.dst = some q
    · rw [if_pos hd]
      refine part_tm_last N ops _ q ts 0 i _ σ hti (by simp) (by simp only [Nat.zero_add]; rw [hgs]; exact hd) (fun m h1 h2 h3 => ?_)
      simp only [Nat.zero_add] at h3 ⊢
      obtain ⟨p, hpm, hpd⟩ := gslot_some h3
      have : L m = false := by
        rcases hs2 i m o p h1 ho hpm with h4 | h4
        · exact behind m p hpm h4
        · exact absurd (mem_onames hpd) ((noclash_spec h4).1 q hd)
      simp [this]; omega
    · rw [if_neg hd]
      refine part_tm N ops _ L q ts 0 σ σ rfl (fun m _ hm => ?_)
      simp only [Nat.zero_add] at hm ⊢
      have : m ≠ i := by rintro rfl; rw [hgs] at hm; exact hd hm
      simp [this]
  · intro k
    show _ = blook k (ts[i].e.bxs ++ (part N ops L 0 ts σ).bx)
    by_cases hk : k ∈ ts[i].foot.1
    · refine part_bx_last N ops _ k ts 0 i _ σ hti (by simp) hk (fun m t h1 h2 h3 => ?_) _
      simp only [Nat.zero_add]
      obtain ⟨p, hpm⟩ := inb m t h2
      have : L m = false := by
        rcases chain_pairs _ _ _ _ _ hch i m _ t h1 hti h2 with h4 | h4
        · exact absurd (show k ∈ t.foot.1 from h3) ((apart_spec h4).1 k hk).1
        · simp only [Nat.zero_add] at h4
          exact behind m p hpm h4
      simp [this]; omega
    · rw [blook_app_out hk]
      refine part_bx N ops _ L k ts 0 σ σ rfl (fun m t hm hkt => ?_)
      simp only [Nat.zero_add]
      have : m ≠ i := by
        rintro rfl
        rw [hti] at hm
        simp at hm
        subst hm
        exact hk hkt
      simp [this]
  · intro j hj hL k h1 h2
    simp at hL
    have hn := hnear k (by omega)
    rw [hn.1]
    have := hfr j hj hL.2 k h1 h2
    exact ⟨this.1, fun h3 => this.2 (hn.2.1 h3)⟩

theorem draw_any {ops : Array Oper} {ms : List (List Nat)} (hms : ancGo ops.toList [] = ms) (hst : statOk ops ms = true) {n0 N : Nat} {σ σf : St} (hσ : σ.nx = N) {ts : List Tk}
    (hch : Chain P X w0 E0 ops ms n0 N 0 [] σ ts σf) {Q : Exit → St → Prop} (hq : Q .normal σf) : ∀ (fuel : Nat) (listed : Array Bool) (U : List Nat) (a : Act) (w : World), listed.size = ops.size → U.Nodup → U.length = fuel → (∀ j, j ∈ U ↔ (j < ops.size ∧ listed.getD j false = false)) →
    Closed ops (fun j => listed.getD j false) → (∃ E, Grow w0 E0 E ∧ Sim X w0 E (part N ops (fun j => listed.getD j false) 0 ts σ) a w ∧ ∀ j, j < ops.size → listed.getD j false = false → ∀ k, n0 + 8 * j ≤ k → k < n0 + 8 * j + 8 → E.bl k = none ∧ ¬ E.ph k) →
    wpAny P .any ops (Conc X w0 E0 Q) fuel listed a w := by
  have hlen : ts.length = ops.size := by simpa using chain_len _ _ _ _ _ hch
  have fin : ∀ (listed : Array Bool) (a : Act) (w : World), (∀ j, j < ops.size → listed.getD j false = true) → (∃ E, Grow w0 E0 E ∧ Sim X w0 E (part N ops (fun j => listed.getD j false) 0 ts σ) a w ∧ ∀ j, j < ops.size → listed.getD j false = false → ∀ k, n0 + 8 * j ≤ k → k < n0 + 8 * j + 8 → E.bl k = none ∧ ¬ E.ph k) → Conc X w0 E0 Q .normal a w := by
    rintro listed a w hall ⟨E, hg, hs, _⟩
    rw [← chain_last (fun j => listed.getD j false) ts 0 [] σ σf hch (fun j _ h => hall j h)] at hs
    exact ⟨E, σf, hq, hg, hs⟩
  intro fuel
  induction fuel with
  | zero =>
    intro listed U a w hsz hnd hU hUm hcl hinv
    have hU0 : U = [] := List.eq_nil_of_length_eq_zero hU
    subst hU0
    have hall : ∀ j, j < ops.size → listed.getD j false = true := by
      intro j hj
      cases h : listed.getD j false with
      | true => rfl
      | false => exact absurd ((hUm j).2 ⟨hj, h⟩) (by simp)
    refine ⟨?_, fin listed a w hall hinv⟩
    unfold Region.ready
    rw [List.filter_eq_nil_iff]
    intro i hi
    have := hall i (by simpa using hi)
    rw [Array.getD_eq_getD_getElem?] at this
    have h2 : listed[i]? = some true := by
      cases h : listed[i]? with
      | none => rw [h] at this; simp at this
      | some b => rw [h] at this; simp at this; subst this; rfl
    simp [h2]
  | succ fuel ih =>
    intro listed U a w hsz hnd hU hUm hcl hinv
    obtain ⟨hs1, hs2⟩ := statOk_spec hst
    have rdy : ∀ i, i ∈ Region.ready .any ops listed ↔ (i < ops.size ∧ listed.getD i false = false ∧ ∀ o, ops[i]? = some o → ∀ p ∈ preds o, listed.getD p false = true) := by
      intro i
      unfold Region.ready
      rw [List.mem_filter]
      constructor
      · rintro ⟨h1, h2⟩
        have hi : i < ops.size := by simpa using h1
        have ho : ops[i]? = some ops[i] := Array.getElem?_eq_getElem hi
        rw [ho] at h2
        simp only [Option.map_some, Option.getD_some, Bool.and_eq_true, Bool.not_eq_true'] at h2
        refine ⟨hi, ?_, fun o ho' p hp => ?_⟩
        · have := h2.1
          rw [Array.getD_eq_getD_getElem?] at this ⊢
          rw [Array.getElem?_eq_getElem (by omega)] at this ⊢
          simpa using this
        · obtain rfl : ops[i] = o := by rw [ho] at ho'; simpa using ho'
          have h3 := h2.2
          rw [Array.all_eq_true_iff_forall_mem] at h3
          unfold preds at hp
          rw [List.mem_filterMap] at hp
          obtain ⟨e, he, hpe⟩ := hp
          have h4 := h3 e (by simpa using he)
          split at hpe
          · rename_i hb
            simp at hpe
            subst hpe
            simpa [hb] using h4
          · simp at hpe
      · rintro ⟨hi, h2, h3⟩
        have ho : ops[i]? = some ops[i] := Array.getElem?_eq_getElem hi
        refine ⟨by simpa using hi, ?_⟩
        rw [ho]
        simp only [Option.map_some, Option.getD_some, Bool.and_eq_true, Bool.not_eq_true']
        refine ⟨?_, ?_⟩
        · rw [Array.getD_eq_getD_getElem?] at h2 ⊢
          rw [Array.getElem?_eq_getElem (by omega)] at h2 ⊢
          simpa using h2
        · rw [Array.all_eq_true_iff_forall_mem]
          intro e he
          cases hb : Region.binds .any e with
          | false => simp
          | true =>
            have := h3 _ ho e.on (by unfold preds; rw [List.mem_filterMap]; exact ⟨e, by simpa using he, by simp [hb]⟩)
            simp [this]
    refine ⟨fun hnil => ?_, fun i hi => ?_⟩
    · -- nothing is ready: all are listed
      refine fin listed a w (fun j => ?_) hinv
      induction j using Nat.strongRecOn with
      | _ j ihj =>
        intro hj
        cases h : listed.getD j false with
        | true => rfl
        | false =>
          have : j ∈ Region.ready .any ops listed := (rdy j).2 ⟨hj, h, fun o ho p hp => by
            have hlt := hs1 j o ho p hp
            exact ihj p hlt (by omega)⟩
          rw [hnil] at this
          simp at this
    · obtain ⟨hi1, hi2, hi3⟩ := (rdy i).1 hi
      have ho : ops[i]? = some ops[i] := Array.getElem?_eq_getElem hi1
      obtain ⟨E, hg, hs, hfr⟩ := hinv
      have hset : ∀ j, (listed.setIfInBounds i true).getD j false = (decide (j = i) || listed.getD j false) := by
        intro j
        rw [Array.getD_eq_getD_getElem?, Array.getD_eq_getD_getElem?]
        by_cases hji : j = i
        · subst hji
          rw [Array.getElem?_setIfInBounds_self_of_lt (by omega)]
          simp
        · rw [Array.getElem?_setIfInBounds_ne (fun h => hji h.symm)]
          simp [hji]
      have hcl' : Closed ops (fun j => (listed.setIfInBounds i true).getD j false) := by
        intro j o ho' hj p hp
        simp only [hset] at hj ⊢
        by_cases hji : j = i
        · subst hji
          simp [hi3 o ho' p hp]
        · simp [hji] at hj
          have := hcl j o ho' (by simpa using hj) p hp
          simp only at this
          simp [this]
      have hfun : (fun j => (listed.setIfInBounds i true).getD j false) = fun j => decide (j = i) || listed.getD j false := funext hset
      refine part_step hms hst hσ hch hcl ho hi2 (hi3 _ ho) hg hs hfr _ _ (fun E' a' w' hg' hs' hfr' => ?_)
      refine ih (listed.setIfInBounds i true) (U.erase i) a' w' (by simpa using hsz) (hnd.erase i) ?_ ?_ hcl' ⟨E', hg', by rw [hfun]; exact hs', fun j hj hL => hfr' j hj (by rw [← hset]; exact hL)⟩
      · rw [List.length_erase_of_mem ((hUm i).2 ⟨hi1, hi2⟩)]
        omega
      · intro j
        rw [hnd.mem_erase_iff, hUm j, hset]
        simp
        constructor
        · rintro ⟨h1, h2, h3⟩; exact ⟨h2, h1, h3⟩
        · rintro ⟨h1, h2, h3⟩; exact ⟨h2, h1, h3⟩

/-- A region whose order is drawn. -/
theorem AW_draw (hm : P.follows .mixedOrders = true) {id : Nat} {ops : Array Oper} {ms : List (List Nat)} (hms : ancGo ops.toList [] = ms) (hst : statOk ops ms = true) {σ : St} {Q : Exit → St → Prop}
    (h : DR P X w0 E0 ops ms σ.nx (σ.nx + 8 * ops.size) (Q .normal) 0 [] { σ with nx := σ.nx + 8 * ops.size }) : AW P X w0 E0 (.region id ops true) σ Q := by
  intro E a w hg hs
  obtain ⟨ts, σf, hch, hq⟩ := h
  refine wp_region_any hm ?_
  have hget : ∀ j, (Array.replicate ops.size false).getD j false = false := by
    intro j
    rw [Array.getD_eq_getD_getElem?, Array.getElem?_replicate]
    split <;> rfl
  refine draw_any (n0 := σ.nx) (N := σ.nx + 8 * ops.size) (σ := { σ with nx := σ.nx + 8 * ops.size }) hms hst rfl hch hq ops.size _ (List.range ops.size) a _ (by simp) List.nodup_range (by simp) (fun j => by rw [hget]; simp) ?_ ⟨E, hg, ?_, fun j hj _ k h1 h2 => hs.fr k (by omega)⟩
  · intro j o _ hj
    simp only [hget] at hj
    simp at hj
  · rw [part_none _ _ _ _ _ _ (fun j _ _ => hget j)]
    exact (hs.drawn _).same rfl (by simp) rfl rfl (fun _ => rfl) (fun _ => rfl)

end
end Go.Proofs.Ytdnmnafadondkaa
