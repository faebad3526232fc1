/- Arguments as they come in, read as abstract values; and that a function's contract proves its row's step. No condition. -/
import Derived.Test.YtgbpgplkhifgiaaDoorMC
import Derived.WalkKit
import Derived.ProofKit
import Derived.OpenShut
import Derived.Carry
import Derived.Test.YtgbpgplkhifgiaaDoorMX
import Derived.Test.YtgbpgplkhifgiaaDoorRows
import Derived.Test.YtgbpgplkhifgiaaDoorCards
import Derived.Test.YtgbpgplkhifgiaaDoorTie
import Derived.LaidMore
import Derived.Lib.LaidTab
import Derived.SevenTiedAt
set_option linter.unusedVariables false
set_option linter.unusedSimpArgs false
namespace Go.Proofs.YtgbpgplkhifgiaaDoor
open Go Go.RowKit Go.ChangeShapes Go.WideShapes Go.ChangeAt

/-- All that lay when the call began may be read, and turns no more. -/
def envAll (W : World) : Env := { bl := fun _ => none, ph := fun _ => False, S := fun g => g < W.heap.size, T := fun _ => False }

/-- Whatever cells of type t read, they are those of some a. -/
structure Dec (P : Program) (t : TypeId) (α : Type) (e : α → List AV) (ok : α → Prop) : Prop where
  run : ∀ {H : Type} (enc : TypeId × Value → H) (W : World) (base : Nat) (sp : Nat → Bool) (held : Bool) (fuel : Nat) (cs : List Value) (x : DataW H × List MemPlace),
    DataW.trod enc P W base sp held fuel t cs = some x → ∃ a : α, ok a ∧ Ms W (envAll W) (e a) cs

section
variable {P : Program} {t : TypeId}

theorem dec_int {k : IntKind} (hu : P.underlying t = some (.int k)) : Dec P t Int (fun n => [.val (.int k n)]) (fun n => (Lit.int k n).wf = true) := by
  refine ⟨?_⟩
  intro H enc W base sp held fuel cs x h
  obtain ⟨n, rfl, _, hw⟩ := DataW.trod_int hu h
  exact ⟨n, hw, Ms_cons.2 ⟨_, _, rfl, rfl, rfl⟩⟩

theorem dec_bool (hu : P.underlying t = some .bool) : Dec P t Bool (fun b => [.val (.bool b)]) (fun _ => True) := by
  refine ⟨?_⟩
  intro H enc W base sp held fuel cs x h
  obtain ⟨b, rfl, _⟩ := DataW.trod_bool hu h
  exact ⟨b, trivial, Ms_cons.2 ⟨_, _, rfl, rfl, rfl⟩⟩

theorem dec_str (hu : P.underlying t = some .string) : Dec P t ByteArray (fun s => [.val (.string s)]) (fun s => s.size ≤ maxLen) := by
  refine ⟨?_⟩
  intro H enc W base sp held fuel cs x h
  obtain ⟨s, rfl, _, hs⟩ := DataW.trod_string hu h
  exact ⟨s, hs, Ms_cons.2 ⟨_, _, rfl, rfl, rfl⟩⟩

/-- A row of elements that each read as some a. -/
theorem row_of {α : Type} {e : α → List AV} {ok : α → Prop} {W : World} {z : Nat} (vs : Nat → List Value) : ∀ n : Nat, (∀ i, i < n → ∃ a : α, ok a ∧ Ms W (envAll W) (e a) (vs i) ∧ (vs i).length = z) →
    ∃ l : List α, l.length = n ∧ (∀ a ∈ l, ok a) ∧ Ms W (envAll W) (l.flatMap e) ((List.range n).flatMap vs)
  | 0, _ => ⟨[], rfl, by simp, rfl⟩
  | n + 1, h => by
    obtain ⟨l, h1, h2, h3⟩ := row_of vs n (fun i hi => h i (by omega))
    obtain ⟨a, h4, h5, _⟩ := h n (by omega)
    refine ⟨l ++ [a], by simp [h1], fun b hb => ?_, ?_⟩
    · rcases List.mem_append.1 hb with hb | hb
      · exact h2 b hb
      · simp at hb; subst hb; exact h4
    · rw [List.range_succ, List.flatMap_append, List.flatMap_append]
      simp only [List.flatMap_cons, List.flatMap_nil, List.append_nil]
      exact h3.append h5

theorem get_rows {vs : Nat → List Value} {z : Nat} : ∀ (n : Nat), (∀ i, i < n → (vs i).length = z) → ((List.range n).flatMap vs).length = n * z ∧ ∀ i k, i < n → k < z → ((List.range n).flatMap vs)[i * z + k]? = (vs i)[k]?
  | 0, h => ⟨by simp, fun i k hi _ => by omega⟩
  | n + 1, h => by
    obtain ⟨h1, h2⟩ := get_rows n (fun i hi => h i (by omega))
    rw [List.range_succ, List.flatMap_append]
    simp only [List.flatMap_cons, List.flatMap_nil, List.append_nil]
    refine ⟨by simp [h1, h n (by omega), Nat.add_mul], fun i k hi hk => ?_⟩
    by_cases hin : i < n
    · have : i * z + k < n * z := by
        have : (i + 1) * z ≤ n * z := Nat.mul_le_mul_right _ (by omega)
        rw [Nat.add_mul] at this; omega
      rw [List.getElem?_append_left (by omega)]
      exact h2 i k hin hk
    · have : i = n := by omega
      subst this
      rw [List.getElem?_append_right (by omega), h1]
      congr 1; omega

theorem dec_slice {el : TypeId} {α : Type} {e : α → List AV} {ok : α → Prop} {z : Nat} (hu : P.underlying t = some (.slice el)) (hd : Dec P el α e ok) (hz : P.cellsOf el = z) (h0 : 0 < z) :
    Dec P t (List α) (fun l => [.ds true l.length (l.flatMap e)]) (fun l => l.length ≤ maxLen ∧ ∀ a ∈ l, ok a) := by
  refine ⟨?_⟩
  intro H enc W base sp held fuel cs x h
  rcases DataW.trod_slice hu h with ⟨rfl, _⟩ | ⟨a, len, cap, elems, rest, n, _, rfl, _, hb, hl, hm, hlen, hel, _, _⟩
  · exact ⟨[], ⟨by simp, by simp⟩, Ms_cons.2 ⟨_, _, rfl, .inl ⟨rfl, rfl, none, 0, rfl⟩, rfl⟩⟩
  · have each : ∀ i, i < len → ∃ cs', W.cells? base (a.add (i * z)) z = some cs' ∧ ∃ b : α, ok b ∧ Ms W (envAll W) (e b) cs' := by
      intro i hi
      have := hel i hi
      rw [hz, List.getElem?_eq_getElem (by omega)] at this
      obtain ⟨cs', h1, h2⟩ := Option.bind_eq_some_iff.1 this
      exact ⟨cs', h1, hd.run enc W base sp held n cs' _ h2⟩
    by_cases hl0 : len = 0
    · subst hl0
      exact ⟨[], ⟨by simp, by simp⟩, Ms_cons.2 ⟨_, _, rfl, .inl ⟨rfl, rfl, some a, cap, rfl⟩, rfl⟩⟩
    · let vs : Nat → List Value := fun i => ((W.cells? base (a.add (i * z)) z).getD [])
      have hv : ∀ i, i < len → W.cells? base (a.add (i * z)) z = some (vs i) := by
        intro i hi
        obtain ⟨cs', h1, _⟩ := each i hi
        show _ = some ((W.cells? base (a.add (i * z)) z).getD [])
        rw [h1]; rfl
      have hvl : ∀ i, i < len → (vs i).length = z := fun i hi => (World.cells?_some (hv i hi)).2.1
      obtain ⟨l, h1, h2, h3⟩ := row_of (e := e) (ok := ok) (W := W) (z := z) vs len (fun i hi => by
        obtain ⟨cs', k1, b, k2, k3⟩ := each i hi
        have : cs' = vs i := by have := hv i hi; rw [k1] at this; exact Option.some.inj this
        subst this
        exact ⟨b, k2, k3, hvl i hi⟩)
      obtain ⟨g1, g2⟩ := get_rows len hvl
      -- the address
      have hsp : a.spot = none ∧ ∃ c ty fr, W.heap[a.block]? = some (.cells c ty fr) := by
        have := (World.cells?_some (hv 0 (by omega))).2.2 0 h0
        simp only [Nat.zero_mul] at this
        have ha : (a.add 0).add 0 = a := by simp [Addr.add]
        rw [ha, List.getElem?_eq_getElem (by rw [hvl 0 (by omega)]; exact h0)] at this
        unfold World.cell? at this
        split at this
        · rename_i c ty fr hw
          split at this
          · simp at this
          · rename_i hs
            exact ⟨by simpa using hs, c, ty, fr, hw⟩
        · simp at this
      obtain ⟨hsp, c, ty, fr, hw⟩ := hsp
      obtain ⟨ab, ao, asp⟩ := a
      simp only at hsp hw
      subst hsp
      have hblk : ab < W.heap.size := by
        rcases Nat.lt_or_ge ab W.heap.size with hh | hh
        · exact hh
        · rw [Array.getElem?_eq_none hh] at hw; simp at hw
      refine ⟨l, ⟨by omega, h2⟩, Ms_cons.2 ⟨_, _, rfl, .inr ⟨ab, ao, cap, (List.range len).flatMap vs, by rw [h1], by omega, .inl hblk, ⟨c, ty, fr, hw, fun q hq => ?_⟩, h3⟩, rfl⟩⟩
      rw [g1] at hq
      have hqz : q = (q / z) * z + q % z := by rw [Nat.mul_comm]; exact (Nat.div_add_mod q z).symm
      have hq1 : q / z < len := (Nat.div_lt_iff_lt_mul h0).2 hq
      have hq2 : q % z < z := Nat.mod_lt _ h0
      have := (World.cells?_some (hv (q / z) hq1)).2.2 (q % z) hq2
      have hget := g2 (q / z) (q % z) hq1 hq2
      rw [← hqz] at hget
      rw [hget, ← this]
      have haddr : ((⟨ab, ao, none⟩ : Addr).add (q / z * z)).add (q % z) = ⟨ab, ao + q, none⟩ := by
        unfold Addr.add
        by_cases h5 : q / z * z = 0 <;> by_cases h6 : q % z = 0 <;> simp [h5, h6] <;> omega
      rw [haddr]
      simp [World.cell?, hw]

/-- The fields of a struct from one on. 'o': the first one's place. -/
structure DecF (P : Program) (fs : List Field) (o : Nat) (α : Type) (e : α → List AV) (ok : α → Prop) (sz : Nat) : Prop where
  run : ∀ {H : Type} (enc : TypeId × Value → H) (W : World) (base : Nat) (sp : Nat → Bool) (held : Bool) (fuel : Nat) (cs : List Value), cs.length = o + sz →
    (∀ f ∈ fs, ∃ x, DataW.trod enc P W base sp held fuel f.type ((cs.drop f.offset).take (P.cellsOf f.type)) = some x) → ∃ a : α, ok a ∧ Ms W (envAll W) (e a) (cs.drop o)

theorem decF_nil {o : Nat} : DecF P [] o Unit (fun _ => []) (fun _ => True) 0 := by
  refine ⟨?_⟩
  intro H enc W base sp held fuel cs hl _
  refine ⟨(), trivial, ?_⟩
  show cs.drop o = []
  exact List.drop_eq_nil_of_le (by omega)

theorem decF_cons {f : Field} {fs : List Field} {o sz : Nat} (z : Nat) {α β : Type} {e : α → List AV} {e' : β → List AV} {ok : α → Prop} {ok' : β → Prop} (hd : Dec P f.type α e ok) (ho : f.offset = o) (hz : P.cellsOf f.type = z) (hr : DecF P fs (o + z) β e' ok' sz) :
    DecF P (f :: fs) o (α × β) (fun p => e p.1 ++ e' p.2) (fun p => ok p.1 ∧ ok' p.2) (z + sz) := by
  refine ⟨?_⟩
  intro H enc W base sp held fuel cs hl h
  obtain ⟨x, hx⟩ := h f (by simp)
  obtain ⟨a, h1, h2⟩ := hd.run enc W base sp held fuel _ x hx
  obtain ⟨b, h3, h4⟩ := hr.run enc W base sp held fuel cs (by omega) (fun g hg => h g (by simp [hg]))
  refine ⟨(a, b), ⟨h1, h3⟩, ?_⟩
  have := h2.append h4
  rw [ho, hz] at this
  have e1 : (cs.drop o).take z ++ cs.drop (o + z) = cs.drop o := by
    rw [← List.drop_drop, List.take_append_drop]
  rw [e1] at this
  exact this

theorem dec_struct {fs : List Field} {α : Type} {e : α → List AV} {ok : α → Prop} {sz : Nat} (hu : P.underlying t = some (.struct fs.toArray)) (hz : P.cellsOf t = sz) (hd : DecF P fs 0 α e ok sz) : Dec P t α e ok := by
  refine ⟨?_⟩
  intro H enc W base sp held fuel cs x h
  obtain ⟨xs, n, _, _, hl, hxs, hel⟩ := DataW.trod_struct hu h
  obtain ⟨a, h1, h2⟩ := hd.run enc W base sp held n cs (by omega) (fun f hf => by
    obtain ⟨i, hi, hfi⟩ := List.mem_iff_getElem.1 hf
    have := hel i f (by simp [List.getElem?_eq_getElem hi, hfi])
    rw [List.getElem?_eq_getElem (by rw [hxs]; simpa using hi)] at this
    exact ⟨_, this⟩)
  exact ⟨a, h1, by simpa using h2⟩

theorem dec_array {n z : Nat} {el : TypeId} {α : Type} {e : α → List AV} {ok : α → Prop} (hu : P.underlying t = some (.array n el)) (hd : Dec P el α e ok) (hz : P.cellsOf el = z) (ht : P.cellsOf t = n * z) :
    Dec P t (List α) (fun l => l.flatMap e) (fun l => l.length = n ∧ ∀ a ∈ l, ok a) := by
  refine ⟨?_⟩
  intro H enc W base sp held fuel cs x h
  obtain ⟨xs, m, _, _, hl, hxs, hel⟩ := DataW.trod_array hu h
  rw [ht] at hl
  let vs : Nat → List Value := fun i => (cs.drop (i * z)).take z
  have hvl : ∀ i, i < n → (vs i).length = z := fun i hi => by
    have : (i + 1) * z ≤ n * z := Nat.mul_le_mul_right _ (by omega)
    rw [Nat.add_mul] at this
    simp only [vs, List.length_take, List.length_drop]; omega
  obtain ⟨l, h1, h2, h3⟩ := row_of (e := e) (ok := ok) (W := W) (z := z) vs n (fun i hi => by
    have := hel i hi
    rw [hz, List.getElem?_eq_getElem (by omega)] at this
    obtain ⟨a, k1, k2⟩ := hd.run enc W base sp held m _ _ this
    exact ⟨a, k1, k2, hvl i hi⟩)
  refine ⟨l, ⟨h1, h2⟩, ?_⟩
  have : (List.range n).flatMap vs = cs := by
    obtain ⟨g1, g2⟩ := get_rows n hvl
    apply List.ext_getElem?
    intro q
    by_cases hz0 : z = 0
    · subst hz0
      have h4 : cs = [] := List.eq_nil_of_length_eq_zero (by simpa using hl)
      have h5 : (List.range n).flatMap vs = [] := List.eq_nil_of_length_eq_zero (by simpa using g1)
      rw [h4, h5]
    · by_cases hq : q < n * z
      · have hqz : q = (q / z) * z + q % z := by rw [Nat.mul_comm]; exact (Nat.div_add_mod q z).symm
        have hq1 : q / z < n := (Nat.div_lt_iff_lt_mul (by omega)).2 hq
        have hq2 : q % z < z := Nat.mod_lt _ (by omega)
        have hget := g2 (q / z) (q % z) hq1 hq2
        rw [← hqz] at hget
        rw [hget]
        simp only [vs, List.getElem?_take, List.getElem?_drop, hq2, if_true]
        rw [← hqz]
      · rw [List.getElem?_eq_none (by omega), List.getElem?_eq_none (by omega)]
  rw [this] at h3
  exact h3

/-- Whatever argument of type t comes in, it is some a's. -/
structure DecV (P : Program) (t : TypeId) (α : Type) (e : α → AV) (ok : α → Prop) : Prop where
  run : ∀ {H : Type} (enc : TypeId × Value → H) (W : World) (base b0 : Nat) (sp : Nat → Bool) (held : Bool) (v : Value) (d : DataW H) (ps : List MemPlace),
    Value.okWide P W .any base t v → DataW.Trod enc P W b0 sp held t v d ps → ∃ a : α, ok a ∧ M W (envAll W) (e a) v

theorem decV_of {α : Type} {e : α → AV} {ok : α → Prop} (hd : Dec P t α (fun a => [e a]) ok) (hv : ∀ (W : World) (base : Nat) (v : Value), Value.okWide P W .any base t v → v.cells = #[v]) : DecV P t α e ok := by
  refine ⟨?_⟩
  intro H enc W base b0 sp held v d ps hok ht
  obtain ⟨fuel, hf⟩ := ht
  obtain ⟨a, h1, h2⟩ := hd.run enc W b0 sp held fuel _ _ hf
  rw [hv W base v hok] at h2
  obtain ⟨u, us, h3, h4, _⟩ := Ms_cons.1 h2
  simp at h3
  exact ⟨a, h1, by rw [h3.1]; exact h4⟩

theorem decV_int {k : IntKind} (hu : P.underlying t = some (.int k)) : DecV P t Int (fun n => .val (.int k n)) (fun n => (Lit.int k n).wf = true) :=
  decV_of (dec_int hu) fun W base v h => by obtain ⟨n, rfl⟩ := okWide_int hu h; rfl
theorem decV_bool (hu : P.underlying t = some .bool) : DecV P t Bool (fun b => .val (.bool b)) (fun _ => True) :=
  decV_of (dec_bool hu) fun W base v h => by obtain ⟨n, rfl⟩ := okWide_bool hu h; rfl
theorem decV_slice {el : TypeId} {α : Type} {e : α → List AV} {ok : α → Prop} {z : Nat} (hu : P.underlying t = some (.slice el)) (hd : Dec P el α e ok) (hz : P.cellsOf el = z) (h0 : 0 < z) :
    DecV P t (List α) (fun l => .ds true l.length (l.flatMap e)) (fun l => l.length ≤ maxLen ∧ ∀ a ∈ l, ok a) :=
  decV_of (dec_slice hu hd hz h0) fun W base v h => by obtain ⟨a, n, c, rfl⟩ := okWide_slice hu h; rfl
theorem decV_agg {α : Type} {e : α → List AV} {ok : α → Prop} (hd : Dec P t α e ok) (hv : ∀ (W : World) (base : Nat) (v : Value), Value.okWide P W .any base t v → ∃ cs, v = .agg cs) : DecV P t α (fun a => .agg (e a)) ok := by
  refine ⟨?_⟩
  intro H enc W base b0 sp held v d ps hok ht
  obtain ⟨fuel, hf⟩ := ht
  obtain ⟨a, h1, h2⟩ := hd.run enc W b0 sp held fuel _ _ hf
  obtain ⟨cs, rfl⟩ := hv W base v hok
  exact ⟨a, h1, cs.toList, rfl, by simpa [Value.cells] using h2⟩
theorem decV_struct {fs : List Field} {α : Type} {e : α → List AV} {ok : α → Prop} {sz : Nat} (hu : P.underlying t = some (.struct fs.toArray)) (hz : P.cellsOf t = sz) (hd : DecF P fs 0 α e ok sz) : DecV P t α (fun a => .agg (e a)) ok :=
  decV_agg (dec_struct hu hz hd) fun W base v h => by obtain ⟨cs, h1, _⟩ := okWide_struct hu h; exact ⟨cs, h1⟩
theorem decV_array {n z : Nat} {el : TypeId} {α : Type} {e : α → List AV} {ok : α → Prop} (hu : P.underlying t = some (.array n el)) (hd : Dec P el α e ok) (hz : P.cellsOf el = z) (ht : P.cellsOf t = n * z) :
    DecV P t (List α) (fun l => .agg (l.flatMap e)) (fun l => l.length = n ∧ ∀ a ∈ l, ok a) :=
  decV_agg (dec_array hu hd hz ht) fun W base v h => by
    unfold Value.okWide at h
    rw [hu] at h
    obtain ⟨cs, h1, _⟩ := h
    exact ⟨cs, h1⟩

/-! ### From a contract to the row's step -/

theorem calls_of_spec {gl : List (Nat × AV)} {K : FuncId} {avs : List AV} {args : List Value} {W : World} (h : Spec P gl K avs [] (fun o => o = .ret (.val (.bool true)) [] [])) (hm : Ms W (envAll W) avs args)
    (hgl : ∀ g, M W (envAll W) (alook g gl) (.pointer (some ⟨g, 0, none⟩))) : Calls P K ⟨args⟩ W fun e W' => e = .returned (.bool true) ∧ Below W.heap.size W W' := by
  have := h (envAll W) W args hm hgl ⟨fun k cs hk => by simp at hk, fun k g hk => by simp at hk, fun k k' g hk => by simp at hk⟩ (fun g hg => hg.elim id False.elim) (fun k _ => ⟨rfl, id⟩) (fun k hk => hk.elim)
  refine this.mono fun e W' hp => ?_
  obtain ⟨out, E', rfl, ⟨v, rfl, hv⟩, haf⟩ := hp
  simp only [M] at hv
  subst hv
  have hk := haf.keep
  exact ⟨rfl, hk.os, hk.tape, hk.output, hk.size, fun k hk' => hk.block k hk' (by rintro (⟨j, hj, _⟩ | h0) <;> first | exact h0 | simp at hj)⟩

theorem trodAll_stays {H : Type} {enc : TypeId × Value → H} (hl : laidOutB P = true) {W W' : World} (hb : Below W.heap.size W W') : ∀ (ts : List TypeId) (vs : List Value) (ds : List (DataW H)) (ps : List MemPlace),
    (∀ t ∈ ts, P.readableRec t = true ∧ t < P.types.size) → DataW.TrodAll enc P W 0 (fun _ => true) true ts vs ds ps → (∀ x ∈ ps, x.block < W.heap.size) → DataW.TrodAll enc P W' 0 (fun b => decide (b < W.heap.size)) true ts vs ds ps
  | [], vs, ds, ps, _, h, _ => by cases vs <;> cases ds <;> simp [DataW.TrodAll] at h ⊢; exact h
  | t :: ts, vs, ds, ps, hr, h, hlt => by
    cases vs <;> cases ds <;> simp only [DataW.TrodAll] at h ⊢
    obtain ⟨p, q, h1, h2, rfl⟩ := h
    obtain ⟨r1, r2⟩ := hr t (by simp)
    exact ⟨p, q, Below.trod hl r1 r2 h1 hb (fun x hx => hlt x (by simp [hx])), trodAll_stays hl hb ts _ _ q (fun u hu => hr u (by simp [hu])) h2 (fun x hx => hlt x (by simp [hx])), rfl⟩

theorem trodAll_len {H : Type} {enc : TypeId × Value → H} {W : World} {base : Nat} {sp : Nat → Bool} {held : Bool} : ∀ {ts : List TypeId} {vs : List Value} {ds : List (DataW H)} {ps : List MemPlace}, DataW.TrodAll enc P W base sp held ts vs ds ps → ds.length = ts.length
  | [], vs, ds, ps, h => by cases vs <;> cases ds <;> simp [DataW.TrodAll] at h ⊢
  | t :: ts, vs, ds, ps, h => by
    cases vs <;> cases ds <;> simp only [DataW.TrodAll] at h
    obtain ⟨p, q, h1, h2, rfl⟩ := h
    simp [trodAll_len h2]

/-- A law's contract proves its row's step. -/
theorem law_step {H : Type} {enc : TypeId × Value → H} {fn : Func} {K : FuncId} {s : ChangeSpec} {apart fresh handsOn : Bool} {tb : TypeId} (hl : laidOutB P = true) (hr : fn.params.toList.all (fun t => P.readableRec t && decide (t < P.types.size)) = true)
    (hrt : fn.resultTypes = #[tb]) (hub : P.underlying tb = some .bool) (hv : s.vars = []) (hs : ∀ ds : List (DataW H), ds.length = fn.params.size → s.fn H ds = { results := [.lit (.bool true)], args := ds })
    {W : World} {args : Array Value} {ds gs : List (DataW H)} {before : List MemPlace} (hW : DataW.Whole enc P fn.params.toList s.vars apart W args.toList ds gs before)
    (hc : Calls P K args W fun e W' => e = .returned (.bool true) ∧ Below W.heap.size W W') :
    Calls P K args W fun e W' => ∃ v, e = .returned v ∧ s.post enc P fn apart fresh handsOn false W args v W' := by
  have hlt := hW.lt
  refine hc.mono fun e W' ⟨he, hb⟩ => ⟨.bool true, he, ?_⟩
  have hW0 := hW
  obtain ⟨p, q, hA, hV, rfl, hfz, hnd⟩ := hW
  rw [hv] at hV
  obtain ⟨rfl, rfl⟩ := trodVars_none hV
  have hlen := trodAll_len hA
  have hsd := hs ds (by rw [hlen]; simp)
  have hr' : ∀ t ∈ fn.params.toList, P.readableRec t = true ∧ t < P.types.size := fun t ht => by
    have := (List.all_eq_true.1 hr) t ht
    simpa using this
  refine ⟨ds, [], p ++ [], [], p, [], hW0, ?_, ?_, ?_, hb.frame _, fun h => by simp at h⟩
  · rw [List.append_nil, hsd, hrt]
    exact trodAll_mk1 (shut_bool hub true)
  · rw [List.append_nil, hsd]
    exact trodAll_stays hl hb _ _ _ _ hr' hA (fun x hx => hlt x (by simp [hx]))
  · rw [List.append_nil, hsd, hv]
    rfl
end

end Go.Proofs.YtgbpgplkhifgiaaDoor

/- The set-up of this seat's cards: what the listed variables give a walk; how digests and signatures that come in read. No condition. -/
set_option linter.unusedVariables false
set_option linter.unusedSimpArgs false
set_option maxRecDepth 100000
namespace Go.Proofs.YtgbpgplkhifgiaaDoor
open Go Go.RowKit Go.ChangeShapes Go.WideShapes Go.ChangeAt

theorem own : ownKnob Tryd.prog.godebug = none := by kernel_rfl
theorem laidOut : laidOutB Tryd.prog = true := by kernel_rfl

/-- What the rows list. -/
def laidL : List (String × DataW Unit) := [("bootchain/sha.constants", Rows.laid_bootchain_sha_constants), ("bootchain/sha.start", Rows.laid_bootchain_sha_start)]

theorem door_met (os : Os) (args : Array Value) : laidMetH Tryd.prog laidL ((World.doorLaid Tryd.prog 400 os).forCall (fun _ _ => 0) ⟨#[], args, []⟩).memory :=
  laidMetH_of_parts3 (fuel := 8) (laidMet_of_run' 8 (by kernel_rfl) (by kernel_rfl)) (by kernel_rfl) (by kernel_rfl)

def KZ : List Int := KS.map fun w => (w.toNat : Int)
def HZ : List Int := [1779033703, 3144134277, 1013904242, 2773480762, 1359893119, 2600822924, 528734635, 1541459225]
theorem laidK : (Rows.laid_bootchain_sha_constants : DataW Unit) = Lib.tabData .u32 KZ := by kernel_rfl
theorem laidH : (Rows.laid_bootchain_sha_start : DataW Unit) = Lib.tabData .u32 HZ := by kernel_rfl

theorem gK : Tryd.prog.globalNamed "bootchain/sha.constants" = some 1 := by kernel_rfl
theorem gH : Tryd.prog.globalNamed "bootchain/sha.start" = some 0 := by kernel_rfl

theorem tK : (Tryd.prog.globals[1]?).map (·.type) = some 206 := by kernel_rfl
theorem tH : (Tryd.prog.globals[0]?).map (·.type) = some 192 := by kernel_rfl

theorem heap_of_var {P : Program} {W : World} {n : String} {g : Nat} {cs : Array Value} (hg : P.globalNamed n = some g) (h : W.var? P n = some cs) : ∃ t f, W.heap[g]? = some (.cells cs t f) := by
  simp only [World.var?, hg, Option.bind_some] at h
  split at h
  · rename_i cs' t f hq
    simp only [Option.some.injEq] at h
    subst h
    exact ⟨t, f, hq⟩
  · cases h
theorem heap_lt {W : World} {g : Nat} {o : Obj} (h : W.heap[g]? = some o) : g < W.heap.size := by
  rcases Nat.lt_or_ge g W.heap.size with h1 | h1
  · exact h1
  · rw [Array.getElem?_eq_none h1] at h; cases h

theorem cells_of_ints (W : World) (E : Env) : ∀ (ws : List UInt32), Ms W E (ws.map ww) ((ws.map fun w => (w.toNat : Int)).map fun z => Value.int .u32 z)
  | [] => rfl
  | w :: ws => Ms_cons.2 ⟨_, _, rfl, rfl, cells_of_ints W E ws⟩
theorem cells_K (W : World) (E : Env) : Ms W E (KS.map ww) (KZ.map fun z => Value.int .u32 z) := cells_of_ints W E KS
theorem cells_H (W : World) (E : Env) : Ms W E HS.cs (HZ.map fun z => Value.int .u32 z) := cells_of_ints W E [HS.a, HS.b, HS.c, HS.d, HS.e, HS.f, HS.g, HS.h]

theorem gl_of_laid {W : World} (h : laidMetH Tryd.prog laidL W) : ∀ g, M W (envAll W) (alook g glS) (.pointer (some ⟨g, 0, none⟩)) := by
  rw [MakeChecks.laidMetH_plain _ _ _ (by kernel_rfl)] at h
  obtain ⟨ps, ⟨g1, t1, cs1, f1, p1, q1, hg1, ht1, hv1, hd1, ⟨g0, t0, cs0, f0, p0, q0, hg0, ht0, hv0, hd0, _, _⟩, _⟩, _, _⟩ := h
  obtain rfl := Option.some.inj (gK.symm.trans hg1)
  obtain rfl := Option.some.inj (gH.symm.trans hg0)
  obtain rfl := Option.some.inj (tK.symm.trans ht1)
  obtain rfl := Option.some.inj (tH.symm.trans ht0)
  rw [laidK] at hd1
  rw [laidH] at hd0
  have c1 := Lib.cells_of_tab Tryd.underlying206 Tryd.underlying25 (by kernel_rfl) (by kernel_rfl) hd1
  have c0 := Lib.cells_of_tab Tryd.underlying192 Tryd.underlying25 (by kernel_rfl) (by kernel_rfl) hd0
  obtain ⟨a1, b1, e1⟩ := heap_of_var gK hv1
  obtain ⟨a0, b0, e0⟩ := heap_of_var gH hv0
  have l1 := heap_lt e1
  have l0 := heap_lt e0
  intro g
  unfold glS
  simp only [alook]
  split
  · rename_i hg
    subst hg
    refine ⟨0, 0, cs0.toList, rfl, .inl l0, ⟨cs0, a0, b0, e0, fun i hi => ?_⟩, ?_⟩
    · simp
    · rw [c0]
      exact cells_H _ _
  · split
    · rename_i hg
      subst hg
      refine ⟨1, 0, cs1.toList, rfl, .inl l1, ⟨cs1, a1, b1, e1, fun i hi => ?_⟩, ?_⟩
      · simp
      · rw [c1]
        exact cells_K _ _
    · trivial

/-! ### How arguments read -/

theorem Dec.conv {P : Program} {t : TypeId} {α β : Type} {e : α → List AV} {ok : α → Prop} {e' : β → List AV} {ok' : β → Prop} (h : Dec P t α e ok) (f : α → β) (hf : ∀ a, ok a → ok' (f a) ∧ e' (f a) = e a) : Dec P t β e' ok' := by
  refine ⟨?_⟩
  intro H enc W base sp held fuel cs x hx
  obtain ⟨a, ha, hm⟩ := h.run enc W base sp held fuel cs x hx
  obtain ⟨h1, h2⟩ := hf a ha
  exact ⟨f a, h1, by rw [h2]; exact hm⟩

theorem u8_wf {n : Int} (h : (Lit.int .u8 n).wf = true) : 0 ≤ n ∧ n < 256 := by
  simp only [Lit.wf, Bool.and_eq_true, decide_eq_true_eq] at h
  obtain ⟨h1, h2⟩ := h
  have e1 : IntKind.u8.min = 0 := rfl
  have e2 : IntKind.u8.max = 255 := rfl
  omega
theorem i64_wf {n : Int} (h : (Lit.int .i64 n).wf = true) : -9223372036854775808 ≤ n ∧ n < 9223372036854775808 := by
  simp only [Lit.wf, Bool.and_eq_true, decide_eq_true_eq] at h
  obtain ⟨h1, h2⟩ := h
  have e1 : IntKind.i64.min = -9223372036854775808 := rfl
  have e2 : IntKind.i64.max = 9223372036854775807 := rfl
  omega

def toB (n : Int) : UInt8 := UInt8.ofNat n.toNat
theorem toB_bw {n : Int} (h : (Lit.int .u8 n).wf = true) : bw (toB n) = .val (.int .u8 n) := by
  have := u8_wf h
  unfold bw toB
  have e : ((UInt8.ofNat n.toNat).toNat : Int) = n := by
    rw [UInt8.toNat_ofNat']
    omega
  rw [e]

theorem dec_b : Dec Tryd.prog 5 UInt8 (fun b => [bw b]) (fun _ => True) :=
  (dec_int Tryd.underlying5).conv toB (fun n h => ⟨trivial, by rw [toB_bw h]⟩)

theorem flat_bw (l : List UInt8) : (l.flatMap fun b => [bw b]) = l.map bw := by induction l with
  | nil => rfl
  | cons x l ih => simp [ih]

theorem dec_dig : Dec Tryd.prog 23 (List UInt8) (fun d => d.map bw) (fun d => d.length = 16) :=
  (dec_array (n := 16) (z := 1) Tryd.underlying23 dec_b (by kernel_rfl) (by kernel_rfl)).conv id (fun l h => ⟨h.1, (flat_bw l).symm⟩)

end Go.Proofs.YtgbpgplkhifgiaaDoor
