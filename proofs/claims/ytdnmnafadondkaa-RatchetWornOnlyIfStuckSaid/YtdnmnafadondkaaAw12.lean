/- The operations that make or write memory do what the abstract state says, case by case. No condition. -/
import Derived.Test.YtdnmnafadondkaaAw11
set_option linter.unusedVariables false
set_option linter.unusedSimpArgs false
namespace Go.Proofs.Ytdnmnafadondkaa
open Go Go.RowKit

section
variable {P : Program} {T : TypeId → Option TI} {eqt : List TypeId} {X : Nat → Prop} {w0 : World} {E : Env} {σ : St} {a : Act} {w : World}

/-- The names from b on are free. -/
structure Free (E : Env) (σ : St) (b nx : Nat) : Prop where
  a : E.bl b = none
  p : ¬ E.ph b
  lt : b < nx
  le : σ.nx ≤ nx
  n : ∀ k, nx ≤ k → E.bl k = none ∧ ¬ E.ph k

theorem one_bx {b : Nat} {cs : List AV} {σ : St} : (∀ k, k ≠ b → (blook k ([(b, some cs)] ++ σ.bx)).isSome → blook k ([(b, some cs)] ++ σ.bx) = blook k σ.bx) ∧ (∀ cs', blook b ([(b, some cs)] ++ σ.bx) = some cs' → cs' = cs) := by
  refine ⟨fun k hk _ => ?_, fun cs' h => ?_⟩
  · simp [blook, hk]
  · simp [blook] at h; exact h.symm

theorem sl_new {w wd : World} {E : Env} {b n z sz cap : Nat} {e : TypeId} {c : Array Value} (hwd : wd.heap = w.heap) (hn : n ≤ cap) (hs : c.size = cap * z) (hm : cap ≤ maxLen) :
    M (wd.alloc (.cells c e)) (E.with b w.heap.size) (.sl b 0 n z (some e)) (.slice (some ⟨w.heap.size, 0, none⟩) n cap) := by
  refine .inr (.inr ⟨w.heap.size, cap, e, c.size, by simp [Env.with], rfl, hn, ?_, by omega, fun e' he => ?_⟩)
  · have := heap_alloc_new wd (.cells c e)
    rw [hwd] at this
    simp [rowIn, this]
  · simp at he
    exact ⟨he, rfl, hs, hm⟩

theorem aeff_nil (h : Sim X w0 E σ a w) {b nx : Nat} (hf : Free E σ b nx) (dst : Option Tmp) (hd : ∀ t, dst = some t → t < σ.nt) (z : Nat) (e : TypeId) {s : Sem Next} (hs : s = pure (.value (.slice none 0 0))) :
    Went P X w0 E σ a w b nx dst ⟨.sl b 0 0 z (some e), [(b, some [])]⟩ s := by
  subst hs
  obtain ⟨hg, hs⟩ := h.phantom (d := dst) (x := .sl b 0 0 z (some e)) (v := .slice none 0 0) (b := b) (nx := nx) [(b, some [])] hd hf.a hf.p hf.lt hf.n one_bx.1 one_bx.2
    (.inl ⟨rfl, .inl rfl, rfl, rfl, rfl⟩)
  exact ⟨_, w, _, _, near_ph b E, rfl, .inl rfl, hg, hs⟩

theorem aeff_alloc (hT : TTab P T) (h : Sim X w0 E σ a w) {b nx : Nat} (hf : Free E σ b nx) {t : TypeId} {e : Eff} (o : Oper) (hd : ∀ t, o.dst = some t → t < σ.nt) (ho : o.op = .alloc t) (hv : aeff T b σ o = some e) :
    Went P X w0 E σ a w b nx o.dst e (execOp a.eval o) := by
  simp only [aeff, ho] at hv
  simp only [execOp, ho]
  split at hv
  · rename_i ti hti
    simp at hv
    subst hv
    obtain ⟨z, hz, hc⟩ := (hT _ _ hti).run_zero (P := P) w
    refine went_of ⟨.pointer (some ⟨w.heap.size, 0, none⟩), w.alloc (.cells z.cells t), E.with b w.heap.size, near_with _ _ _, ?_, ?_⟩
    · simp [Instr.alloc, hz, newVar, newRow]
    · have hm : Ms w E (ti.zero.map .val) z.cells.toList := by rw [← hc]; exact Ms_vals _
      have := h.new (d := o.dst) (x := .ptr b 0) (v := .pointer (some ⟨w.heap.size, 0, none⟩)) (b := b) (nx := nx) w rfl rfl rfl rfl hd hf.a hf.p hf.lt hf.n (c := z.cells) (ty := t) hm (by simp) (by simp)
        ⟨w.heap.size, by simp [Env.with], rfl⟩ [(b, some (ti.zero.map .val))] one_bx.1 one_bx.2
      exact this.2
  · simp at hv

theorem aeff_box (h : Sim X w0 E σ a w) {b nx : Nat} (hf : Free E σ b nx) {t : TypeId} {x : Operand} {e : Eff} (o : Oper) (hd : ∀ t, o.dst = some t → t < σ.nt) (ho : o.op = .box t x) (hv : aeff T b σ o = some e) :
    Went P X w0 E σ a w b nx o.dst e (execOp a.eval o) := by
  have hx := h.ev x
  simp only [aeff, ho] at hv
  simp only [execOp, ho]
  split at hv
  · rename_i cs hcs
    simp at hv
    subst hv
    have hm := hx.cs hcs
    refine went_of ⟨.pointer (some ⟨w.heap.size, 0, none⟩), w.alloc (.cells (a.eval x).cells t), E.with b w.heap.size, near_with _ _ _, ?_, ?_⟩
    · simp [Instr.box, newVar, newRow]
    · have := h.new (d := o.dst) (x := .ptr b 0) (v := .pointer (some ⟨w.heap.size, 0, none⟩)) (b := b) (nx := nx) w rfl rfl rfl rfl hd hf.a hf.p hf.lt hf.n (c := (a.eval x).cells) (ty := t) hm (by simp) (by simp)
        ⟨w.heap.size, by simp [Env.with], rfl⟩ [(b, some cs)] one_bx.1 one_bx.2
      exact this.2
  · simp at hv

theorem aeff_bs (hT : TTab P T) (h : Sim X w0 E σ a w) {b nx : Nat} (hf : Free E σ b nx) {t : TypeId} {len : Nat} {ps : Array (Nat × Operand)} {e : Eff} (o : Oper) (hd : ∀ t, o.dst = some t → t < σ.nt) (ho : o.op = .buildSlice t len ps) (hv : aeff T b σ o = some e) :
    Went P X w0 E σ a w b nx o.dst e (execOp a.eval o) := by
  simp only [aeff, ho] at hv
  simp only [execOp, ho]
  split at hv
  · rename_i ti hti
    obtain ⟨d, hu, hod⟩ := (hT _ _ hti).und
    split at hv
    · rename_i el hdl
      rw [hdl] at hod
      cases d <;> simp [TD.of] at hod
      rw [hod] at hu
      split at hv
      · rename_i eti het
        split at hv
        · rename_i cs hcs
          split at hv
          · rename_i hc
            obtain ⟨h1, h2, h3, h4⟩ := hc
            simp at hv
            subst hv
            have hsz := (hT _ _ het).run_size (P := P) w
            obtain ⟨z, hz, hzc⟩ := (hT _ _ het).run_zero (P := P) w
            have hzs : z.cells.size = eti.size := by rw [← h1, ← hzc]; simp
            have hr0 := replZ_run (n := len) hzs h3
            have hm0 : Ms w E (replZ len eti.zero) (List.replicate len z.cells.toList).flatten := by rw [hzc]; exact Ms_replZ len eti.zero
            obtain ⟨us, hfill, hms⟩ := run_aFill (w := w) (E := E) (evp σ ps.toList) (ps.toList.map fun (i, x) => (i, a.eval x)) _ ⟨_⟩ cs (Mp_evp h ps.toList) hm0 hcs
            have hus : us.size = len * eti.size := by have := hms.len; simp at this; omega
            refine went_of ⟨.slice (some ⟨w.heap.size, 0, none⟩) len len, w.alloc (.cells us el), E.with b w.heap.size, near_with _ _ _, ?_, ?_⟩
            · have h5 : ¬ (len * eti.size > 2 ^ 24) := by omega
              simp only [Instr.buildSlice, Sem.run_bind, run_underlying hu, Result.andThen_ok, hsz]
              rw [if_neg h5]
              by_cases h0 : len * eti.size = 0
              · have hl0 : len = 0 := by rcases Nat.mul_eq_zero.1 h0 with h | h <;> omega
                subst hl0
                simp at hfill
                have hr00 : Array.range 0 = #[] := rfl
                have hfill' : Instr.fill (fun i => some (i * eti.size, eti.size)) #[] (ps.toList.map fun x => (x.1, a.eval x.2)) = some us := hfill
                simp [hr00, hfill', newRow]
              · simp only [h0, if_false, Sem.run_bind, hz, Result.andThen_ok, Sem.run_pure, hr0]
                have : (ps.map fun (x : Nat × Operand) => (x.1, a.eval x.2)).toList = ps.toList.map fun (i, x) => (i, a.eval x) := by simp
                simp [hfill, newRow]
            · have := h.new (d := o.dst) (x := .sl b 0 len eti.size (some el)) (v := .slice (some ⟨w.heap.size, 0, none⟩) len len) (b := b) (nx := nx) w rfl rfl rfl rfl hd hf.a hf.p hf.lt hf.n (c := us) (ty := el) hms (by simp) (by simp)
                (sl_new (sz := 0) rfl (Nat.le_refl _) hus (by have : len ≤ len * eti.size := Nat.le_mul_of_pos_right _ h3; unfold maxLen; omega)) [(b, some cs)] one_bx.1 one_bx.2
              exact this.2
          · simp at hv
        · simp at hv
      · simp at hv
    · simp at hv
  · simp at hv

theorem aeff_ms (hT : TTab P T) (h : Sim X w0 E σ a w) {b nx : Nat} (hf : Free E σ b nx) {t : TypeId} {l c : Operand} {e : Eff} (o : Oper) (hd : ∀ t, o.dst = some t → t < σ.nt) (ho : o.op = .makeSlice t l c) (hv : aeff T b σ o = some e) :
    Went P X w0 E σ a w b nx o.dst e (execOp a.eval o) := by
  have hl := h.ev l
  have hcc := h.ev c
  simp only [aeff, ho] at hv
  simp only [execOp, ho]
  split at hv
  · rename_i ti hti
    obtain ⟨d, hu, hod⟩ := (hT _ _ hti).und
    split at hv
    · rename_i el k n k' m hdl e1 e2
      rw [e1] at hl; rw [e2] at hcc
      simp only [M] at hl hcc
      rw [hdl] at hod
      cases d <;> simp [TD.of] at hod
      rw [hod] at hu
      split at hv
      · rename_i eti het
        split at hv
        · rename_i hc
          obtain ⟨h1, h2, h3, h4, h5, h6⟩ := hc
          simp at hv
          subst hv
          obtain ⟨i, zz, hi, his, hib, hiz, hizc⟩ := (hT _ _ het).info
          have hsz := (hT _ _ het).run_size (P := P) w
          obtain ⟨z, hz, hzc⟩ := (hT _ _ het).run_zero (P := P) w
          have hzs : z.cells.size = eti.size := by rw [← h1, ← hzc]; simp
          have hr0 := replZ_run (n := m.toNat) hzs h2
          have hwn : IntKind.i64.wrap n = n := by
            simp only [IntKind.wrap, IntKind.signed, IntKind.bits]; simp; omega
          have hwm : IntKind.i64.wrap m = m := by
            simp only [IntKind.wrap, IntKind.signed, IntKind.bits]; simp; omega
          have hbm : (i.bytes : Int) * m ≤ 2 ^ 48 := by
            have h7 : (i.bytes : Int) ≤ 1024 := by omega
            have : (i.bytes : Int) * m ≤ 1024 * 4294967296 := Int.mul_le_mul h7 h5 (by omega) (by omega)
            omega
          refine went_of ⟨.slice (some ⟨w.heap.size, 0, none⟩) n.toNat m.toNat, w.alloc (.cells ⟨(List.replicate m.toNat z.cells.toList).flatten⟩ el), E.with b w.heap.size, near_with _ _ _, ?_, ?_⟩
          · have hti2 : (typeInfo el).run P w = .ok i w := by simp [typeInfo, hi]
            have hroom : (askRoom (m.toNat * i.bytes)).run P w = .ok () w := by
              unfold askRoom; split <;> simp [mark, Sem.run]
            have c1 : ¬ ((decide (m < 0) || decide ((i.bytes : Int) * m > 2 ^ 48) || decide (n < 0) || decide (n > m)) = true) := by
              simp; omega
            simp only [Instr.makeSlice, Sem.run_bind, run_underlying hu, Result.andThen_ok, hl, hcc, asInt, asIntOf, Sem.run_pure, hti2, hwn, hwm]
            rw [if_neg c1]
            by_cases h0 : m.toNat * eti.size = 0
            · have hm0 : m.toNat = 0 := by rcases Nat.mul_eq_zero.1 h0 with h | h <;> omega
              have hr00 : Array.range 0 = #[] := rfl
              simp [hroom, hsz, hm0, newRow, hr00]
            · simp only [hroom, hsz, h0, if_false, hz, hr0, Sem.run_bind, Result.andThen_ok, Sem.run_pure]
              simp [newRow]
          · have hm0 : Ms w E (replZ n.toNat eti.zero) (List.replicate n.toNat z.cells.toList).flatten := by rw [hzc]; exact Ms_replZ _ _
            have lenf : ∀ q : Nat, (List.replicate q z.cells.toList).flatten.length = q * eti.size := by intro q; simp [hzs]
            have pre : ∀ i, i < (List.replicate n.toNat z.cells.toList).flatten.length → (List.replicate m.toNat z.cells.toList).flatten[i]? = (List.replicate n.toNat z.cells.toList).flatten[i]? := by
              intro i hi
              have : m.toNat = n.toNat + (m.toNat - n.toNat) := by omega
              rw [this, ← List.replicate_append_replicate, List.flatten_append, List.getElem?_append_left hi]
            have hle : n.toNat * eti.size ≤ m.toNat * eti.size := Nat.mul_le_mul_right _ (by omega)
            have := h.new (d := o.dst) (x := .sl b 0 n.toNat eti.size (some el)) (v := .slice (some ⟨w.heap.size, 0, none⟩) n.toNat m.toNat) (b := b) (nx := nx) w rfl rfl rfl rfl hd hf.a hf.p hf.lt hf.n (c := ⟨(List.replicate m.toNat z.cells.toList).flatten⟩) (ty := el) hm0 (by simp only [List.size_toArray, lenf]; exact hle) (fun i hi => by simpa using pre i hi)
              (sl_new (sz := 0) rfl (by omega) (by simp [hzs]) (by unfold maxLen; omega)) [(b, some (replZ n.toNat eti.zero))] one_bx.1 one_bx.2
            exact this.2
        · simp at hv
      · simp at hv
    · simp at hv
  · simp at hv

theorem vals_prefix {c : Array Value} {vs ns : List Value} {off : Nat} (hvl : vs.length ≤ c.size) (hvc : ∀ i, i < vs.length → c[i]? = vs[i]?) (hn : off + ns.length ≤ vs.length) :
    (c.toList.take off ++ ns ++ c.toList.drop (off + ns.length)).toArray.size = c.size ∧
    ∀ i, i < (vs.take off ++ ns ++ vs.drop (off + ns.length)).length → (c.toList.take off ++ ns ++ c.toList.drop (off + ns.length)).toArray[i]? = (vs.take off ++ ns ++ vs.drop (off + ns.length))[i]? := by
  constructor
  · simp; omega
  · intro i hi
    have hlen : (vs.take off ++ ns ++ vs.drop (off + ns.length)).length = vs.length := by simp; omega
    rw [hlen] at hi
    have hci : c.toList[i]? = vs[i]? := by simpa using hvc i hi
    have m1 : min off c.toList.length = off := by simp; omega
    have m2 : min off vs.length = off := by omega
    simp only [List.getElem?_toArray, List.getElem?_append, List.length_append, List.length_take, m1, m2, List.getElem?_take, List.getElem?_drop]
    by_cases h1 : i < off + ns.length
    · simp only [h1, if_true]
      by_cases h2 : i < off
      · simp only [h2, if_true, hci]
      · simp only [h2, if_false]
    · simp only [h1, if_false]
      rw [show off + ns.length + (i - (off + ns.length)) = i by omega]
      exact hci

theorem aeff_store (hT : TTab P T) (h : Sim X w0 E σ a w) {b nx : Nat} (hf : Free E σ b nx) {t : TypeId} {x y : Operand} {e : Eff} (o : Oper) (hd : ∀ t, o.dst = some t → t < σ.nt) (ho : o.op = .store t x y) (hv : aeff T b σ o = some e) :
    Went P X w0 E σ a w b nx o.dst e (execOp a.eval o) := by
  have hx := h.ev x
  have hy := h.ev y
  simp only [aeff, ho] at hv
  simp only [execOp, ho]
  split at hv
  · rename_i ti k off vc hti e1 e2
    split at hv
    · rename_i cs hk
      split at hv
      · rename_i hc
        obtain ⟨h1, h2, h3⟩ := hc
        simp at hv
        subst hv
        rw [e1] at hx
        obtain ⟨g, hg, hp⟩ := hx
        have hmy := hy.cs e2
        have hly := hmy.len
        have hone := hmy.cells h3
        have hsz := (hT _ _ hti).run_size (P := P) w
        have hvs : (a.eval y).cells.size = ti.size := by simp at hly; omega
        rcases box_vals h hk with ⟨rfl, hph⟩ | ⟨g', c, ty, vs, hg', hw, hvl, hvc, hms⟩
        · rw [h.px k hph] at hg; simp at hg
        · obtain rfl : g = g' := by rw [hg] at hg'; simpa using hg'
          have hml := hms.len
          have hst := run_storeCells_at P g off ty (a.eval y).cells.toList 0 c w hw (by simp at hly ⊢; omega) hone
          simp only [Nat.add_zero] at hst
          obtain ⟨p1, p2⟩ := vals_prefix (ns := (a.eval y).cells.toList) (off := off) hvl hvc (by simp at hly ⊢; omega)
          have hs := h.set (d := o.dst) (x := .any) (v := undef) (nx := nx) hd (by unfold aBox at hk; rw [hk]; rfl) hg hw p1 hf.le (spl_vals hms hmy (by omega)) (by simp at hly ⊢; omega) p2 trivial
          refine ⟨.skip, _, E, undef, near_refl _ _, ?_, .inr ⟨rfl, rfl⟩, Grow.refl _ _, hs⟩
          have hne : ¬ ((a.eval y).cells.size ≠ ti.size) := by omega
          simp only [hp, Instr.storeAt, Instr.sureAddr, storeVar, Sem.run_bind, Sem.run_pure, Result.andThen_ok, hsz]
          rw [if_neg hne]
          simp only [hst, Result.andThen_ok, Sem.run_pure]
      · simp at hv
    · simp at hv
  · simp at hv

theorem aeff_conv (hT : TTab P T) (h : Sim X w0 E σ a w) {b nx : Nat} (hf : Free E σ b nx) {s d : TypeId} {x : Operand} {e : Eff} (o : Oper) (hd : ∀ t, o.dst = some t → t < σ.nt) (ho : o.op = .convert s d x) (hv : aeff T b σ o = some e) :
    Went P X w0 E σ a w b nx o.dst e (execOp a.eval o) := by
  have hx := h.ev x
  simp only [aeff, ho] at hv
  simp only [execOp, ho]
  split at hv
  · rename_i si di str hs hdd e1
    split at hv
    · rename_i el hdl
      split at hv
      · rename_i eti het
        split at hv
        · rename_i hk
          simp at hv
          subst hv
          rw [e1] at hx
          simp only [M] at hx
          obtain ⟨d1, hu1, ho1⟩ := (hT _ _ hs).und
          obtain ⟨d2, hu2, ho2⟩ := (hT _ _ hdd).und
          obtain ⟨d3, hu3, ho3⟩ := (hT _ _ het).und
          rw [hdl] at ho2; rw [hk] at ho3
          cases d2 <;> simp [TD.of] at ho2
          rw [ho2] at hu2
          cases d3 <;> simp [TD.of] at ho3
          rw [ho3] at hu3
          have hr := Lib.run_convert_string_bytes (P := P) w s d el str hu1 hu2 hu3
          have hcap := grownCap_ge w str.size 0 el
          have hcell : cellsAt (Lib.bytesWorld w el str) w.heap.size 0 (str.data.toList.map fun b => Value.int .u8 b.toNat) := by
            refine ⟨_, _, _, Lib.bytesWorld_at_new w el str, fun i hi => ?_⟩
            have hi' : i < str.data.size := by simpa using hi
            have hi2 : i < str.size := hi'
            simp [Lib.bytesCells, Array.getElem?_append, hi', hi2, Nat.not_le.2 hi2]
          obtain ⟨hg, hs'⟩ := h.stable (d := o.dst) (x := .ds true str.size (str.data.toList.map u8)) (v := .slice (some ⟨w.heap.size, 0, none⟩) str.size (grownCap w str.size 0 el)) (nx := nx) (w' := Lib.bytesWorld w el str) rfl rfl rfl
            (fun g hg => Lib.bytesWorld_at_old w el str g hg) (Lib.bytesWorld_size w el str) hd hf.le
            (.inr ⟨w.heap.size, 0, _, _, rfl, hcap, .inl (.inl rfl), hcell, Ms_u8 _⟩)
          refine went_of ⟨_, _, { E with S := fun g => g = w.heap.size ∨ E.S g }, fun _ _ => ⟨rfl, Iff.rfl⟩, ?_, hg, hs'⟩
          rw [hx, hr]
        · simp at hv
      · simp at hv
    · simp at hv
  · simp at hv

theorem dstOf_run (h : Sim X w0 E σ a w) {e : TypeId} {size n : Nat} {k : Option Nat} {x : AV} {v : Value} {cs : List AV} (hm : M w E x v) (hx : dstOf σ e size x = some (k, n, cs)) :
    ∃ vs, w.ownsRow 0 e size v n vs ∧ Ms w E cs vs ∧ ((∀ k', k = some k' → (blook k' σ.bx).isSome)) ∧
      (v = .slice none 0 0 ∨ ∃ g cap c ty k', k = some k' ∧ v = .slice (some ⟨g, 0, none⟩) n cap ∧ E.bl k' = some g ∧ w.heap[g]? = some (.cells c ty (0, 0)) ∧ vs.length ≤ c.size) := by
  unfold dstOf at hx
  split at hx
  · rename_i k' off n' z gr
    split at hx
    · rename_i bcs hk
      split at hx
      · rename_i hc
        obtain ⟨rfl, rfl, rfl, hl⟩ := hc
        simp at hx
        obtain ⟨rfl, rfl, rfl⟩ := hx
        have hlive : (blook k' σ.bx).isSome := by unfold aBox at hk; rw [hk]; rfl
        rcases hm with ⟨_, hph, rfl, _, rfl⟩ | ⟨hgr, _⟩ | ⟨g, cap, ty, sz, hg, rfl, hcap, hri, hle, hgr⟩
        · have : bcs = [] := List.eq_nil_of_length_eq_zero (by omega)
          subst this
          exact ⟨[], World.ownsRow_nil w 0 e z, by simp [Ms], fun k'' hk'' => by simp at hk''; subst hk''; exact hlive, .inl rfl⟩
        · simp at hgr
        · obtain ⟨rfl, _, rfl, hcm⟩ := hgr e rfl
          rcases box_vals h hk with ⟨rfl, hph⟩ | ⟨g', c, ty', vs, hg', hw, hvl, hvc, hms⟩
          · rw [h.px k' hph] at hg; simp at hg
          · obtain rfl : g = g' := by rw [hg] at hg'; simpa using hg'
            have hml := hms.len
            have hti : ty' = ty ∧ c.size = cap * z := by
              unfold rowIn at hri; rw [hw] at hri; simpa using hri
            obtain ⟨rfl, hcs⟩ := hti
            refine ⟨vs, ⟨by omega, .inr ⟨g, cap, c, rfl, Nat.zero_le _, hw, hcap, hcm, hcs, ?_⟩⟩, hms, fun k'' hk'' => by simp at hk''; subst hk''; exact hlive, .inr ⟨g, cap, c, ty', k', rfl, rfl, hg, hw, hvl⟩⟩
            apply List.ext_getElem?
            intro i
            rw [List.getElem?_take]
            split
            · have := hvc i (by omega)
              simpa using this
            · rw [List.getElem?_eq_none (by omega)]
      · simp at hx
    · simp at hx
  · simp only [M] at hm
    subst hm
    simp at hx
    obtain ⟨rfl, rfl, rfl⟩ := hx
    exact ⟨[], World.ownsRow_nil w 0 e size, by simp [Ms], by simp, .inl rfl⟩
  · simp at hx

theorem app_bx {b : Nat} {k : Option Nat} {cs : List AV} {σ : St} : (∀ q, q ≠ b → (blook q (((b, some cs) :: killK k) ++ σ.bx)).isSome → blook q (((b, some cs) :: killK k) ++ σ.bx) = blook q σ.bx) ∧
    (∀ cs', blook b (((b, some cs) :: killK k) ++ σ.bx) = some cs' → cs' = cs) := by
  refine ⟨fun q hq hs => ?_, fun cs' h => ?_⟩
  · cases k with
    | none => simp [killK, blook, hq]
    | some k =>
      simp [killK, blook, hq] at hs ⊢
      intro hqk
      subst hqk
      simp at hs
  · cases k <;> (simp [killK, blook] at h; exact h.symm)

theorem aeff_append (hT : TTab P T) (h : Sim X w0 E σ a w) {b nx : Nat} (hf : Free E σ b nx) {args : Array Operand} {argTypes : Array TypeId} {e : Eff} (o : Oper) (hd : ∀ t, o.dst = some t → t < σ.nt) (ho : o.op = .call ⟨.builtin .append, args, argTypes⟩) (hv : aeff T b σ o = some e) :
    Went P X w0 E σ a w b nx o.dst e (execOp a.eval o) := by
  simp only [aeff, ho] at hv
  split at hv
  · rename_i s x t u e1 e2
    split at hv
    · rename_i ti ui hti hui
      split at hv
      · rename_i el hdl
        split at hv
        · rename_i eti het
          split at hv
          · rename_i k n cs m news hds hsr
            split at hv
            · rename_i hc
              obtain ⟨h1, h2, h3, h4, h5, h6, h7⟩ := hc
              simp only [Option.some.injEq] at hv
              subst hv
              obtain ⟨d, hu, hod⟩ := (hT _ _ hti).und
              rw [hdl] at hod
              cases d <;> simp [TD.of] at hod
              rw [hod] at hu
              obtain ⟨d2, hu2, hod2⟩ := (hT _ _ hui).und
              have hni : ∀ k, d2 ≠ .int k := by
                intro k hk; subst hk; simp [TD.of] at hod2; rw [← hod2] at h7; simp [TD.isInt] at h7
              obtain ⟨i, z, hi, his, hib, hiz, hizc⟩ := (hT _ _ het).info
              have hzs : z.cells.size = i.size := by rw [his, ← h1, ← hizc]; simp
              obtain ⟨vs, hown, hms, hlive, hvv⟩ := dstOf_run h (h.ev s) hds
              obtain ⟨ns, hsrc, hmn⟩ := srcOf_run (P := P) h (h.ev x) hsr h4 h3
              rw [← his] at hown hsrc
              have hmx : n + m ≤ maxLen := by unfold maxLen; omega
              have hby : (n + m) * i.bytes ≤ 140737488355328 := by
                have : (n + m) * i.bytes ≤ 4294967296 * 1024 := Nat.mul_le_mul h5 (by omega)
                omega
              obtain ⟨v', w', hr, hown', hcase⟩ := run_app (P := P) (ty := o.type) hu ⟨d2, hu2, hni⟩ hi hiz hzs hown hsrc hmx hby
              have hrun : (execOp a.eval o).run P w = .ok (.value v') w' := by
                have ea : args = #[s, x] := Array.ext' (by simp [e1])
                have et : argTypes = #[t, u] := Array.ext' (by simp [e2])
                subst ea; subst et
                simp only [execOp, ho, resolve, invoke, builtin, Sem.run_bind, Sem.run_pure, Result.andThen_ok, List.map_toArray, List.map_cons, List.map_nil, hr]
              have hmall := hms.append hmn
              have hlen : (vs ++ ns).length = (n + m) * i.size := hown'.1
              rcases hcase with ⟨hv0, hm0, hv', hw'⟩ | ⟨cap, c, hv', hw'⟩ | ⟨g, cap, c, hv0, hv', hw'⟩
              · subst hv'; subst hw'
                have hn0 : n = 0 := by
                  rcases hown.2 with ⟨_, h8⟩ | ⟨g, cap, cur, h8, _⟩
                  · exact h8
                  · rw [hv0] at h8; simp at h8
                subst hm0; subst hn0
                have hz : (vs ++ ns) = [] := List.eq_nil_of_length_eq_zero (by simpa using hlen)
                have hcs0 : cs ++ news = [] := List.eq_nil_of_length_eq_zero (by rw [← hmall.len, hz]; rfl)
                obtain ⟨hg, hs⟩ := h.phantom (d := o.dst) (x := .sl b 0 0 eti.size (some el)) (v := .slice none 0 0) (b := b) (nx := nx) ((b, some (cs ++ news)) :: killK k) hd hf.a hf.p hf.lt hf.n app_bx.1
                  (fun cs' hcs' => by rw [app_bx.2 cs' hcs', hcs0]) (.inl ⟨rfl, .inl rfl, rfl, rfl, rfl⟩)
                exact ⟨_, _, _, _, near_ph b E, hrun, .inl rfl, hg, hs⟩
              · subst hv'; subst hw'
                rcases hown'.2 with ⟨h8, _⟩ | ⟨g', cap', cur, h8, _, hgg, hnc, hcm, hcs, htk⟩
                · simp at h8
                · simp at h8
                  obtain ⟨rfl, rfl⟩ := h8
                  have hnew : (w.drew.alloc (.cells c el)).heap[w.heap.size]? = some (.cells c el) := heap_alloc_new w.drew _
                  rw [hnew] at hgg
                  simp at hgg
                  obtain rfl := hgg
                  have hpre : ∀ i, i < (vs ++ ns).length → c[i]? = (vs ++ ns)[i]? := by
                    intro j hj
                    rw [← htk, List.getElem?_take, if_pos (by omega)]
                    simp
                  have := h.new (d := o.dst) (x := .sl b 0 (n + m) eti.size (some el)) (v := .slice (some ⟨w.heap.size, 0, none⟩) (n + m) cap) (b := b) (nx := nx) w.drew rfl rfl rfl rfl hd hf.a hf.p hf.lt hf.n (c := c) (ty := el) hmall (by rw [hlen, hcs]; exact Nat.mul_le_mul_right _ hnc) hpre
                    (sl_new (sz := 0) rfl hnc (by rw [hcs, his]) hcm) ((b, some (cs ++ news)) :: killK k) app_bx.1 app_bx.2
                  exact ⟨_, _, _, _, near_with _ _ _, hrun, .inl rfl, this.2⟩
              · subst hw'
                rcases hvv with h9 | ⟨g', cap', c0, ty, k', rfl, h9, hbl, hw0, hvl0⟩
                · rw [h9] at hv0; simp at hv0
                · rw [hv0] at h9
                  simp at h9
                  obtain ⟨rfl, rfl⟩ := h9
                  subst hv'
                  rcases hown.2 with ⟨h8, _⟩ | ⟨g1, cap1, cur1, h8, _, hgg1, _, _, hcs1, _⟩
                  · rw [hv0] at h8; simp at h8
                  · rw [hv0] at h8
                    simp at h8
                    obtain ⟨rfl, rfl⟩ := h8
                    rw [hw0] at hgg1
                    simp at hgg1
                    obtain ⟨rfl, rfl⟩ := hgg1
                    rcases hown'.2 with ⟨h8, _⟩ | ⟨g2, cap2, cur2, h8, _, hgg2, hnc, hcm, hcs2, htk⟩
                    · simp at h8
                    · simp at h8
                      obtain ⟨rfl, rfl⟩ := h8
                      rw [setRow_heap w g c0 c ty _ hw0] at hgg2
                      simp at hgg2
                      obtain rfl := hgg2
                      have hsz : c.size = c0.size := by rw [hcs2, hcs1]
                      have hpre : ∀ i, i < (vs ++ ns).length → c[i]? = (vs ++ ns)[i]? := by
                        intro j hj
                        rw [← htk, List.getElem?_take, if_pos (by omega)]
                        simp
                      have := h.setAs (d := o.dst) (x := .sl b 0 (n + m) eti.size (some ty)) (v := .slice (some ⟨g, 0, none⟩) (n + m) cap) (k := k') (b := b) (nx := nx) (c' := c) hd (hlive k' rfl) hbl hw0 hsz hf.a hf.p hf.lt hf.n hmall
                        (by rw [hlen, ← hsz, hcs2]; exact Nat.mul_le_mul_right _ hnc) hpre
                        (.inr (.inr ⟨g, cap, ty, c.size, by simp [Env.with], rfl, hnc, by simp [rowIn, setRow_heap w g c0 c ty _ hw0], by rw [hcs2, his]; omega, fun e' he' => by
                          simp at he'
                          exact ⟨he', rfl, by rw [hcs2, his], hcm⟩⟩))
                      exact ⟨_, _, _, _, near_with _ _ _, hrun, .inl rfl, this⟩
            · simp at hv
          · simp at hv
        · simp at hv
      · simp at hv
    · simp at hv
  · simp at hv

theorem aeff_copy (hT : TTab P T) (h : Sim X w0 E σ a w) {b nx : Nat} (hf : Free E σ b nx) {args : Array Operand} {argTypes : Array TypeId} {e : Eff} (o : Oper) (hd : ∀ t, o.dst = some t → t < σ.nt) (ho : o.op = .call ⟨.builtin .copy, args, argTypes⟩) (hv : aeff T b σ o = some e) :
    Went P X w0 E σ a w b nx o.dst e (execOp a.eval o) := by
  simp only [aeff, ho] at hv
  split at hv
  · rename_i s x t u e1 e2
    split at hv
    · rename_i ti hti
      split at hv
      · rename_i el hdl
        split at hv
        · rename_i eti k off n z gr het es
          split at hv
          · rename_i cs m news hk hsr
            split at hv
            · rename_i hc
              obtain ⟨rfl, h3, h4, h5, h6⟩ := hc
              simp only [Option.some.injEq] at hv
              subst hv
              obtain ⟨d, hu, hod⟩ := (hT _ _ hti).und
              rw [hdl] at hod
              cases d <;> simp [TD.of] at hod
              rw [hod] at hu
              have hsz := (hT _ _ het).run_size (P := P) w
              obtain ⟨ns, hsrc, hmn⟩ := srcOf_run (P := P) h (h.ev x) hsr h4 h3
              have hdst := h.ev s
              rw [es] at hdst
              have hnl := hmn.len
              have hlen := hsrc.len w
              have hcut := hsrc.upto w (min m n) (Nat.min_le_left _ _) rfl
              have hmt := hmn.take (min m n * eti.size)
              have hcut' : (Builtin.firstCells eti.size (m.min n) (a.eval x)).run P w = .ok ⟨ns.take (min m n * eti.size)⟩ w := hcut
              have htl : (ns.take (min m n * eti.size)).length = min m n * eti.size := by
                have : min m n * eti.size ≤ m * eti.size := Nat.mul_le_mul_right _ (Nat.min_le_left _ _)
                simp; omega
              have hone : ∀ u ∈ ns.take (min m n * eti.size), u.oneCell' = true := fun u hu => hsrc.one u (List.mem_of_mem_take hu)
              have hnm : min m n * eti.size ≤ n * eti.size := Nat.mul_le_mul_right _ (Nat.min_le_right _ _)
              have ea : args = #[s, x] := Array.ext' (by simp [e1])
              have et : argTypes = #[t, u] := Array.ext' (by simp [e2])
              subst ea; subst et
              have zero : ∀ ad cap, n = 0 → a.eval s = .slice ad 0 cap → (execOp a.eval o).run P w = .ok (.value (.int .i64 (min m n : Nat))) w := by
                intro ad cap hn hs
                subst hn
                have h0 : ns.take (min m 0 * eti.size) = [] := by simp
                rw [h0] at hcut'
                have hcut0 : (Builtin.firstCells eti.size 0 (a.eval x)).run P w = .ok #[] w := by
                  have : m.min 0 = 0 := Nat.min_zero m
                  rw [this] at hcut'; exact hcut'
                simp only [execOp, ho, resolve, invoke, builtin, Sem.run_bind, Sem.run_pure, Result.andThen_ok, List.map_toArray, List.map_cons, List.map_nil]
                rw [hs]
                cases ad <;> simp [Builtin.copy_, run_underlying hu, hlen, hsz, hcut0, storeCells, goInt]
              have keepbox : min m n * eti.size = 0 → splice cs off (news.take (min m n * eti.size)) = cs := by
                intro h0; simp [h0, splice]
              have hlive : (blook k σ.bx).isSome := by unfold aBox at hk; rw [hk]; rfl
              have same : ∀ x', n = 0 → (execOp a.eval o).run P w = .ok (.value x') w → M w E (.val (.int .i64 (min m n : Nat))) x' → Went P X w0 E σ a w b nx o.dst ⟨.val (.int .i64 (min m n : Nat)), [(k, some (splice cs off (news.take (min m n * eti.size))))]⟩ (execOp a.eval o) := by
                intro x' hn hr hm
                rw [keepbox (by simp [hn])]
                have bk : ∀ k', blook k' ([(k, some cs)] ++ σ.bx) = blook k' σ.bx := by
                  intro k'
                  simp only [List.cons_append, List.nil_append, blook]
                  split
                  · rename_i e; subst e; exact hk.symm
                  · rfl
                refine ⟨_, _, E, x', near_refl _ _, hr, .inl rfl, Grow.refl _ _, ?_⟩
                exact h.step ⟨fun _ _ h => h, fun _ h => h, fun _ h => h, fun _ h => h, fun _ _ h => h, fun _ _ => rfl⟩ hd hm (fun k' cs' hk' => h.bx k' cs' (by rw [← bk]; exact hk')) (fun k' g' hk' => h.own k' g' (by rw [← bk]; exact hk')) (fun k1 k2 g' h1 h2 => h.inj k1 k2 g' (by rw [← bk]; exact h1) (by rw [← bk]; exact h2)) h.lim h.keep (fun k hk => h.fr k (Nat.le_trans hf.le hk)) h.px
              rcases hdst with ⟨_, _, hn, _, hs⟩ | ⟨_, hn, ad, cap, hs⟩ | ⟨g, cap, ty, sz, hg, hs, hcap, hri, hle, _⟩
              · exact same _ hn (zero none 0 hn hs) rfl
              · exact same _ hn (zero ad cap hn hs) rfl
              · rcases box_vals h hk with ⟨rfl, hph⟩ | ⟨g', c, ty', vs, hg', hw, hvl, hvc, hms⟩
                · rw [h.px k hph] at hg; simp at hg
                · obtain rfl : g = g' := by rw [hg] at hg'; simpa using hg'
                  have hml := hms.len
                  have hfit : off + 0 + (ns.take (min m n * eti.size)).length ≤ c.size := by rw [htl]; omega
                  have hst := run_storeCells_at P g off ty' (ns.take (min m n * eti.size)) 0 c w hw hfit hone
                  simp only [Nat.add_zero] at hst
                  obtain ⟨p1, p2⟩ := vals_prefix (ns := ns.take (min m n * eti.size)) (off := off) hvl hvc (by rw [htl]; omega)
                  have hsp : Ms w E (splice cs off (news.take (min m n * eti.size))) (vs.take off ++ ns.take (min m n * eti.size) ++ vs.drop (off + (ns.take (min m n * eti.size)).length)) := by
                    unfold splice
                    rw [← hmt.len]
                    exact ((hms.take _).append hmt).append (hms.drop _)
                  have hs' := h.set (d := o.dst) (x := .val (.int .i64 (min m n : Nat))) (v := .int .i64 (min m n : Nat)) (nx := nx) hd hlive hg hw p1 hf.le hsp (by simp only [List.length_append, List.length_take, List.length_drop]; omega) p2 rfl
                  refine ⟨_, _, E, _, near_refl _ _, ?_, .inl rfl, Grow.refl _ _, hs'⟩
                  simp only [execOp, ho, resolve, invoke, builtin, Sem.run_bind, Sem.run_pure, Result.andThen_ok, List.map_toArray, List.map_cons, List.map_nil]
                  rw [hs]
                  simp [Builtin.copy_, run_underlying hu, hlen, hsz, hcut', hst, goInt]
            · simp at hv
          · simp at hv
        · simp at hv
      · simp at hv
    · simp at hv
  · simp at hv

/-- Whatever makes or writes memory. -/
theorem aeff_run (hT : TTab P T) (h : Sim X w0 E σ a w) {b nx : Nat} (hf : Free E σ b nx) {e : Eff} (o : Oper) (hd : ∀ t, o.dst = some t → t < σ.nt) (hv : aeff T b σ o = some e) :
    Went P X w0 E σ a w b nx o.dst e (execOp a.eval o) := by
  have hv0 := hv
  generalize ho : o.op = op at hv
  cases op
  case alloc => exact aeff_alloc hT h hf o hd ho hv0
  case box => exact aeff_box h hf o hd ho hv0
  case buildSlice => exact aeff_bs hT h hf o hd ho hv0
  case makeSlice => exact aeff_ms hT h hf o hd ho hv0
  case store => exact aeff_store hT h hf o hd ho hv0
  case convert => exact aeff_conv hT h hf o hd ho hv0
  case move x =>
    have key : x = .const (.slice none 0 0) := by
      cases x with
      | const u =>
        cases u with
        | slice ad n c =>
          cases ad with
          | none =>
            cases n with
            | zero =>
              cases c with
              | zero => rfl
              | succ c => simp [aeff, ho] at hv0
            | succ n => simp [aeff, ho] at hv0
          | some ad => simp [aeff, ho] at hv0
        | _ => simp [aeff, ho] at hv0
      | _ => simp [aeff, ho] at hv0
    subst key
    simp only [aeff, ho] at hv0
    split at hv0
    · split at hv0
      · split at hv0
        · simp at hv0; subst hv0
          exact aeff_nil h hf o.dst hd _ _ (by simp only [execOp, ho]; rfl)
        · simp at hv0
      · simp at hv0
    · simp at hv0
  case assign x =>
    have key : x = .const (.slice none 0 0) := by
      cases x with
      | const u =>
        cases u with
        | slice ad n c =>
          cases ad with
          | none =>
            cases n with
            | zero =>
              cases c with
              | zero => rfl
              | succ c => simp [aeff, ho] at hv0
            | succ n => simp [aeff, ho] at hv0
          | some ad => simp [aeff, ho] at hv0
        | _ => simp [aeff, ho] at hv0
      | _ => simp [aeff, ho] at hv0
    subst key
    simp only [aeff, ho] at hv0
    split at hv0
    · split at hv0
      · split at hv0
        · simp at hv0; subst hv0
          exact aeff_nil h hf o.dst hd _ _ (by simp only [execOp, ho]; rfl)
        · simp at hv0
      · simp at hv0
    · simp at hv0
  case call c =>
    obtain ⟨callee, args, argTypes⟩ := c
    cases callee
    case builtin bi =>
      cases bi
      case append => exact aeff_append hT h hf o hd ho hv0
      case copy => exact aeff_copy hT h hf o hd ho hv0
      all_goals (simp only [aeff, ho] at hv0; exact absurd hv0 (by simp))
    all_goals (simp only [aeff, ho] at hv0; exact absurd hv0 (by simp))
  all_goals (simp only [aeff, ho] at hv0; exact absurd hv0 (by simp))

end
end Go.Proofs.Ytdnmnafadondkaa
