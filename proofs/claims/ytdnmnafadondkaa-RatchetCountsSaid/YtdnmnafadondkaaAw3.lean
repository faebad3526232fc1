/- More operations that only compute: parts of a value, slices, numbers, equality. No condition. -/
import Derived.Test.YtdnmnafadondkaaAw2
set_option linter.unusedVariables false
set_option linter.unusedSimpArgs false
namespace Go.Proofs.Ytdnmnafadondkaa
open Go Go.RowKit

theorem run_partC {P : Program} {t : TypeId} {ti : TI} (ht : TOk P t ti) {w : World} {E : Env} {o : Nat} {vs : List Value} {cs : List AV} {x : AV}
    (hm : Ms w E cs vs) (hx : loadC ti cs o = some x) : ∃ v, (part t ⟨vs⟩ o).run P w = .ok v w ∧ M w E x v := by
  unfold loadC at hx
  unfold part
  simp only [Sem.run_bind, ht.run_agg, Result.andThen_ok]
  split at hx
  · rename_i hag
    split at hx
    · rename_i hlen
      simp only [Option.some.injEq] at hx
      subst hx
      have hle := hm.len
      refine ⟨.agg ⟨(vs.drop o).take ti.size⟩, ?_, _, rfl, (hm.drop o).take _⟩
      simp only [hag, if_true, Sem.run_bind, ht.run_size, Result.andThen_ok, Sem.run_pure]
      congr 2
      apply Array.ext'
      simp [List.extract_eq_take_drop]
    · simp at hx
  · rename_i hag
    have hx' : cs[o]? = some x := by
      cases hq : cs[o]? with
      | none => simp [hq] at hx
      | some y => cases y <;> simp_all
    obtain ⟨v, hv, hmv⟩ := hm.get hx'
    exact ⟨v, by simp [hag, hv], hmv⟩

theorem run_fieldV {P : Program} {t ft : TypeId} {ti fti : TI} (ht : TOk P t ti) (hf : TOk P ft fti) {fs : List (Nat × TypeId)} {i off : Nat} (hd : ti.d = .st fs) (hfs : fs[i]? = some (off, ft))
    {w : World} {E : Env} {cs : List AV} {av : AV} {v : Value} (hm : M w E (.agg cs) v) (hx : loadC fti cs off = some av) : ∃ u, (Instr.field t v i).run P w = .ok u w ∧ M w E av u := by
  obtain ⟨d, hu, ho⟩ := ht.und
  rw [hd] at ho
  cases d <;> simp [TD.of] at ho
  rename_i fields
  have hfi : ∃ f, fields[i]? = some f ∧ f.offset = off ∧ f.type = ft := by
    rw [← ho] at hfs
    cases hq : fields[i]? with
    | none => simp [hq] at hfs
    | some f => simp [hq] at hfs; exact ⟨f, rfl, hfs⟩
  obtain ⟨f, hf1, rfl, rfl⟩ := hfi
  obtain ⟨vs, rfl, hms⟩ := hm
  obtain ⟨u, hr, hmu⟩ := run_partC hf hms hx
  exact ⟨u, by simp [Instr.field, run_underlying hu, hf1, asAgg, hr], hmu⟩

theorem run_indexV {P : Program} {t e : TypeId} {ti eti : TI} {n : Nat} (ht : TOk P t ti) (he : TOk P e eti) (hd : ti.d = .arr n e)
    {w : World} {E : Env} {cs : List AV} {av : AV} {v : Value} {k : IntKind} {i : Int} (hm : M w E (.agg cs) v) (hi : 0 ≤ i ∧ i < n) (hx : loadC eti cs (i.toNat * eti.size) = some av) :
    ∃ u, (Instr.index t v (.int k i)).run P w = .ok u w ∧ M w E av u := by
  obtain ⟨d, hu, ho⟩ := ht.und
  rw [hd] at ho
  cases d <;> simp [TD.of] at ho
  obtain ⟨rfl, rfl⟩ := ho
  obtain ⟨vs, rfl, hms⟩ := hm
  obtain ⟨u, hr, hmu⟩ := run_partC he hms hx
  exact ⟨u, by simp [Instr.index, asIntOf, run_underlying hu, hi.1, hi.2, he.run_size (P := P) w, hr], hmu⟩

theorem run_indexS {P : Program} {t : TypeId} {ti : TI} (ht : TOk P t ti) (hd : ti.d = .str)
    {w : World} {s : ByteArray} {k : IntKind} {i : Int} {b : UInt8} (h0 : 0 ≤ i) (hb : s.data.toList[i.toNat]? = some b) :
    (Instr.index t (.string s) (.int k i)).run P w = .ok (.int .u8 b.toNat) w := by
  obtain ⟨d, hu, ho⟩ := ht.und
  rw [hd] at ho
  cases d <;> simp [TD.of] at ho
  have hs : s[i.toNat]? = some b := by
    obtain ⟨hl, hv⟩ := List.getElem?_eq_some_iff.1 hb
    have hl' : i.toNat < s.size := by simpa using hl
    rw [getElem?_pos s i.toNat hl']
    simp at hv
    exact congrArg some hv
  simp [Instr.index, asIntOf, run_underlying hu, h0, hs]

/-! Slicing -/

def aBound (x : Option AV) (dflt : Nat) : Option Nat :=
  match x with
  | none => some dflt
  | some (.val (.int _ i)) => if 0 ≤ i then some i.toNat else none
  | _ => none

/-- x[lo:hi] and x[lo:hi:hi] within the length. -/
def aSlice (ti eti : TI) (bx : Nat → Option (List AV)) (x : AV) (lo hi mx : Option AV) : Option AV :=
  match ti.d, x with
  | .sl _, .sl k off n esz _ =>
    match aBound hi n, aBound lo 0, aBound mx n with
    | some h, some l, some m => if esz = eti.size ∧ l ≤ h ∧ h ≤ m ∧ m ≤ n ∧ (mx.isSome → hi.isSome) then some (.sl k (off + l * esz) (h - l) esz none) else none
    | _, _, _ => none
  | .sl _, .ds b n cs =>
    match aBound hi n, aBound lo 0, aBound mx n with
    | some h, some l, some m => if l ≤ h ∧ h ≤ m ∧ m ≤ n ∧ (mx.isSome → hi.isSome) then some (.ds b (h - l) ((cs.drop (l * eti.size)).take ((h - l) * eti.size))) else none
    | _, _, _ => none
  | .arr n _, .ptr k off =>
    match aBound hi n, aBound lo 0, bx k with
    | some h, some l, some cs => if mx.isNone ∧ l ≤ h ∧ h ≤ n ∧ off + n * eti.size ≤ cs.length ∧ eti.size ≠ 0 then some (.sl k (off + l * eti.size) (h - l) eti.size none) else none
    | _, _, _ => none
  | .arr n _, .dp b cs =>
    match aBound hi n, aBound lo 0 with
    | some h, some l => if mx.isNone ∧ l ≤ h ∧ h ≤ n then some (.ds b (h - l) ((cs.drop (l * eti.size)).take ((h - l) * eti.size))) else none
    | _, _ => none
  | _, _ => none

theorem run_bound {P : Program} {w : World} {E : Env} {x : AV} {v : Value} {d n y : Nat} (c : BoundsCode) (hm : M w E x v) (hx : aBound (some x) d = some n) (hy : n ≤ y) :
    (Instr.sliceBound v y c).run P w = .ok n w := by
  cases x <;> simp [aBound] at hx
  rename_i u
  cases u <;> simp at hx
  rename_i k i
  obtain ⟨h0, rfl⟩ := hx
  simp only [M] at hm
  subst hm
  have : i ≤ (y : Int) := by omega
  simp [Instr.sliceBound, asIntOf, h0, this]

/-- Bounds that are there or not, and the operands' values. -/
def Mo (w : World) (E : Env) : Option AV → Option Value → Prop
  | none, none => True
  | some x, some v => M w E x v
  | _, _ => False

theorem run_bounds {P : Program} {w : World} {E : Env} {lo hi mx : Option AV} {vlo vhi vmx : Option Value} {b : Bool} {n cap l h m : Nat}
    (hlo : Mo w E lo vlo) (hhi : Mo w E hi vhi) (hmx : Mo w E mx vmx) (el : aBound lo 0 = some l) (eh : aBound hi n = some h) (em : aBound mx n = some m)
    (h1 : l ≤ h) (h2 : h ≤ m) (h3 : m ≤ n) (h4 : mx.isSome → hi.isSome) (h5 : n ≤ cap) :
    ∃ m', (Instr.sliceBounds b n cap vlo vhi vmx).run P w = .ok (l, h, m') w ∧ h ≤ m' ∧ m' ≤ cap := by
  cases mx with
  | some x =>
    cases hi with
    | none => simp at h4
    | some y =>
      cases vmx <;> simp only [Mo] at hmx
      cases vhi <;> simp only [Mo] at hhi
      refine ⟨m, ?_, h2, by omega⟩
      have r1 := run_bound (P := P) (y := cap) (if b then BoundsCode.slice3Acap else .slice3Alen) hmx em (by omega)
      have r2 := run_bound (P := P) (y := m) BoundsCode.slice3B hhi eh (by omega)
      cases lo with
      | none =>
        cases vlo <;> simp only [Mo] at hlo
        simp [aBound] at el
        simp [Instr.sliceBounds, r1, r2, el]
      | some z =>
        cases vlo <;> simp only [Mo] at hlo
        have r3 := run_bound (P := P) (y := h) BoundsCode.slice3C hlo el (by omega)
        simp [Instr.sliceBounds, r1, r2, r3]
  | none =>
    cases vmx <;> simp only [Mo] at hmx
    refine ⟨cap, ?_, by omega, by omega⟩
    cases hi with
    | none =>
      cases vhi <;> simp only [Mo] at hhi
      simp [aBound] at eh
      subst eh
      cases lo with
      | none =>
        cases vlo <;> simp only [Mo] at hlo
        simp [aBound] at el
        simp [Instr.sliceBounds, el]
      | some z =>
        cases vlo <;> simp only [Mo] at hlo
        have r3 := run_bound (P := P) (y := n) BoundsCode.sliceB hlo el (by omega)
        simp [Instr.sliceBounds, r3]
    | some y =>
      cases vhi <;> simp only [Mo] at hhi
      have r2 := run_bound (P := P) (y := cap) (if b then BoundsCode.sliceAcap else .sliceAlen) hhi eh (by omega)
      cases lo with
      | none =>
        cases vlo <;> simp only [Mo] at hlo
        simp [aBound] at el
        simp [Instr.sliceBounds, r2, el]
      | some z =>
        cases vlo <;> simp only [Mo] at hlo
        have r3 := run_bound (P := P) (y := h) BoundsCode.sliceB hlo el (by omega)
        simp [Instr.sliceBounds, r2, r3]

theorem run_slice {P : Program} {t e : TypeId} {ti eti : TI} (ht : TOk P t ti) (he : TOk P e eti) (hd : ti.d.elem = some e)
    {w : World} {E : Env} {bx : Nat → Option (List AV)} (hbx : ∀ k cs, bx k = some cs → boxAt w E k cs) {x av : AV} {v : Value} {lo hi mx : Option AV} {vlo vhi vmx : Option Value}
    (hm : M w E x v) (hlo : Mo w E lo vlo) (hhi : Mo w E hi vhi) (hmx : Mo w E mx vmx) (hx : aSlice ti eti bx x lo hi mx = some av) :
    ∃ u, (Instr.sliceAt t v vlo vhi vmx).run P w = .ok u w ∧ M w E av u := by
  obtain ⟨d, hu, ho⟩ := ht.und
  have hsz := he.run_size (P := P) w
  unfold aSlice at hx
  split at hx
  · rename_i e' k off n esz gr hde
    rw [hde] at ho hd
    simp [TD.elem] at hd
    subst hd
    cases d <;> simp [TD.of] at ho
    subst ho
    split at hx
    · rename_i h l m eh el em
      split at hx
      · rename_i hc
        obtain ⟨rfl, h1, h2, h3, h4⟩ := hc
        simp at hx; subst hx
        rcases hm with ⟨_, _, rfl, rfl, rfl⟩ | ⟨_, rfl, a, cap, rfl⟩ | ⟨g, cap, ty, sz, hg, rfl, hcap, hr, hle, _⟩
        · obtain ⟨m', hb, hm1, hm2⟩ := run_bounds (P := P) (b := true) (cap := 0) hlo hhi hmx el eh em h1 h2 h3 h4 (by omega)
          exact ⟨_, by simp [Instr.sliceAt, Instr.slice, run_underlying hu, hb, hsz]; rfl, .inr (.inl ⟨rfl, by omega, by
            have : h - l = 0 := by omega
            rw [this]; exact ⟨_, _, rfl⟩⟩)⟩
        · obtain ⟨m', hb, hm1, hm2⟩ := run_bounds (P := P) (b := true) (cap := cap) hlo hhi hmx el eh em h1 h2 h3 h4 (by omega)
          exact ⟨_, by simp [Instr.sliceAt, Instr.slice, run_underlying hu, hb, hsz]; rfl, .inr (.inl ⟨rfl, by omega, by
            have : h - l = 0 := by omega
            rw [this]; exact ⟨_, _, rfl⟩⟩)⟩
        · obtain ⟨m', hb, hm1, hm2⟩ := run_bounds (P := P) (b := true) (cap := cap) hlo hhi hmx el eh em h1 h2 h3 h4 hcap
          refine ⟨_, by simp [Instr.sliceAt, Instr.slice, run_underlying hu, hb, hsz]; rfl, ?_⟩
          by_cases hz : h - l = 0
          · exact .inr (.inl ⟨rfl, hz, by rw [hz]; exact ⟨_, _, rfl⟩⟩)
          · have hne : m' ≠ l := by omega
            refine .inr (.inr ⟨g, m' - l, ty, sz, hg, ?_, by omega, hr, ?_, by simp⟩)
            · simp [hne, addr_add]
            · have : (m' - l) * eti.size + l * eti.size ≤ cap * eti.size := by
                rw [← Nat.add_mul]; exact Nat.mul_le_mul_right _ (by omega)
              omega
      · simp at hx
    · simp at hx
  · rename_i e' b n cs hde
    rw [hde] at ho hd
    simp [TD.elem] at hd
    subst hd
    cases d <;> simp [TD.of] at ho
    subst ho
    split at hx
    · rename_i h l m eh el em
      split at hx
      · rename_i hc
        obtain ⟨h1, h2, h3, h4⟩ := hc
        simp at hx; subst hx
        rcases hm with ⟨rfl, rfl, a, cap, rfl⟩ | ⟨g, off, cap, vs, rfl, hcap, hok, hcs, hms⟩
        · obtain ⟨m', hb, hm1, hm2⟩ := run_bounds (P := P) (b := true) (cap := cap) hlo hhi hmx el eh em h1 h2 h3 h4 (by omega)
          exact ⟨_, by simp [Instr.sliceAt, Instr.slice, run_underlying hu, hb, hsz]; rfl, .inl ⟨by omega, by simp, by
            have : h - l = 0 := by omega
            rw [this]; exact ⟨_, _, rfl⟩⟩⟩
        · obtain ⟨m', hb, hm1, hm2⟩ := run_bounds (P := P) (b := true) (cap := cap) hlo hhi hmx el eh em h1 h2 h3 h4 hcap
          refine ⟨_, by simp [Instr.sliceAt, Instr.slice, run_underlying hu, hb, hsz]; rfl, ?_⟩
          by_cases hz : h - l = 0
          · exact .inl ⟨hz, by simp [hz], by rw [hz]; exact ⟨_, _, rfl⟩⟩
          · have hne : m' ≠ l := by omega
            refine .inr ⟨g, off + l * eti.size, m' - l, _, ?_, by omega, hok, (hcs.drop _).take _, (hms.drop _).take _⟩
            simp [hne, addr_add]
      · simp at hx
    · simp at hx
  · rename_i n e' k off hde
    rw [hde] at ho hd
    simp [TD.elem] at hd
    subst hd
    cases d <;> simp [TD.of] at ho
    rename_i n0 _
    obtain ⟨rfl, rfl⟩ := ho
    split at hx
    · rename_i h l cs eh el hk
      split at hx
      · rename_i hc
        obtain ⟨h0, h1, h2, h3, h4⟩ := hc
        simp at hx; subst hx
        cases mx <;> simp at h0
        cases vmx <;> simp only [Mo] at hmx
        obtain ⟨g, hg, rfl⟩ := hm
        obtain ⟨m', hb, hm1, hm2⟩ := run_bounds (P := P) (b := false) (mx := none) (vmx := none) hlo hhi trivial el eh rfl h1 h2 (Nat.le_refl _) (by simp) (Nat.le_refl _)
        refine ⟨_, by simp [Instr.sliceAt, run_underlying hu, Instr.sureAddr, hb, hsz]; rfl, ?_⟩
        by_cases hz : h - l = 0
        · exact .inr (.inl ⟨rfl, hz, by rw [hz]; exact ⟨_, _, rfl⟩⟩)
        · have hne : m' ≠ l := by omega
          rcases hbx k cs hk with ⟨_, rfl⟩ | ⟨g', c, ty, vs, hg', hw, hl, _, hms⟩
          · exfalso
            have : n0 * eti.size ≠ 0 := Nat.mul_ne_zero (by omega) h4
            simp at h3
            omega
          · obtain rfl : g = g' := by rw [hg] at hg'; simpa using hg'
            refine .inr (.inr ⟨g, m' - l, ty, c.size, hg, by simp [hne, addr_add], by omega, by simp [rowIn, hw], ?_, by simp⟩)
            have : (m' - l) * eti.size + l * eti.size ≤ n0 * eti.size := by
              rw [← Nat.add_mul]; exact Nat.mul_le_mul_right _ (show m' - l + l ≤ n0 by omega)
            have := hms.len
            omega
      · simp at hx
    · simp at hx
  · rename_i n e' b cs hde
    rw [hde] at ho hd
    simp [TD.elem] at hd
    subst hd
    cases d <;> simp [TD.of] at ho
    obtain ⟨rfl, rfl⟩ := ho
    split at hx
    · rename_i h l eh el
      split at hx
      · rename_i hc
        obtain ⟨h0, h1, h2⟩ := hc
        simp at hx; subst hx
        cases mx <;> simp at h0
        cases vmx <;> simp only [Mo] at hmx
        obtain ⟨g, off, vs, rfl, hok, hcs, hms⟩ := hm
        obtain ⟨m', hb, hm1, hm2⟩ := run_bounds (P := P) (b := false) (mx := none) (vmx := none) hlo hhi trivial el eh rfl h1 h2 (Nat.le_refl _) (by simp) (Nat.le_refl _)
        refine ⟨_, by simp [Instr.sliceAt, run_underlying hu, Instr.sureAddr, hb, hsz]; rfl, ?_⟩
        by_cases hz : h - l = 0
        · exact .inl ⟨hz, by simp [hz], by rw [hz]; exact ⟨_, _, rfl⟩⟩
        · have hne : m' ≠ l := by omega
          exact .inr ⟨g, off + l * eti.size, m' - l, _, by simp [hne, addr_add], by omega, hok, (hcs.drop _).take _, (hms.drop _).take _⟩
      · simp at hx
    · simp at hx
  · simp at hx

/-! ### Numbers and strings -/

def binI (op : BinOp) (k : IntKind) (a b : Int) : Option Value :=
  match op with
  | .add => some (.int k (k.wrap (a + b)))
  | .sub => some (.int k (k.wrap (a - b)))
  | .mul => some (.int k (k.wrap (a * b)))
  | .quo => if b = 0 then none else some (.int k (k.wrap (a.tdiv b)))
  | .rem => if b = 0 then none else some (.int k (a.tmod b))
  | .and => some (.int k (k.wrap (BitVec.ofInt k.bits a &&& BitVec.ofInt k.bits b).toNat))
  | .or => some (.int k (k.wrap (BitVec.ofInt k.bits a ||| BitVec.ofInt k.bits b).toNat))
  | .xor => some (.int k (k.wrap (BitVec.ofInt k.bits a ^^^ BitVec.ofInt k.bits b).toNat))
  | .andNot => some (.int k (k.wrap (BitVec.ofInt k.bits a &&& ~~~ BitVec.ofInt k.bits b).toNat))
  | .eql => some (.bool (decide (a = b)))
  | .neq => some (.bool (!decide (a = b)))
  | .lss => some (.bool (decide (a < b)))
  | .leq => some (.bool (decide (a ≤ b)))
  | .gtr => some (.bool (decide (a > b)))
  | .geq => some (.bool (decide (a ≥ b)))
  | _ => none

/-- A binary operation on two numbers or two strings. -/
def aBin (op : BinOp) (x y : Value) : Option Value :=
  match op, x, y with
  | .shl, .int k a, .int _ b => if b < 0 then none else some (.int k (k.wrap (a * 2 ^ (min b.toNat k.bits))))
  | .shr, .int k a, .int _ b => if b < 0 then none else some (.int k (a.fdiv (2 ^ (min b.toNat k.bits))))
  | op, .int k a, .int k' b => if k = k' then binI op k a b else none
  | .eql, .string a, .string b => some (.bool (a.toList == b.toList))
  | .neq, .string a, .string b => some (.bool (!(a.toList == b.toList)))
  | .add, .string a, .string b => if (a.size + b.size : Int) > 9223372036854775807 then none else some (.string (a ++ b))
  | _, _, _ => none

theorem run_bin {P : Program} {w : World} {op : BinOp} {t : TypeId} {x y v : Value} (hx : aBin op x y = some v) (ox oy : Operand) :
    (do eqGuard op t ox oy x y; binOp op t x y).run P w = .ok v w := by
  cases x <;> cases y <;> (try (cases op <;> simp [aBin] at hx; done))
  · rename_i k a k' b
    cases op
    case shl =>
      simp only [aBin] at hx; split at hx
      · simp at hx
      · rename_i h; simp at hx; subst hx; simp [eqGuard, binOp, Op.shift, h]
    case shr =>
      simp only [aBin] at hx; split at hx
      · simp at hx
      · rename_i h; simp at hx; subst hx; simp [eqGuard, binOp, Op.shift, h]
    all_goals
      simp only [aBin] at hx
      split at hx
      · rename_i hk
        subst hk
        simp only [binI] at hx
        first
          | (simp at hx; subst hx; simp [eqGuard, binOp, Op.intArith, Op.intBits, Op.intCmp]; done)
          | (split at hx
             · simp at hx
             · rename_i h; simp at hx; subst hx; simp [eqGuard, binOp, Op.intDiv, h])
          | (simp at hx; subst hx; simp [eqGuard, binOp, Op.intCmp, BEq.beq, bne]; done)
          | simp at hx
      · simp at hx
  · rename_i a b
    cases op <;> simp [aBin] at hx
    · obtain ⟨h1, rfl⟩ := hx
      have h2 : ¬ ((a.size + b.size : Nat) : Int) > IntKind.i64.max := by
        have : IntKind.i64.max = 9223372036854775807 := by decide
        omega
      simp [eqGuard, binOp, Op.stringOp, IntKind.max, IntKind.signed, IntKind.bits]
      omega
    · subst hx; simp [eqGuard, binOp, Op.stringOp]
    · subst hx; simp [eqGuard, binOp, Op.stringOp]

end Go.Proofs.Ytdnmnafadondkaa
