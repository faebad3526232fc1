/- The operations that only compute do what the abstract state says. No condition. -/
import Derived.Test.YtdnmnafadondkaaAw6
set_option linter.unusedVariables false
set_option linter.unusedSimpArgs false
namespace Go.Proofs.Ytdnmnafadondkaa
open Go Go.RowKit

section
variable {P : Program} {T : TypeId → Option TI} {eqt : List TypeId} {X : Nat → Prop} {w0 : World} {E : Env} {σ : St} {a : Act} {w : World}

def Gives (P : Program) (w : World) (E : Env) (s : Sem Next) (x : AV) : Prop := ∃ v, s.run P w = .ok (.value v) w ∧ M w E x v

theorem gives_of {s : Sem Value} {x : AV} (h : ∃ v, s.run P w = .ok v w ∧ M w E x v) : Gives P w E (do pure (.value (← s))) x := by
  obtain ⟨v, hr, hm⟩ := h
  exact ⟨v, by simp [hr], hm⟩

theorem ptr_cells (h : Sim X w0 E σ a w) {k off : Nat} {cs : List AV} (hk : aBox σ k = some cs) {v : Value} (hm : M w E (.ptr k off) v) (hne : cs ≠ []) :
    ∃ g vs, v = .pointer (some ⟨g, off, none⟩) ∧ cellsAt w g 0 vs ∧ Ms w E cs vs := by
  obtain ⟨g, hg, rfl⟩ := hm
  rcases h.bx k cs hk with ⟨_, rfl⟩ | ⟨g', c, ty, vs, hg', hw, hl, hc, hms⟩
  · exact absurd rfl hne
  · obtain rfl : g = g' := by rw [hg] at hg'; simpa using hg'
    exact ⟨g, vs, rfl, ⟨c, ty, _, hw, fun i hi => by simpa using hc i hi⟩, hms⟩

theorem loadC_ne {ti : TI} {cs : List AV} {off : Nat} {x : AV} (h : loadC ti cs off = some x) (hs : ti.d.isAgg = true → 0 < ti.size) : cs ≠ [] := by
  rintro rfl
  unfold loadC at h
  split at h
  · rename_i ha
    have := hs ha
    split at h
    · simp at *; omega
    · simp at h
  · simp at h

theorem aval_pick (h : Sim X w0 E σ a w) {c x y : Operand} {r : AV} (hv : aval T eqt σ (.pick c x y) = some r) (o : Oper) (ho : o.op = .pick c x y) : Gives P w E (execOp a.eval o) r := by
  have hc := h.ev c
  have hx := h.ev x
  have hy := h.ev y
  simp only [aval] at hv
  simp only [execOp, ho]

  split at hv
  · rename_i t e1
    rw [e1] at hc
    simp only [M] at hc
    split at hv
    · rename_i p q e2 e3
      rw [e2] at hx; rw [e3] at hy
      simp only [M] at hx hy
      simp at hv
      subst hv
      exact ⟨_, by simp [hc, asBool, hx, hy]; rfl, by cases t <;> simp [M, hx, hy]⟩
    · split at hv
      · rename_i ht
        have := known_eq hv; subst this
        exact ⟨a.eval x, by simp [hc, asBool, ht], hx⟩
      · rename_i ht
        have := known_eq hv; subst this
        exact ⟨a.eval y, by simp [hc, asBool, ht], hy⟩
  · simp at hv

theorem aval_load (hT : Tab P T eqt) (h : Sim X w0 E σ a w) {t : TypeId} {x : Operand} {r : AV} (hv : aval T eqt σ (.load t x) = some r) (o : Oper) (ho : o.op = .load t x) : Gives P w E (execOp a.eval o) r := by
  have hx := h.ev x
  simp only [aval] at hv
  simp only [execOp, ho]

  split at hv
  · rename_i ti hti
    have ht := hT.t _ _ hti
    split at hv
    · rename_i k off e1
      rw [e1] at hx
      split at hv
      · rename_i cs hk
        obtain ⟨g, hg, hp⟩ := hx
        rcases h.bx k cs hk with ⟨_, rfl⟩ | ⟨g', c, ty, vs, hg', hw, hl, hc, hms⟩
        · -- a phantom holds no cell: only a load of no cells could be meant
          unfold loadC at hv
          split at hv
          · split at hv
            · rename_i hag hle
              simp at hv hle
              subst hv
              obtain ⟨h1, h2⟩ := hle
              refine gives_of ⟨.agg #[], ?_, [], rfl, rfl⟩
              simp only [hp, Instr.loadAt, Instr.sureAddr, loadVar, Sem.run_bind, Sem.run_pure, Result.andThen_ok, ht.run_agg, hag, if_true, ht.run_size, h2]
              simp [loadCells, loadCellsFrom]
            · simp at hv
          · simp at hv
        · obtain rfl : g = g' := by rw [hg] at hg'; simpa using hg'
          have hcl : cellsAt w g 0 vs := ⟨c, ty, _, hw, fun i hi => by simpa using hc i hi⟩
          obtain ⟨v, hr, hm⟩ := run_loadC ht hcl hms hv
          refine gives_of ⟨v, ?_, hm⟩
          simp only [hp, Instr.loadAt, Instr.sureAddr, Sem.run_bind, Sem.run_pure, Result.andThen_ok]
          simpa using hr
      · simp at hv
    · rename_i b cs e1
      rw [e1] at hx
      obtain ⟨g, off, vs, hp, hok, hcl, hms⟩ := hx
      obtain ⟨v, hr, hm⟩ := run_loadC ht hcl hms hv
      refine gives_of ⟨v, ?_, hm⟩
      simp only [hp, Instr.loadAt, Instr.sureAddr, Sem.run_bind, Sem.run_pure, Result.andThen_ok]
      simpa using hr
    · simp at hv
  · simp at hv

theorem aval_nil (h : Sim X w0 E σ a w) {x : Operand} {r : AV} (hv : aval T eqt σ (.nilCheck x) = some r) (o : Oper) (ho : o.op = .nilCheck x) : Gives P w E (execOp a.eval o) r := by
  have hx := h.ev x
  simp only [aval] at hv
  simp only [execOp, ho]

  split at hv <;> simp at hv <;> rename_i e1 <;> rw [e1] at hx <;> subst hv
  · obtain ⟨g, hg, hp⟩ := hx
    exact ⟨_, by simp [hp], g, hg, rfl⟩
  · obtain ⟨g, off, vs, hp, hok, hcl, hms⟩ := hx
    exact ⟨_, by simp [hp], g, off, vs, rfl, hok, hcl, hms⟩
  · obtain ⟨vs, hp, hms⟩ := hx
    exact ⟨_, by simp [hp], vs, rfl, hms⟩
  · simp only [M] at hx
    exact ⟨_, by simp [hx], rfl⟩
  · simp only [M] at hx
    exact ⟨_, by simp [hx], rfl⟩

theorem aval_bin (hT : Tab P T eqt) (h : Sim X w0 E σ a w) {op : BinOp} {t ty : TypeId} {x y : Operand} {r : AV} (hv : aval T eqt σ (.binOp op t x y ty) = some r) (o : Oper) (ho : o.op = .binOp op t x y ty) : Gives P w E (execOp a.eval o) r := by
  have hx := h.ev x
  have hy := h.ev y
  simp only [execOp, ho]

  have eqcase : ∀ r, (match op with
      | .eql => (aEql T eqt t (σ.ev x) (σ.ev y)).map fun r => AV.val (.bool r)
      | .neq => (aEql T eqt t (σ.ev x) (σ.ev y)).map fun r => AV.val (.bool (!r))
      | _ => none) = some r → ∃ v, (do eqGuard op t x y (a.eval x) (a.eval y); binOp op t (a.eval x) (a.eval y)).run P w = .ok v w ∧ M w E r v := by
    intro r hr
    cases op <;> simp only [Option.map_eq_some_iff, reduceCtorEq] at hr
    · obtain ⟨b, hb, rfl⟩ := hr
      exact ⟨_, (run_aEql hT.t hT.e hx hy hb x y).1, rfl⟩
    · obtain ⟨b, hb, rfl⟩ := hr
      exact ⟨_, (run_aEql hT.t hT.e hx hy hb x y).2, rfl⟩
  refine gives_of ?_
  simp only [aval] at hv
  split at hv
  · rename_i u v e1 e2
    split at hv
    · rename_i q hq
      simp at hv
      subst hv
      have hx' := hx; have hy' := hy
      rw [e1] at hx'; rw [e2] at hy'
      simp only [M] at hx' hy'
      exact ⟨q, by rw [hx', hy']; exact run_bin hq x y, rfl⟩
    · rw [e1, e2] at eqcase
      exact eqcase r hv
  · exact eqcase r hv

theorem aval_un (h : Sim X w0 E σ a w) {op : UnOp} {t : TypeId} {x : Operand} {r : AV} (hv : aval T eqt σ (.unOp op t x) = some r) (o : Oper) (ho : o.op = .unOp op t x) : Gives P w E (execOp a.eval o) r := by
  have hx := h.ev x
  simp only [aval] at hv
  simp only [execOp, ho]

  split at hv
  · rename_i b e1
    simp at hv
    rw [e1] at hx
    simp only [M] at hx
    subst hv
    exact ⟨_, by simp [hx, Op.unary], rfl⟩
  · rename_i k n e1
    simp at hv
    rw [e1] at hx
    simp only [M] at hx
    subst hv
    exact ⟨_, by simp [hx, Op.unary, Op.intArith]; rfl, by simp [M]⟩
  · rename_i k n e1
    simp [binI] at hv
    rw [e1] at hx
    simp only [M] at hx
    subst hv
    exact ⟨_, by simp [hx, Op.unary, Op.intBits]; rfl, by simp [M]⟩
  · simp at hv

theorem bytes_run (hT : Tab P T eqt) {s d e : TypeId} {si di ei : TI} (hs : T s = some si) (hd : T d = some di) (he : T e = some ei) (h1 : si.d = .sl e) (h2 : di.d = .str) (h3 : ei.d = .int .u8)
    {g off n cap : Nat} {vs : List Value} {cs : List AV} {bs : List UInt8} (hcl : cellsAt w g off vs) (hm : Ms w E cs vs) (hl : cs.length = n) (hb : bytesOf cs = some bs) :
    (convert s d (.slice (some ⟨g, off, none⟩) n cap)).run P w = .ok (.string ⟨bs.toArray⟩) w := by
  obtain ⟨d1, hu1, ho1⟩ := (hT.t _ _ hs).und
  obtain ⟨d2, hu2, ho2⟩ := (hT.t _ _ hd).und
  obtain ⟨d3, hu3, ho3⟩ := (hT.t _ _ he).und
  rw [h1] at ho1; rw [h2] at ho2; rw [h3] at ho3
  cases d1 <;> simp [TD.of] at ho1
  cases d2 <;> simp [TD.of] at ho2
  cases d3 <;> simp [TD.of] at ho3
  subst ho1; subst ho3
  obtain ⟨ns, rfl, rfl⟩ := Ms_bytes hm hb
  have hlen : ns.length = n := by have := hm.len; simp at this; omega
  have := run_convert_bytes_arg (P := P) w s _ hu1 hu3 g off n cap ns hlen (fun i hi => by
    refine hcl.cell ?_
    have : i < ns.length := by omega
    simp [List.getElem?_eq_getElem this]) d hu2
  rw [this]
  rfl

theorem aval_conv (hT : Tab P T eqt) (h : Sim X w0 E σ a w) {s d : TypeId} {x : Operand} {r : AV} (hv : aval T eqt σ (.convert s d x) = some r) (o : Oper) (ho : o.op = .convert s d x) : Gives P w E (execOp a.eval o) r := by
  have hx := h.ev x
  simp only [aval] at hv
  simp only [execOp, ho]
  refine gives_of ?_
  split at hv
  · rename_i si di k n hs hd e1
    rw [e1] at hx
    simp only [M] at hx
    obtain ⟨d1, hu1, ho1⟩ := (hT.t _ _ hs).und
    obtain ⟨d2, hu2, ho2⟩ := (hT.t _ _ hd).und
    split at hv
    · rename_i k' hk
      simp at hv
      subst hv
      rw [hk] at ho2
      cases d2 <;> simp [TD.of] at ho2
      subst ho2
      exact ⟨_, by simp [hx, convert, run_underlying hu1, run_underlying hu2, Conv.intToInt], rfl⟩
    · simp at hv
  · rename_i si di s' hs hd e1
    rw [e1] at hx
    simp only [M] at hx
    obtain ⟨d1, hu1, ho1⟩ := (hT.t _ _ hs).und
    obtain ⟨d2, hu2, ho2⟩ := (hT.t _ _ hd).und
    split at hv
    · rename_i hk
      simp at hv
      subst hv
      rw [hk] at ho2
      cases d2 <;> simp [TD.of] at ho2
      exact ⟨.string s', by simp [hx, convert, run_underlying hu1, run_underlying hu2], rfl⟩
    · simp at hv
  · rename_i si di x' hs hd e1 e2
    split at hv
    · rename_i e k off n z gr h1 h2 e3
      split at hv
      · rename_i ei cs he hk
        split at hv
        · rename_i hc
          obtain ⟨h3, rfl, hle⟩ := hc
          simp only [Option.map_eq_some_iff] at hv
          obtain ⟨bs, hb, rfl⟩ := hv
          rw [e3] at hx
          have nilcase : n = 0 → ∀ a0 cap, a.eval x = .slice a0 0 cap → ∃ v, (convert s d (a.eval x)).run P w = .ok v w ∧ M w E (.val (.string ⟨bs.toArray⟩)) v := by
            intro hn a0 cap hv
            subst hn
            simp [bytesOf] at hb
            subst hb
            obtain ⟨d1, hu1, ho1⟩ := (hT.t _ _ hs).und
            obtain ⟨d2, hu2, ho2⟩ := (hT.t _ _ hd).und
            obtain ⟨d3, hu3, ho3⟩ := (hT.t _ _ he).und
            rw [h1] at ho1; rw [h2] at ho2; rw [h3] at ho3
            cases d1 <;> simp [TD.of] at ho1
            cases d2 <;> simp [TD.of] at ho2
            cases d3 <;> simp [TD.of] at ho3
            subst ho1; subst ho3
            refine ⟨.string .empty, ?_, rfl⟩
            rw [hv]
            cases a0 with
            | none => exact run_convert_bytes_nil (P := P) w s _ hu1 hu3 0 cap d hu2
            | some ad => simp [convert, run_underlying hu1, run_underlying hu2, run_underlying hu3, Conv.bytesToString, loadCells, loadCellsFrom]
          rcases hx with ⟨_, _, hn, _, hv⟩ | ⟨_, hn, a0, cap, hv⟩ | ⟨g, cap, ty0, sz, hg, hv, _⟩
          · exact nilcase hn none 0 hv
          · exact nilcase hn a0 cap hv
          · rcases h.bx k cs hk with ⟨_, rfl⟩ | ⟨g', c, ty, vs, hg', hw, hl, hcc, hms⟩
            · simp at hle
              obtain ⟨rfl, rfl⟩ := hle
              exact nilcase rfl _ cap hv
            · obtain rfl : g = g' := by rw [hg] at hg'; simpa using hg'
              have hcl : cellsAt w g 0 vs := ⟨c, ty, _, hw, fun i hi => by simpa using hcc i hi⟩
              refine ⟨_, ?_, rfl⟩
              rw [hv]
              have h1' := (hcl.drop off).take n
              simp only [Nat.zero_add] at h1'
              exact bytes_run hT hs hd he h1 h2 h3 h1' ((hms.drop off).take n) (by simp; omega) hb
        · simp at hv
      · simp at hv
    · rename_i e b n cs h1 h2 e3
      split at hv
      · rename_i ei he
        split at hv
        · rename_i hc
          obtain ⟨h3, hle⟩ := hc
          simp only [Option.map_eq_some_iff] at hv
          obtain ⟨bs, hb, rfl⟩ := hv
          rw [e3] at hx
          rcases hx with ⟨rfl, rfl, a0, cap, hv⟩ | ⟨g, off, cap, vs, hv, hcap, hok, hcl, hms⟩
          · simp [bytesOf] at hb
            subst hb
            obtain ⟨d1, hu1, ho1⟩ := (hT.t _ _ hs).und
            obtain ⟨d2, hu2, ho2⟩ := (hT.t _ _ hd).und
            obtain ⟨d3, hu3, ho3⟩ := (hT.t _ _ he).und
            rw [h1] at ho1; rw [h2] at ho2; rw [h3] at ho3
            cases d1 <;> simp [TD.of] at ho1
            cases d2 <;> simp [TD.of] at ho2
            cases d3 <;> simp [TD.of] at ho3
            subst ho1; subst ho3
            refine ⟨.string .empty, ?_, rfl⟩
            rw [hv]
            cases a0 with
            | none => exact run_convert_bytes_nil (P := P) w s _ hu1 hu3 0 cap d hu2
            | some ad => simp [convert, run_underlying hu1, run_underlying hu2, run_underlying hu3, Conv.bytesToString, loadCells, loadCellsFrom]
          · refine ⟨_, ?_, rfl⟩
            rw [hv]
            exact bytes_run hT hs hd he h1 h2 h3 (hcl.take n) (hms.take n) (by simp; omega) hb
        · simp at hv
      · simp at hv
    · simp at hv
  · simp at hv

theorem aval_s2a (hT : Tab P T eqt) (h : Sim X w0 E σ a w) {t : TypeId} {x : Operand} {r : AV} (hv : aval T eqt σ (.sliceToArrayPointer t x) = some r) (o : Oper) (ho : o.op = .sliceToArrayPointer t x) : Gives P w E (execOp a.eval o) r := by
  have hx := h.ev x
  simp only [aval] at hv
  simp only [execOp, ho]
  refine gives_of ?_
  split at hv
  · rename_i ti hti
    obtain ⟨d, hu, hod⟩ := (hT.t _ _ hti).und
    split at hv
    · rename_i n e k off m z gr hd e1
      rw [e1] at hx
      rw [hd] at hod
      cases d <;> simp [TD.of] at hod
      obtain ⟨rfl, rfl⟩ := hod
      split at hv
      · rename_i hc
        simp at hv
        subst hv
        rcases hx with ⟨_, _, rfl, _⟩ | ⟨_, rfl, _⟩ | ⟨g, cap, ty0, sz, hg, hv, _⟩
        · omega
        · omega
        · refine ⟨_, ?_, g, hg, rfl⟩
          rw [hv]
          simp [Instr.arrayAt, run_underlying hu, show ¬ m < _ from Nat.not_lt.2 hc.2]
      · simp at hv
    · rename_i n e b m cs hd e1
      rw [e1] at hx
      rw [hd] at hod
      cases d <;> simp [TD.of] at hod
      obtain ⟨rfl, rfl⟩ := hod
      split at hv
      · rename_i hc
        simp at hv
        subst hv
        rcases hx with ⟨rfl, _⟩ | ⟨g, off, cap, vs, hv, hcap, hok, hcl, hms⟩
        · omega
        · refine ⟨_, ?_, g, off, vs, rfl, hok, hcl, hms⟩
          rw [hv]
          simp [Instr.arrayAt, run_underlying hu, show ¬ m < _ from Nat.not_lt.2 hc.2]
      · simp at hv
    · simp at hv
  · simp at hv

theorem aval_mi (hT : Tab P T eqt) (h : Sim X w0 E σ a w) {t : TypeId} {x : Operand} {r : AV} (hv : aval T eqt σ (.makeInterface t x) = some r) (o : Oper) (ho : o.op = .makeInterface t x) : Gives P w E (execOp a.eval o) r := by
  have hx := h.ev x
  simp only [aval] at hv
  simp only [execOp, ho]
  refine gives_of ?_
  split at hv
  · rename_i ti hti
    obtain ⟨d, hu, hod⟩ := (hT.t _ _ hti).und
    split at hv
    · simp at hv
    · rename_i hn
      simp only [Option.map_eq_some_iff] at hv
      obtain ⟨y, hy, rfl⟩ := hv
      have := known_eq hy; subst this
      refine ⟨.iface t (a.eval x), ?_, _, rfl, hx⟩
      simp only [Instr.makeInterface, Sem.run_bind, run_underlying hu, Result.andThen_ok]
      cases d <;> first | rfl | (simp [TD.of] at hod; simp [← hod] at hn)
  · simp at hv

theorem aval_mf (h : Sim X w0 E σ a w) {f : FuncId} {first caps : Array Operand} {r : AV} (hv : aval T eqt σ (.makeFunc (.func f) first caps) = some r) (o : Oper) (ho : o.op = .makeFunc (.func f) first caps) : Gives P w E (execOp a.eval o) r := by
  simp only [aval] at hv
  simp only [execOp, ho]
  split at hv
  · rename_i hc
    simp at hv
    subst hv
    obtain ⟨h1, h2⟩ := hc
    have : first = #[] := Array.eq_empty_of_size_eq_zero h1
    subst this
    refine gives_of ⟨.func (.func f) #[] ⟨caps.toList.map a.eval⟩, ?_, _, rfl, Ms_evs h caps.toList⟩
    have e : caps.map a.eval = ⟨caps.toList.map a.eval⟩ := Array.ext' (by simp)
    simp [Instr.makeFunc, e]
  · simp at hv

theorem aval_build (hT : Tab P T eqt) (h : Sim X w0 E σ a w) {t : TypeId} {ps : Array (Nat × Operand)} {r : AV} (hv : aval T eqt σ (.build t ps) = some r) (o : Oper) (ho : o.op = .build t ps) : Gives P w E (execOp a.eval o) r := by
  simp only [aval] at hv
  simp only [execOp, ho]
  refine gives_of (run_aBuild hT.t ?_ hv)
  simpa using Mp_evp h ps.toList

theorem aval_slice (hT : Tab P T eqt) (h : Sim X w0 E σ a w) {t : TypeId} {x : Operand} {lo hi mx : Option Operand} {r : AV} (hv : aval T eqt σ (.slice t x lo hi mx) = some r) (o : Oper) (ho : o.op = .slice t x lo hi mx) : Gives P w E (execOp a.eval o) r := by
  have hx := h.ev x
  simp only [aval] at hv
  simp only [execOp, ho]
  refine gives_of ?_
  split at hv
  · rename_i ti hti
    split at hv
    · rename_i e hd
      split at hv
      · rename_i eti he
        exact run_slice (hT.t _ _ hti) (hT.t _ _ he) hd (bx := fun k => blook k σ.bx) (fun k cs hk => h.bx k cs hk) hx (Mo_map h lo) (Mo_map h hi) (Mo_map h mx) hv
      · simp at hv
    · rename_i hel
      cases mx with
      | some m =>
        split at hv
        · rename_i e2; simp at e2
        · simp at hv
      | none =>
        split at hv
        · rename_i s hd e1 _
          split at hv
          · rename_i hh ll eh el
            split at hv
            · rename_i hc
              simp at hv
              subst hv
              rw [e1] at hx
              simp only [M] at hx
              obtain ⟨d, hu, hod⟩ := (hT.t _ _ hti).und
              rw [hd] at hod
              cases d <;> simp [TD.of] at hod
              obtain ⟨m', hb, hm1, hm2⟩ := run_bounds (P := P) (b := false) (cap := s.size) (mx := none) (vmx := none) (Mo_map h lo) (Mo_map h hi) trivial el eh rfl hc.1 hc.2 (Nat.le_refl _) (by simp) (Nat.le_refl _)
              refine ⟨_, ?_, rfl⟩
              rw [hx]
              simp [Instr.sliceAt, Instr.slice, run_underlying hu, hb]
            · simp at hv
          · simp at hv
        · simp at hv
  · simp at hv

theorem aval_fa (hT : Tab P T eqt) (h : Sim X w0 E σ a w) {t : TypeId} {x : Operand} {i : Nat} {r : AV} (hv : aval T eqt σ (.fieldAddr t x i) = some r) (o : Oper) (ho : o.op = .fieldAddr t x i) : Gives P w E (execOp a.eval o) r := by
  have hx := h.ev x
  simp only [aval] at hv
  simp only [execOp, ho]
  refine gives_of ?_
  split at hv
  · rename_i ti hti
    split at hv
    · rename_i fs hd
      split at hv
      · rename_i off ft hf
        split at hv
        · rename_i fti hft
          exact run_field (hT.t _ _ hti) (hT.t _ _ hft) hd hf hx hv
        · simp at hv
      · simp at hv
    · simp at hv
  · simp at hv

theorem aval_f (hT : Tab P T eqt) (h : Sim X w0 E σ a w) {t : TypeId} {x : Operand} {i : Nat} {r : AV} (hv : aval T eqt σ (.field t x i) = some r) (o : Oper) (ho : o.op = .field t x i) : Gives P w E (execOp a.eval o) r := by
  have hx := h.ev x
  simp only [aval] at hv
  simp only [execOp, ho]
  refine gives_of ?_
  split at hv
  · rename_i ti hti
    split at hv
    · rename_i fs hd
      split at hv
      · rename_i off ft hf
        split at hv
        · rename_i fti cs hft e1
          rw [e1] at hx
          exact run_fieldV (hT.t _ _ hti) (hT.t _ _ hft) hd hf hx hv
        · simp at hv
      · simp at hv
    · simp at hv
  · simp at hv

theorem aval_ia (hT : Tab P T eqt) (h : Sim X w0 E σ a w) {t : TypeId} {x i : Operand} {r : AV} (hv : aval T eqt σ (.indexAddr t x i) = some r) (o : Oper) (ho : o.op = .indexAddr t x i) : Gives P w E (execOp a.eval o) r := by
  have hx := h.ev x
  have hi := h.ev i
  simp only [aval] at hv
  simp only [execOp, ho]
  refine gives_of ?_
  split at hv
  · rename_i ti hti
    split at hv
    · rename_i e hd
      split at hv
      · rename_i eti k n he e1
        rw [e1] at hi
        simp only [M] at hi
        rw [hi]
        exact run_index (hT.t _ _ hti) (hT.t _ _ he) hd hx hv
      · simp at hv
    · simp at hv
  · simp at hv

theorem aval_i (hT : Tab P T eqt) (h : Sim X w0 E σ a w) {t : TypeId} {x i : Operand} {r : AV} (hv : aval T eqt σ (.index t x i) = some r) (o : Oper) (ho : o.op = .index t x i) : Gives P w E (execOp a.eval o) r := by
  have hx := h.ev x
  have hi := h.ev i
  simp only [aval] at hv
  simp only [execOp, ho]
  refine gives_of ?_
  split at hv
  · rename_i ti hti
    split at hv
    · rename_i n e cs k j hd e1 e2
      rw [e1] at hx; rw [e2] at hi
      simp only [M] at hi
      rw [hi]
      split at hv
      · rename_i eti he
        split at hv
        · rename_i hc
          exact run_indexV (hT.t _ _ hti) (hT.t _ _ he) hd hx hc hv
        · simp at hv
      · simp at hv
    · rename_i s k j hd e1 e2
      rw [e1] at hx; rw [e2] at hi
      simp only [M] at hi hx
      rw [hi, hx]
      split at hv
      · rename_i h0
        simp only [Option.map_eq_some_iff] at hv
        obtain ⟨b, hb, rfl⟩ := hv
        exact ⟨_, run_indexS (hT.t _ _ hti) hd h0 hb, rfl⟩
      · simp at hv
    · simp at hv
  · simp at hv

theorem aval_ex (h : Sim X w0 E σ a w) {x : Operand} {i : Nat} {r : AV} (hv : aval T eqt σ (.extract x i) = some r) (o : Oper) (ho : o.op = .extract x i) : Gives P w E (execOp a.eval o) r := by
  have hx := h.ev x
  simp only [aval] at hv
  simp only [execOp, ho]
  refine gives_of ?_
  split at hv
  · rename_i cs e1
    rw [e1] at hx
    obtain ⟨vs, hp, hms⟩ := hx
    simp only [Option.bind_eq_some_iff] at hv
    obtain ⟨y, hy, hk⟩ := hv
    have := known_eq hk; subst this
    obtain ⟨v, hv', hmv⟩ := hms.get hy
    exact ⟨v, by rw [hp]; simp [Instr.extract, hv'], hmv⟩
  · simp at hv

theorem aval_ta (hT : Tab P T eqt) (h : Sim X w0 E σ a w) {x : Operand} {xt t : TypeId} {ok : Bool} {r : AV} (hv : aval T eqt σ (.typeAssert x xt t ok) = some r) (o : Oper) (ho : o.op = .typeAssert x xt t ok) : Gives P w E (execOp a.eval o) r := by
  have hx := h.ev x
  simp only [aval] at hv
  simp only [execOp, ho]
  refine gives_of ?_
  split at hv
  · rename_i ti hti
    obtain ⟨d, hu, hod⟩ := (hT.t _ _ hti).und
    obtain ⟨z, hz, _⟩ := (hT.t _ _ hti).run_zero (P := P) w
    split at hv
    · simp at hv
    · rename_i hn
      have hni : ∀ ms, d ≠ .interface ms := by
        intro ms hd
        subst hd
        simp [TD.of] at hod
        simp [← hod] at hn
      have conc : ∀ v, a.eval x = v → ∀ (u : TypeId) (y : Value), v = .iface u y → (Instr.typeAssert (a.eval x) xt t ok).run P w = (if u = t then .ok (if ok then .tuple #[y, .bool true] else y) w else (Instr.typeAssert (a.eval x) xt t ok).run P w) ∧ (ok = true → u ≠ t → (Instr.typeAssert (a.eval x) xt t ok).run P w = .ok (.tuple #[z, .bool false]) w) := by
        intro v hv u y hy
        subst hy
        rw [hv]
        constructor
        · split
          · rename_i hut
            subst hut
            simp only [Instr.typeAssert, Sem.run_bind, run_underlying hu, Result.andThen_ok]
            cases d <;> first | (exact absurd rfl (hni _)) | simp
          · rfl
        · intro hok hut
          subst hok
          simp only [Instr.typeAssert, Sem.run_bind, run_underlying hu, Result.andThen_ok]
          cases d <;> first | (exact absurd rfl (hni _)) | simp [hut, hz]
      split at hv
      · rename_i u y e1
        rw [e1] at hx
        obtain ⟨uv, hp, hmy⟩ := hx
        have hc := conc _ rfl u uv hp
        split at hv
        · rename_i hut
          rw [if_pos hut] at hc
          split at hv
          · rename_i hok
            simp at hv
            subst hv
            exact ⟨_, by rw [hc.1, if_pos hok], _, rfl, Ms_cons.2 ⟨_, _, rfl, hmy, Ms_cons.2 ⟨_, _, rfl, rfl, rfl⟩⟩⟩
          · rename_i hok
            have := known_eq hv; subst this
            exact ⟨uv, by rw [hc.1, if_neg hok], hmy⟩
        · rename_i hut
          split at hv
          · rename_i hok
            simp at hv
            subst hv
            exact ⟨_, hc.2 hok hut, _, rfl, Ms_cons.2 ⟨_, _, rfl, trivial, Ms_cons.2 ⟨_, _, rfl, rfl, rfl⟩⟩⟩
          · simp at hv
      · rename_i u y e1
        rw [e1] at hx
        simp only [M] at hx
        have hc := conc _ rfl u y hx
        split at hv
        · rename_i hut
          rw [if_pos hut] at hc
          split at hv
          · rename_i hok
            simp at hv
            subst hv
            exact ⟨_, by rw [hc.1, if_pos hok], _, rfl, Ms_cons.2 ⟨_, _, rfl, M_cav y, Ms_cons.2 ⟨_, _, rfl, rfl, rfl⟩⟩⟩
          · rename_i hok
            simp at hv
            subst hv
            exact ⟨y, by rw [hc.1, if_neg hok], M_cav y⟩
        · rename_i hut
          split at hv
          · rename_i hok
            simp at hv
            subst hv
            exact ⟨_, hc.2 hok hut, _, rfl, Ms_cons.2 ⟨_, _, rfl, trivial, Ms_cons.2 ⟨_, _, rfl, rfl, rfl⟩⟩⟩
          · simp at hv
      · rename_i e1
        rw [e1] at hx
        simp only [M] at hx
        split at hv
        · rename_i hok
          simp at hv
          subst hv
          refine ⟨.tuple #[z, .bool false], ?_, _, rfl, Ms_cons.2 ⟨_, _, rfl, trivial, Ms_cons.2 ⟨_, _, rfl, rfl, rfl⟩⟩⟩
          rw [hx]
          subst hok
          simp only [Instr.typeAssert, Sem.run_bind, run_underlying hu, Result.andThen_ok]
          cases d <;> first | (exact absurd rfl (hni _)) | simp [hz]
        · simp at hv
      · simp at hv
  · simp at hv

theorem aval_call (hT : Tab P T eqt) (h : Sim X w0 E σ a w) {c : Call} {r : AV} (hv : aval T eqt σ (.call c) = some r) (o : Oper) (ho : o.op = .call c) : Gives P w E (execOp a.eval o) r := by
  simp only [aval] at hv
  simp only [execOp, ho]
  obtain ⟨callee, args, argTypes⟩ := c
  simp only at hv ⊢
  have hms := Ms_evs h args.toList
  have hargs : args.map a.eval = ⟨args.toList.map a.eval⟩ := Array.ext' (by simp)
  split at hv
  · split at hv
    · rename_i x t e1 e2
      split at hv
      · rename_i ti hti
        simp only [Option.map_eq_some_iff] at hv
        obtain ⟨n, hn, rfl⟩ := hv
        have hx := h.ev x
        have hl := run_aLen (hT.t _ _ hti) hx hn o.type
        have ea : argTypes = #[t] := Array.ext' (by simp [e2])
        refine ⟨_, ?_, rfl⟩
        simp only [resolve, hargs, e1, List.map_cons, List.map_nil, Sem.run_bind, Sem.run_pure, Result.andThen_ok, invoke, builtin, ea, hl]
      · simp at hv
    · simp at hv
  · split at hv
    · rename_i x rest e1
      rw [e1] at hms
      obtain ⟨v, vs, ev, h1, h2⟩ := Ms_cons.1 hms
      obtain ⟨u, hr, hm⟩ := (run_minmax (P := P) rest vs x r v h2 h1).1 hv
      refine ⟨u, ?_, hm⟩
      simp only [resolve, hargs, ev, Sem.run_bind, Sem.run_pure, Result.andThen_ok, invoke, builtin, Builtin.min_, hr]
    · simp at hv
  · split at hv
    · rename_i x rest e1
      rw [e1] at hms
      obtain ⟨v, vs, ev, h1, h2⟩ := Ms_cons.1 hms
      obtain ⟨u, hr, hm⟩ := (run_minmax (P := P) rest vs x r v h2 h1).2 hv
      refine ⟨u, ?_, hm⟩
      simp only [resolve, hargs, ev, Sem.run_bind, Sem.run_pure, Result.andThen_ok, invoke, builtin, Builtin.max_, hr]
    · simp at hv
  · simp at hv

/-- Whatever is only computed. -/
theorem aval_run (hT : Tab P T eqt) (h : Sim X w0 E σ a w) (o : Oper) {r : AV} (hv : aval T eqt σ o.op = some r) : Gives P w E (execOp a.eval o) r := by
  generalize ho : o.op = op at hv
  cases op
  case move x => simp only [aval] at hv; have := known_eq hv; subst this; exact ⟨_, by simp only [execOp, ho]; rfl, h.ev x⟩
  case assign x => simp only [aval] at hv; have := known_eq hv; subst this; exact ⟨_, by simp only [execOp, ho]; rfl, h.ev x⟩
  case pick => exact aval_pick h hv o ho
  case load => exact aval_load hT h hv o ho
  case nilCheck => exact aval_nil h hv o ho
  case binOp => exact aval_bin hT h hv o ho
  case unOp => exact aval_un h hv o ho
  case convert => exact aval_conv hT h hv o ho
  case sliceToArrayPointer => exact aval_s2a hT h hv o ho
  case makeInterface => exact aval_mi hT h hv o ho
  case makeFunc fn first caps =>
    cases fn <;> first | exact aval_mf h hv o ho | (simp only [aval] at hv; exact absurd hv (by simp))
  case build => exact aval_build hT h hv o ho
  case slice => exact aval_slice hT h hv o ho
  case fieldAddr => exact aval_fa hT h hv o ho
  case field => exact aval_f hT h hv o ho
  case indexAddr => exact aval_ia hT h hv o ho
  case index => exact aval_i hT h hv o ho
  case extract => exact aval_ex h hv o ho
  case typeAssert => exact aval_ta hT h hv o ho
  case call => exact aval_call hT h hv o ho
  all_goals (simp only [aval] at hv; exact absurd hv (by simp))

end
end Go.Proofs.Ytdnmnafadondkaa
