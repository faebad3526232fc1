/- The walks of the step programs' accesses (play). No condition. -/
import Derived.Test.YtdnmnafadondkaaTab
import Derived.Test.YtdnmnafadondkaaAw25
import Derived.Test.YtdnmnafadondkaaMod
set_option linter.unusedVariables false
set_option linter.unusedSimpArgs false
set_option maxRecDepth 100000
namespace Go.Proofs.Ytdnmnafadondkaa
open Go Go.RowKit

theorem mx : Try.prog.follows .mixedOrders = true := by kernel_rfl

def Rs.cs (r : Rs) : List AV := [iv r.v, sv r.b]
def logC (L : List Rs) : List AV := L.flatMap Rs.cs
def accC (a : Ac) : List AV := [iv a.1, iv a.2.1, iv a.2.2, sv ByteArray.empty]
def accV (a : Ac) : Value := .agg #[.int .i64 a.1, .int .i64 a.2.1, .int .i64 a.2.2, .string ByteArray.empty]
def pend (a : Ac) : Value := .iface 84 (.agg #[.int .i64 a.1, .int .i64 a.2.1, .int .i64 a.2.2, .string ByteArray.empty])
def doIo (b : Bool) (L : List Rs) (i : Nat) : List (List AV) := [[iv i], [.ds b L.length (logC L)]]
def doA : AV := .clo 32 [.ptr 0 0, .ptr 1 0]

/-- What a call that makes accesses comes to. -/
def DoR {α : Type} (b : Bool) (L : List Rs) (ext : List (List AV)) (enc : α → AV) (res : (α × Nat) ⊕ Ac) (o : Out) : Prop :=
  match res with
  | .inl (x, j) => o = .ret (enc x) (doIo b L j ++ ext) []
  | .inr a => ∃ j, o = .pan (pend a) (doIo b L j ++ ext)

theorem logC_flat (L : List Rs) : Flats (logC L) := by
  induction L with
  | nil => exact fun _ => rfl
  | cons r L ih => exact flats_append (a := r.cs) (fun _ => rfl) ih

theorem logC_len (L : List Rs) : (logC L).length = L.length * 2 := by
  induction L with
  | nil => rfl
  | cons r L ih => simp [logC, Rs.cs] at ih ⊢; omega

theorem logC_drop (L : List Rs) (i : Nat) (h : i < L.length) : ((logC L).drop (i * 2)).take 2 = L[i].cs := by
  induction L generalizing i with
  | nil => simp at h
  | cons r L ih =>
    cases i with
    | zero => simp [logC, Rs.cs]
    | succ i =>
      have := ih i (by simpa using h)
      simp only [logC, List.flatMap_cons, Rs.cs] at this ⊢
      rw [show (i + 1) * 2 = i * 2 + 1 + 1 by omega]
      simpa using this

theorem doIo_flat (b : Bool) (L : List Rs) (i : Nat) : ∀ cs ∈ doIo b L i, Flats cs := by
  simp only [doIo, List.mem_cons, List.not_mem_nil, or_false]
  rintro cs (rfl | rfl)
  · exact fun _ => rfl
  · intro f; simp only [AVs.map, AV.map, logC_flat L f]

theorem do_spec (b : Bool) (L : List Rs) (i : Nat) (a : Ac) (hi : i ≤ L.length) (hL : L.length ≤ 1000) : Spec Try.prog [] 32 [.agg (accC a), .ptr 0 0, .ptr 1 0] (doIo b L i) (DoR b L [] (fun r : Rs => .agg r.cs) ((Pg.ask a .ret).runAt L i)) := by
  refine spec_of TB 19 [.cell 4 79] Try.func32 rfl rfl rfl (Nat.le_of_ble_eq_true rfl) ?_
  intro X w0 E0 hE hX
  simp only [idx, doIo, List.map_cons, List.map_nil, List.length_cons, List.length_nil, accC]
  refine AW_reg TB (fun D K hD hK => ?_)
  simp only [AwS, TS, binI, runR, runD, ostep, ostepB, aop, aopB, dstOk, aeff, aval, St.ev, alook, blook, aBox, AV.known, cav, St.app, tput, evs, evp, allKnown, gslot, min2, max2, AV.cs, AV.cell, loadC, aField, aIndex, TD.elem, TD.isAgg, TD.isInt, aSlice, aBound, aLen, aBuild, aFill, placesOf, bytesOf, aBin, aEql, TI.one, eqS, eqL, fits, srcOf, dstOf, killK, replZ, spl, splice, AV.tops, Tk.foot, addFoot, fine, apart, disj, St.behind, St.behindB, zipIo, newIo, gMap, ioMap, AV.map, AVs.map, nmap, ↓reduceIte, Nat.reduceAdd, Nat.reduceMul, Nat.reduceSub, Nat.reduceMod, Nat.reduceDiv, Nat.reduceEqDiff, Nat.reduceLT, Nat.reduceLeDiff, Nat.reduceBEq, Nat.reduceBNe, Int.reduceAdd, Int.reduceMul, Int.reduceSub, Int.reduceNeg, Int.reduceLT, Int.reduceLE, Int.reduceEq, Int.reduceToNat, reduceCtorEq, bind]
  refine hD _ ?_
  clear hD hK D K
  refine AW_seq ?_
  refine AW_reg TB (fun D K hD hK => ?_)
  simp only [AwS, TS, binI, runR, runD, ostep, ostepB, aop, aopB, dstOk, aeff, aval, St.ev, alook, blook, aBox, AV.known, cav, St.app, tput, evs, evp, allKnown, gslot, min2, max2, AV.cs, AV.cell, loadC, aField, aIndex, TD.elem, TD.isAgg, TD.isInt, aSlice, aBound, aLen, aBuild, aFill, placesOf, bytesOf, aBin, aEql, TI.one, eqS, eqL, fits, srcOf, dstOf, killK, replZ, spl, splice, AV.tops, Tk.foot, addFoot, fine, apart, disj, St.behind, St.behindB, zipIo, newIo, gMap, ioMap, AV.map, AVs.map, nmap, ↓reduceIte, Nat.reduceAdd, Nat.reduceMul, Nat.reduceSub, Nat.reduceMod, Nat.reduceDiv, Nat.reduceEqDiff, Nat.reduceLT, Nat.reduceLeDiff, Nat.reduceBEq, Nat.reduceBNe, Int.reduceAdd, Int.reduceMul, Int.reduceSub, Int.reduceNeg, Int.reduceLT, Int.reduceLE, Int.reduceEq, Int.reduceToNat, reduceCtorEq, bind]
  refine hD _ ?_
  clear hD hK D K
  refine AW_cond rfl (fun h => ?_) (fun h => AW_skip ?_)
  · have hge : i = L.length := by have : L.length ≤ i := by simpa using h
                                  omega
    have hres : (Pg.ask a .ret : Pg Rs).runAt L i = .inr a := by simp [Pg.runAt, hge]
    refine AW_regl TB (fun D K hD hK => ?_)
    simp only [AwS, TS, binI, runR, runD, ostep, ostepB, aop, aopB, dstOk, aeff, aval, St.ev, alook, blook, aBox, AV.known, cav, St.app, tput, evs, evp, allKnown, gslot, min2, max2, AV.cs, AV.cell, loadC, aField, aIndex, TD.elem, TD.isAgg, TD.isInt, aSlice, aBound, aLen, aBuild, aFill, placesOf, bytesOf, aBin, aEql, TI.one, eqS, eqL, fits, srcOf, dstOf, killK, replZ, spl, splice, AV.tops, Tk.foot, addFoot, fine, apart, disj, St.behind, St.behindB, zipIo, newIo, gMap, ioMap, AV.map, AVs.map, nmap, ↓reduceIte, Nat.reduceAdd, Nat.reduceMul, Nat.reduceSub, Nat.reduceMod, Nat.reduceDiv, Nat.reduceEqDiff, Nat.reduceLT, Nat.reduceLeDiff, Nat.reduceBEq, Nat.reduceBNe, Int.reduceAdd, Int.reduceMul, Int.reduceSub, Int.reduceNeg, Int.reduceLT, Int.reduceLE, Int.reduceEq, Int.reduceToNat, reduceCtorEq, bind]
    refine hK _ _ ?_
    clear hD hK D K
    refine AL_panic (t := 84) (y := accV a) rfl rfl rfl ?_
    simp only [seqQ, blockQ, kQ, loopQ, Ret]
    exact ⟨_, rfl, retpan (doIo b L i) rfl rfl rfl (doIo_flat b L i) (by rw [hres]; exact ⟨i, rfl⟩)⟩
  · have hlt : i < L.length := by simpa using h
    have hres : (Pg.ask a .ret : Pg Rs).runAt L i = .inl (L[i], i + 1) := by simp [Pg.runAt, hlt]
    have w1 : IntKind.i64.wrap ((i : Int) + 1) = (i : Int) + 1 := wrap_i64 (by omega) (by omega)
    have w2 : IntKind.i64.wrap ((i : Int) + 1 - 1) = i := by rw [wrap_i64 (by omega) (by omega)]; omega
    simp only [seqQ]
    refine AW_reg TB (fun D K hD hK => ?_)
    simp only [AwS, TS, binI, runR, runD, ostep, ostepB, aop, aopB, dstOk, aeff, aval, St.ev, alook, blook, aBox, AV.known, cav, St.app, tput, evs, evp, allKnown, gslot, min2, max2, AV.cs, AV.cell, loadC, aField, aIndex, TD.elem, TD.isAgg, TD.isInt, aSlice, aBound, aLen, aBuild, aFill, placesOf, bytesOf, aBin, aEql, TI.one, eqS, eqL, fits, srcOf, dstOf, killK, replZ, spl, splice, AV.tops, Tk.foot, addFoot, fine, apart, disj, St.behind, St.behindB, zipIo, newIo, gMap, ioMap, AV.map, AVs.map, nmap, ↓reduceIte, Nat.reduceAdd, Nat.reduceMul, Nat.reduceSub, Nat.reduceMod, Nat.reduceDiv, Nat.reduceEqDiff, Nat.reduceLT, Nat.reduceLeDiff, Nat.reduceBEq, Nat.reduceBNe, Int.reduceAdd, Int.reduceMul, Int.reduceSub, Int.reduceNeg, Int.reduceLT, Int.reduceLE, Int.reduceEq, Int.reduceToNat, reduceCtorEq, bind, w1]
    refine hD _ ?_
    clear hD hK D K
    have c1 : (0 ≤ (i : Int) ∧ (i : Int) < L.length) = True := by simp; omega
    have c2 : (2 ≤ (List.drop (i * 2) (logC L)).length) = True := by simp [logC_len]; omega
    refine AW_reg TB (fun D K hD hK => ?_)
    simp only [AwS, TS, binI, runR, runD, ostep, ostepB, aop, aopB, dstOk, aeff, aval, St.ev, alook, blook, aBox, AV.known, cav, St.app, tput, evs, evp, allKnown, gslot, min2, max2, AV.cs, AV.cell, loadC, aField, aIndex, TD.elem, TD.isAgg, TD.isInt, aSlice, aBound, aLen, aBuild, aFill, placesOf, bytesOf, aBin, aEql, TI.one, eqS, eqL, fits, srcOf, dstOf, killK, replZ, spl, splice, AV.tops, Tk.foot, addFoot, fine, apart, disj, St.behind, St.behindB, zipIo, newIo, gMap, ioMap, AV.map, AVs.map, nmap, ↓reduceIte, Nat.reduceAdd, Nat.reduceMul, Nat.reduceSub, Nat.reduceMod, Nat.reduceDiv, Nat.reduceEqDiff, Nat.reduceLT, Nat.reduceLeDiff, Nat.reduceBEq, Nat.reduceBNe, Int.reduceAdd, Int.reduceMul, Int.reduceSub, Int.reduceNeg, Int.reduceLT, Int.reduceLE, Int.reduceEq, Int.reduceToNat, reduceCtorEq, bind, w2, c1, Int.toNat_natCast, c2, logC_drop L i hlt, Rs.cs]
    refine hD _ ?_
    clear hD hK D K
    refine AW_ret ?_
    simp only [Ret]
    exact retio (.agg L[i].cs) (doIo b L (i + 1)) rfl rfl rfl (fun _ => rfl) rfl (doIo_flat b L (i + 1)) (by rw [hres]; rfl)

/-- A call that makes accesses, by its contract. -/
theorem AL_do {X : Nat → Prop} {w0 : World} {E0 : Env} {α : Type} {b : Bool} {L : List Rs} {i : Nat} {enc : α → AV} {p : Pg α} {ops : Array Oper} {o : Oper} {l : List Oper} {σ : St} {Q : Exit → St → Prop} {f : Operand} {fargs : Array Operand} {fty : Array TypeId} {K : FuncId} {caps : List AV} {args' : List AV}
    (ho : o.op = .call ⟨.value f, fargs, fty⟩) (hgd : o.guard = none) (hd : dstOk σ o.dst = true) (hf : σ.ev f = .clo K caps) (hen : Enters Try.prog K) (hspec : Spec Try.prog [] K args' (doIo b L i) (DoR b L [] enc (p.runAt L i)))
    (hargs : (evs σ fargs.toList ++ caps).map (lendA (lentBx [] σ)) = AVs.map (ioMap σ.nx [0, 1]) args') (h0 : blook 0 σ.bx = some [iv i]) (h1 : blook 1 σ.bx = some [.ds b L.length (logC L)]) (hflat : ∀ x, Flat (enc x)) (hi : i ≤ L.length)
    (hret : ∀ x j, p.runAt L i = .inl (x, j) → i ≤ j → j ≤ L.length → AL Try.prog X w0 E0 ops l { σ with nx := σ.nx + 8, tm := tput o.dst (enc x) σ.tm, bx := (0, some [iv j]) :: (1, some [.ds b L.length (logC L)]) :: σ.bx } Q)
    (hpan : ∀ a (j : Nat), p.runAt L i = .inr a → Q (.panic [{ v := pend a, recovered := false }]) { σ with nx := σ.nx + 8, bx := (0, some [iv j]) :: (1, some [.ds b L.length (logC L)]) :: σ.bx }) : AL Try.prog X w0 E0 ops (o :: l) σ Q := by
  have hlf := logC_flat L
  have beh : ∀ tm j, σ.behind tm [0, 1] (doIo b L j) [] = { σ with nx := σ.nx + 8, tm := tm, bx := (0, some [iv j]) :: (1, some [.ds b L.length (logC L)]) :: σ.bx } := by
    intro tm j
    simp only [St.behind, St.behindB, doIo, zipIo, newIo, AVs.map, AV.map, hlf _, List.cons_append, List.nil_append]
  refine AL_call ho hgd hd hf hen hspec [0, 1] [] rfl (by decide) (by simp [doIo]) hargs ?_ (by simp) (by simp) ?_ ?_
  · intro j k cs hj hc
    match j with
    | 0 => simp [doIo] at hj hc; subst hj; subst hc; exact h0
    | 1 => simp [doIo] at hj hc; subst hj; subst hc; simp only [AVs.map, AV.map, hlf _]; exact h1
    | j + 2 => simp [doIo] at hc
  · intro x io' nb hR _
    refine ⟨rfl, ?_⟩
    simp only [DoR] at hR
    cases hr : p.runAt L i with
    | inr a => rw [hr] at hR; obtain ⟨j, hR⟩ := hR; simp at hR
    | inl q =>
      obtain ⟨y, j⟩ := q
      rw [hr] at hR
      simp only [Out.ret.injEq] at hR
      obtain ⟨rfl, rfl, rfl⟩ := hR
      obtain ⟨h2, h3⟩ := Pg.runAt_le L p i hr hi
      refine ⟨by simp, ?_⟩
      rw [List.append_nil, beh, hflat y]
      exact hret y j hr h2 h3
  · intro v io' hR _
    refine ⟨rfl, ?_⟩
    simp only [DoR] at hR
    cases hr : p.runAt L i with
    | inl q => rw [hr] at hR; simp at hR
    | inr a =>
      rw [hr] at hR
      obtain ⟨j, hR⟩ := hR
      simp only [Out.pan.injEq] at hR
      obtain ⟨rfl, rfl⟩ := hR
      rw [List.append_nil, beh]
      exact hpan a j hr

theorem pan_do {α : Type} {b : Bool} {L : List Rs} {enc : α → AV} {res : (α × Nat) ⊕ Ac} {a : Ac} {j : Nat} {σ : St} {rs : List ResultVar} (hres : res = .inr a) (hd : σ.df = []) (h0 : blook 0 σ.bx = some [iv j]) (h1 : blook 1 σ.bx = some [.ds b L.length (logC L)]) :
    Ret tab rs 2 (DoR b L [] enc res) (.panic [{ v := pend a, recovered := false }]) σ :=
  ⟨_, rfl, retpan (doIo b L j) rfl hd (by simp [doIo, List.range_succ, h0, h1]) (doIo_flat b L j) (by subst hres; exact ⟨j, by simp⟩)⟩

theorem ret_do {α : Type} {b : Bool} {L : List Rs} {enc : α → AV} {res : (α × Nat) ⊕ Ac} {x : α} {j : Nat} {σ : St} {rs : List ResultVar} (hres : res = .inl (x, j)) (hd : σ.df = []) (h0 : blook 0 σ.bx = some [iv j]) (h1 : blook 1 σ.bx = some [.ds b L.length (logC L)])
    (hx : resOf tab σ rs = some (enc x)) (hf : Flat (enc x)) : RetV tab rs 2 (DoR b L [] enc res) σ :=
  retio (enc x) (doIo b L j) rfl hd hx hf (by simp [doIo, List.range_succ, h0, h1]) (doIo_flat b L j) (by subst hres; simp [DoR])

theorem fuse_spec (b : Bool) (L : List Rs) (i : Nat) (bank cell : Int) (hi : i ≤ L.length) (hL : L.length ≤ 1000) : Spec Try.prog [] 43 [doA, iv bank, iv cell] (doIo b L i) (DoR b L [] iv ((fuseP bank cell).runAt L i)) := by
  refine spec_of TB 13 [.tmp 6] Try.func43 rfl rfl rfl (Nat.le_of_ble_eq_true rfl) ?_
  intro X w0 E0 hE hX
  simp only [idx, doIo, List.map_cons, List.map_nil, List.length_cons, List.length_nil, doA]
  refine AW_reg TB (fun D K hD hK => ?_)
  simp only [AwS, TS, binI, runR, runD, ostep, ostepB, aop, aopB, dstOk, aeff, aval, St.ev, alook, blook, aBox, AV.known, cav, St.app, tput, evs, evp, allKnown, gslot, min2, max2, AV.cs, AV.cell, loadC, aField, aIndex, TD.elem, TD.isAgg, TD.isInt, aSlice, aBound, aLen, aBuild, aFill, placesOf, bytesOf, aBin, aEql, TI.one, eqS, eqL, fits, srcOf, dstOf, killK, replZ, spl, splice, AV.tops, Tk.foot, addFoot, fine, apart, disj, St.behind, St.behindB, zipIo, newIo, gMap, ioMap, AV.map, AVs.map, nmap, ↓reduceIte, Nat.reduceAdd, Nat.reduceMul, Nat.reduceSub, Nat.reduceMod, Nat.reduceDiv, Nat.reduceEqDiff, Nat.reduceLT, Nat.reduceLeDiff, Nat.reduceBEq, Nat.reduceBNe, Int.reduceAdd, Int.reduceMul, Int.reduceSub, Int.reduceNeg, Int.reduceLT, Int.reduceLE, Int.reduceEq, Int.reduceToNat, reduceCtorEq, bind]
  refine hD _ ?_
  clear hD hK D K
  refine AW_reg TB (fun D K hD hK => ?_)
  simp only [AwS, TS, binI, runR, runD, ostep, ostepB, aop, aopB, dstOk, aeff, aval, St.ev, alook, blook, aBox, AV.known, cav, St.app, tput, evs, evp, allKnown, gslot, min2, max2, AV.cs, AV.cell, loadC, aField, aIndex, TD.elem, TD.isAgg, TD.isInt, aSlice, aBound, aLen, aBuild, aFill, placesOf, bytesOf, aBin, aEql, TI.one, eqS, eqL, fits, srcOf, dstOf, killK, replZ, spl, splice, AV.tops, Tk.foot, addFoot, fine, apart, disj, St.behind, St.behindB, zipIo, newIo, gMap, ioMap, AV.map, AVs.map, nmap, ↓reduceIte, Nat.reduceAdd, Nat.reduceMul, Nat.reduceSub, Nat.reduceMod, Nat.reduceDiv, Nat.reduceEqDiff, Nat.reduceLT, Nat.reduceLeDiff, Nat.reduceBEq, Nat.reduceBNe, Int.reduceAdd, Int.reduceMul, Int.reduceSub, Int.reduceNeg, Int.reduceLT, Int.reduceLE, Int.reduceEq, Int.reduceToNat, reduceCtorEq, bind]
  refine hK _ _ ?_
  clear hD hK D K
  refine AL_do rfl rfl rfl rfl en_32 (do_spec b L i (1, bank, cell) hi hL) rfl rfl rfl (fun _ _ => rfl) hi (fun r j hr hj hj' => ?_) (fun a j hr => ?_)
  · refine AL_runR TB _ _ (fun D K hD hK => ?_)
    simp only [AwS, TS, binI, runR, runD, ostep, ostepB, aop, aopB, dstOk, aeff, aval, St.ev, alook, blook, aBox, AV.known, cav, St.app, tput, evs, evp, allKnown, gslot, min2, max2, AV.cs, AV.cell, loadC, aField, aIndex, TD.elem, TD.isAgg, TD.isInt, aSlice, aBound, aLen, aBuild, aFill, placesOf, bytesOf, aBin, aEql, TI.one, eqS, eqL, fits, srcOf, dstOf, killK, replZ, spl, splice, AV.tops, Tk.foot, addFoot, fine, apart, disj, St.behind, St.behindB, zipIo, newIo, gMap, ioMap, AV.map, AVs.map, nmap, ↓reduceIte, Nat.reduceAdd, Nat.reduceMul, Nat.reduceSub, Nat.reduceMod, Nat.reduceDiv, Nat.reduceEqDiff, Nat.reduceLT, Nat.reduceLeDiff, Nat.reduceBEq, Nat.reduceBNe, Int.reduceAdd, Int.reduceMul, Int.reduceSub, Int.reduceNeg, Int.reduceLT, Int.reduceLE, Int.reduceEq, Int.reduceToNat, reduceCtorEq, bind, Rs.cs]
    refine hD _ ?_
    clear hD hK D K
    simp only [seqQ]
    refine AW_ret ?_
    simp only [Ret]
    refine ret_do (x := r.v) (j := j) ?_ rfl rfl rfl rfl (fun _ => rfl)
    simp only [Pg.runAt, fuseP] at hr ⊢
    cases hq : L[i]? with
    | none => rw [hq] at hr; simp at hr
    | some q => rw [hq] at hr; simp at hr; simp [Pg.runAt, hr]
  · simp only [seqQ]
    refine pan_do (j := j) ?_ rfl rfl rfl
    simp only [Pg.runAt, fuseP] at hr ⊢
    cases hq : L[i]? with
    | none => rw [hq] at hr; simpa using hr
    | some q => rw [hq] at hr; simp at hr

theorem pulse_spec (b : Bool) (L : List Rs) (i : Nat) (bank cell : Int) (hi : i ≤ L.length) (hL : L.length ≤ 1000) : Spec Try.prog [] 45 [doA, iv bank, iv cell] (doIo b L i) (DoR b L [] (fun _ => .tup []) ((pulseP bank cell).runAt L i)) := by
  refine spec_of TB 11 [] Try.func45 rfl rfl rfl (Nat.le_of_ble_eq_true rfl) ?_
  intro X w0 E0 hE hX
  simp only [idx, doIo, List.map_cons, List.map_nil, List.length_cons, List.length_nil, doA]
  refine AW_regl TB (fun D K hD hK => ?_)
  simp only [AwS, TS, binI, runR, runD, ostep, ostepB, aop, aopB, dstOk, aeff, aval, St.ev, alook, blook, aBox, AV.known, cav, St.app, tput, evs, evp, allKnown, gslot, min2, max2, AV.cs, AV.cell, loadC, aField, aIndex, TD.elem, TD.isAgg, TD.isInt, aSlice, aBound, aLen, aBuild, aFill, placesOf, bytesOf, aBin, aEql, TI.one, eqS, eqL, fits, srcOf, dstOf, killK, replZ, spl, splice, AV.tops, Tk.foot, addFoot, fine, apart, disj, St.behind, St.behindB, zipIo, newIo, gMap, ioMap, AV.map, AVs.map, nmap, ↓reduceIte, Nat.reduceAdd, Nat.reduceMul, Nat.reduceSub, Nat.reduceMod, Nat.reduceDiv, Nat.reduceEqDiff, Nat.reduceLT, Nat.reduceLeDiff, Nat.reduceBEq, Nat.reduceBNe, Int.reduceAdd, Int.reduceMul, Int.reduceSub, Int.reduceNeg, Int.reduceLT, Int.reduceLE, Int.reduceEq, Int.reduceToNat, reduceCtorEq, bind]
  refine hK _ _ ?_
  clear hD hK D K
  refine AL_do rfl rfl rfl rfl en_32 (do_spec b L i (2, bank, cell) hi hL) rfl rfl rfl (fun _ _ => rfl) hi (fun r j hr hj hj' => ?_) (fun a j hr => ?_)
  · refine AL_runR TB _ _ (fun D K hD hK => ?_)
    simp only [AwS, TS, binI, runR, runD, ostep, ostepB, aop, aopB, dstOk, aeff, aval, St.ev, alook, blook, aBox, AV.known, cav, St.app, tput, evs, evp, allKnown, gslot, min2, max2, AV.cs, AV.cell, loadC, aField, aIndex, TD.elem, TD.isAgg, TD.isInt, aSlice, aBound, aLen, aBuild, aFill, placesOf, bytesOf, aBin, aEql, TI.one, eqS, eqL, fits, srcOf, dstOf, killK, replZ, spl, splice, AV.tops, Tk.foot, addFoot, fine, apart, disj, St.behind, St.behindB, zipIo, newIo, gMap, ioMap, AV.map, AVs.map, nmap, ↓reduceIte, Nat.reduceAdd, Nat.reduceMul, Nat.reduceSub, Nat.reduceMod, Nat.reduceDiv, Nat.reduceEqDiff, Nat.reduceLT, Nat.reduceLeDiff, Nat.reduceBEq, Nat.reduceBNe, Int.reduceAdd, Int.reduceMul, Int.reduceSub, Int.reduceNeg, Int.reduceLT, Int.reduceLE, Int.reduceEq, Int.reduceToNat, reduceCtorEq, bind, Rs.cs]
    refine hD _ ?_
    clear hD hK D K
    simp only [Ret]
    refine ret_do (x := ()) (j := j) ?_ rfl rfl rfl rfl (fun _ => rfl)
    simp only [Pg.runAt, pulseP] at hr ⊢
    cases hq : L[i]? with
    | none => rw [hq] at hr; simp at hr
    | some q => rw [hq] at hr; simp at hr; simp [Pg.runAt, hr]
  · refine pan_do (j := j) ?_ rfl rfl rfl
    simp only [Pg.runAt, pulseP] at hr ⊢
    cases hq : L[i]? with
    | none => rw [hq] at hr; simpa using hr
    | some q => rw [hq] at hr; simp at hr

end Go.Proofs.Ytdnmnafadondkaa
