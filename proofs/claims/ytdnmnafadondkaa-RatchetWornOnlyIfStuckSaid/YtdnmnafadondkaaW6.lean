/- The walks of play.Run and of the ratchet's two entries. No condition. -/
import Derived.Test.YtdnmnafadondkaaW5
set_option linter.unusedVariables false
set_option linter.unusedSimpArgs false
set_option maxRecDepth 100000
namespace Go.Proofs.Ytdnmnafadondkaa
open Go Go.RowKit

def runIo (a : Ac) (q : Int × Int) (done : Bool) : List (List AV) := [accC a, [iv q.1, iv q.2], [bv done]]

theorem runIo_flat (a : Ac) (q : Int × Int) (done : Bool) : ∀ cs ∈ runIo a q done, Flats cs := by
  simp only [runIo, List.mem_cons, List.not_mem_nil, or_false]
  rintro cs (rfl | rfl | rfl) <;> exact fun _ => rfl

/-- The deferred closure behind a panic of an access without a result. -/
theorem tail_pan (a : Ac) : SpecG (CallsDm Try.prog 33 (.panicking [{ v := pend a, recovered := false }]) (.panicking [{ v := pend a, recovered := true }])) [] [.ptr 0 0, .ptr 1 0, .ptr 2 0] (runIo (0, 0, 0) (0, 0) false) (fun o => o = .ret (.tup []) (runIo a (0, 0) false) []) := by
  refine specD_of TB (rv := pend a) (t := 7) 16 [] Try.func33 rfl rfl rfl (Nat.le_of_ble_eq_true rfl) rfl rfl rfl (by decide) ?_ ?_
  · intro c₀ cs hu
    simp [recoverD, hu]
  intro X w0 E0 hE hX
  simp only [idx, runIo, accC, pend, List.map_cons, List.map_nil, List.length_cons, List.length_nil]
  refine AW_block ?_
  refine AW_reg TB (fun D K hD hK => ?_)
  simp only [AwS, TS, binI, runR, runD, ostep, ostepB, aop, aopB, dstOk, aeff, aval, St.ev, alook, blook, aBox, AV.known, cav, St.app, tput, evs, evp, allKnown, gslot, min2, max2, AV.cs, AV.cell, loadC, aField, aIndex, TD.elem, TD.isAgg, TD.isInt, aSlice, aBound, aLen, aBuild, aFill, placesOf, bytesOf, aBin, aEql, TI.one, eqS, eqL, fits, srcOf, dstOf, killK, replZ, spl, splice, AV.tops, Tk.foot, addFoot, fine, apart, disj, St.behind, St.behindB, zipIo, newIo, gMap, ioMap, AV.map, AVs.map, nmap, ↓reduceIte, Nat.reduceAdd, Nat.reduceMul, Nat.reduceSub, Nat.reduceMod, Nat.reduceDiv, Nat.reduceEqDiff, Nat.reduceLT, Nat.reduceLeDiff, Nat.reduceBEq, Nat.reduceBNe, Int.reduceAdd, Int.reduceMul, Int.reduceSub, Int.reduceNeg, Int.reduceLT, Int.reduceLE, Int.reduceEq, Int.reduceToNat, reduceCtorEq, bind]
  refine hK _ _ ?_
  clear hD hK D K
  refine AL_eqNil TB false rfl rfl rfl T_20 rfl rfl (.inr ⟨⟨84, _, rfl⟩, rfl⟩) ?_
  refine AL_runR TB _ _ (fun D K hD hK => ?_)
  simp only [AwS, TS, binI, runR, runD, ostep, ostepB, aop, aopB, dstOk, aeff, aval, St.ev, alook, blook, aBox, AV.known, cav, St.app, tput, evs, evp, allKnown, gslot, min2, max2, AV.cs, AV.cell, loadC, aField, aIndex, TD.elem, TD.isAgg, TD.isInt, aSlice, aBound, aLen, aBuild, aFill, placesOf, bytesOf, aBin, aEql, TI.one, eqS, eqL, fits, srcOf, dstOf, killK, replZ, spl, splice, AV.tops, Tk.foot, addFoot, fine, apart, disj, St.behind, St.behindB, zipIo, newIo, gMap, ioMap, AV.map, AVs.map, nmap, ↓reduceIte, Nat.reduceAdd, Nat.reduceMul, Nat.reduceSub, Nat.reduceMod, Nat.reduceDiv, Nat.reduceEqDiff, Nat.reduceLT, Nat.reduceLeDiff, Nat.reduceBEq, Nat.reduceBNe, Int.reduceAdd, Int.reduceMul, Int.reduceSub, Int.reduceNeg, Int.reduceLT, Int.reduceLE, Int.reduceEq, Int.reduceToNat, reduceCtorEq, bind]
  refine hD _ ?_
  clear hD hK D K
  simp only [seqQ]
  refine AW_false rfl ?_
  refine AW_reg TB (fun D K hD hK => ?_)
  simp only [AwS, TS, binI, runR, runD, ostep, ostepB, aop, aopB, dstOk, aeff, aval, St.ev, alook, blook, aBox, AV.known, cav, St.app, tput, evs, evp, allKnown, gslot, min2, max2, AV.cs, AV.cell, loadC, aField, aIndex, TD.elem, TD.isAgg, TD.isInt, aSlice, aBound, aLen, aBuild, aFill, placesOf, bytesOf, aBin, aEql, TI.one, eqS, eqL, fits, srcOf, dstOf, killK, replZ, spl, splice, AV.tops, Tk.foot, addFoot, fine, apart, disj, St.behind, St.behindB, zipIo, newIo, gMap, ioMap, AV.map, AVs.map, nmap, ↓reduceIte, Nat.reduceAdd, Nat.reduceMul, Nat.reduceSub, Nat.reduceMod, Nat.reduceDiv, Nat.reduceEqDiff, Nat.reduceLT, Nat.reduceLeDiff, Nat.reduceBEq, Nat.reduceBNe, Int.reduceAdd, Int.reduceMul, Int.reduceSub, Int.reduceNeg, Int.reduceLT, Int.reduceLE, Int.reduceEq, Int.reduceToNat, reduceCtorEq, bind, List.toList_toArray]
  refine hD _ ?_
  clear hD hK D K
  refine AW_true rfl ?_
  refine AW_reg TB (fun D K hD hK => ?_)
  simp only [AwS, TS, binI, runR, runD, ostep, ostepB, aop, aopB, dstOk, aeff, aval, St.ev, alook, blook, aBox, AV.known, cav, St.app, tput, evs, evp, allKnown, gslot, min2, max2, AV.cs, AV.cell, loadC, aField, aIndex, TD.elem, TD.isAgg, TD.isInt, aSlice, aBound, aLen, aBuild, aFill, placesOf, bytesOf, aBin, aEql, TI.one, eqS, eqL, fits, srcOf, dstOf, killK, replZ, spl, splice, AV.tops, Tk.foot, addFoot, fine, apart, disj, St.behind, St.behindB, zipIo, newIo, gMap, ioMap, AV.map, AVs.map, nmap, ↓reduceIte, Nat.reduceAdd, Nat.reduceMul, Nat.reduceSub, Nat.reduceMod, Nat.reduceDiv, Nat.reduceEqDiff, Nat.reduceLT, Nat.reduceLeDiff, Nat.reduceBEq, Nat.reduceBNe, Int.reduceAdd, Int.reduceMul, Int.reduceSub, Int.reduceNeg, Int.reduceLT, Int.reduceLE, Int.reduceEq, Int.reduceToNat, reduceCtorEq, bind]
  refine hD _ ?_
  clear hD hK D K
  refine AW_reg TB (fun D K hD hK => ?_)
  simp only [AwS, TS, binI, runR, runD, ostep, ostepB, aop, aopB, dstOk, aeff, aval, St.ev, alook, blook, aBox, AV.known, cav, St.app, tput, evs, evp, allKnown, gslot, min2, max2, AV.cs, AV.cell, loadC, aField, aIndex, TD.elem, TD.isAgg, TD.isInt, aSlice, aBound, aLen, aBuild, aFill, placesOf, bytesOf, aBin, aEql, TI.one, eqS, eqL, fits, srcOf, dstOf, killK, replZ, spl, splice, AV.tops, Tk.foot, addFoot, fine, apart, disj, St.behind, St.behindB, zipIo, newIo, gMap, ioMap, AV.map, AVs.map, nmap, ↓reduceIte, Nat.reduceAdd, Nat.reduceMul, Nat.reduceSub, Nat.reduceMod, Nat.reduceDiv, Nat.reduceEqDiff, Nat.reduceLT, Nat.reduceLeDiff, Nat.reduceBEq, Nat.reduceBNe, Int.reduceAdd, Int.reduceMul, Int.reduceSub, Int.reduceNeg, Int.reduceLT, Int.reduceLE, Int.reduceEq, Int.reduceToNat, reduceCtorEq, bind]
  refine hD _ ?_
  clear hD hK D K
  refine AW_dregl TB mx ([[], [0], [], [1, 0], [2, 3, 1, 0], [4, 2, 3, 1, 0]]) (by kernel_rfl) (by kernel_rfl) (fun D K hD hK => ?_)
  simp only [AwS, TS, binI, runR, runD, ostep, ostepB, aop, aopB, dstOk, aeff, aval, St.ev, alook, blook, aBox, AV.known, cav, St.app, tput, evs, evp, allKnown, gslot, min2, max2, AV.cs, AV.cell, loadC, aField, aIndex, TD.elem, TD.isAgg, TD.isInt, aSlice, aBound, aLen, aBuild, aFill, placesOf, bytesOf, aBin, aEql, TI.one, eqS, eqL, fits, srcOf, dstOf, killK, replZ, spl, splice, AV.tops, Tk.foot, addFoot, fine, apart, disj, St.behind, St.behindB, zipIo, newIo, gMap, ioMap, AV.map, AVs.map, nmap, ↓reduceIte, Nat.reduceAdd, Nat.reduceMul, Nat.reduceSub, Nat.reduceMod, Nat.reduceDiv, Nat.reduceEqDiff, Nat.reduceLT, Nat.reduceLeDiff, Nat.reduceBEq, Nat.reduceBNe, Int.reduceAdd, Int.reduceMul, Int.reduceSub, Int.reduceNeg, Int.reduceLT, Int.reduceLE, Int.reduceEq, Int.reduceToNat, reduceCtorEq, bind, Op.operands, Call.operands, List.toList_toArray, List.size_toArray, cmp, List.getD_cons_zero, List.getD_cons_succ, Array.toList_append, Option.toArray, List.append_toArray,]
  refine hD _ ?_
  clear hD hK D K
  simp only [Ret, blockQ]
  exact retio (.tup []) (runIo a (0, 0) false) rfl rfl rfl (fun _ => rfl) rfl (runIo_flat _ _ _) rfl

theorem tail_ret (q : Int × Int) : SpecG (CallsDm Try.prog 33 .returning .returning) [] [.ptr 0 0, .ptr 1 0, .ptr 2 0] (runIo (0, 0, 0) q true) (fun o => o = .ret (.tup []) (runIo (0, 0, 0) q true) []) := by
  refine specD_of TB (rv := .nilIface) (t := 7) 16 [] Try.func33 rfl rfl rfl (Nat.le_of_ble_eq_true rfl) rfl rfl rfl (by decide) ?_ ?_
  · intro c₀ cs hu
    simp [recoverD, hu]
  intro X w0 E0 hE hX
  simp only [idx, runIo, accC, List.map_cons, List.map_nil, List.length_cons, List.length_nil]
  refine AW_block ?_
  refine AW_reg TB (fun D K hD hK => ?_)
  simp only [AwS, TS, binI, runR, runD, ostep, ostepB, aop, aopB, dstOk, aeff, aval, St.ev, alook, blook, aBox, AV.known, cav, St.app, tput, evs, evp, allKnown, gslot, min2, max2, AV.cs, AV.cell, loadC, aField, aIndex, TD.elem, TD.isAgg, TD.isInt, aSlice, aBound, aLen, aBuild, aFill, placesOf, bytesOf, aBin, aEql, TI.one, eqS, eqL, fits, srcOf, dstOf, killK, replZ, spl, splice, AV.tops, Tk.foot, addFoot, fine, apart, disj, St.behind, St.behindB, zipIo, newIo, gMap, ioMap, AV.map, AVs.map, nmap, ↓reduceIte, Nat.reduceAdd, Nat.reduceMul, Nat.reduceSub, Nat.reduceMod, Nat.reduceDiv, Nat.reduceEqDiff, Nat.reduceLT, Nat.reduceLeDiff, Nat.reduceBEq, Nat.reduceBNe, Int.reduceAdd, Int.reduceMul, Int.reduceSub, Int.reduceNeg, Int.reduceLT, Int.reduceLE, Int.reduceEq, Int.reduceToNat, reduceCtorEq, bind]
  refine hK _ _ ?_
  clear hD hK D K
  refine AL_eqNil TB true rfl rfl rfl T_20 rfl rfl (.inl ⟨rfl, rfl⟩) ?_
  refine AL_runR TB _ _ (fun D K hD hK => ?_)
  simp only [AwS, TS, binI, runR, runD, ostep, ostepB, aop, aopB, dstOk, aeff, aval, St.ev, alook, blook, aBox, AV.known, cav, St.app, tput, evs, evp, allKnown, gslot, min2, max2, AV.cs, AV.cell, loadC, aField, aIndex, TD.elem, TD.isAgg, TD.isInt, aSlice, aBound, aLen, aBuild, aFill, placesOf, bytesOf, aBin, aEql, TI.one, eqS, eqL, fits, srcOf, dstOf, killK, replZ, spl, splice, AV.tops, Tk.foot, addFoot, fine, apart, disj, St.behind, St.behindB, zipIo, newIo, gMap, ioMap, AV.map, AVs.map, nmap, ↓reduceIte, Nat.reduceAdd, Nat.reduceMul, Nat.reduceSub, Nat.reduceMod, Nat.reduceDiv, Nat.reduceEqDiff, Nat.reduceLT, Nat.reduceLeDiff, Nat.reduceBEq, Nat.reduceBNe, Int.reduceAdd, Int.reduceMul, Int.reduceSub, Int.reduceNeg, Int.reduceLT, Int.reduceLE, Int.reduceEq, Int.reduceToNat, reduceCtorEq, bind]
  refine hD _ ?_
  clear hD hK D K
  simp only [seqQ]
  refine AW_true rfl ?_
  refine AW_regl TB (fun D K hD hK => ?_)
  simp only [AwS, TS, binI, runR, runD, ostep, ostepB, aop, aopB, dstOk, aeff, aval, St.ev, alook, blook, aBox, AV.known, cav, St.app, tput, evs, evp, allKnown, gslot, min2, max2, AV.cs, AV.cell, loadC, aField, aIndex, TD.elem, TD.isAgg, TD.isInt, aSlice, aBound, aLen, aBuild, aFill, placesOf, bytesOf, aBin, aEql, TI.one, eqS, eqL, fits, srcOf, dstOf, killK, replZ, spl, splice, AV.tops, Tk.foot, addFoot, fine, apart, disj, St.behind, St.behindB, zipIo, newIo, gMap, ioMap, AV.map, AVs.map, nmap, ↓reduceIte, Nat.reduceAdd, Nat.reduceMul, Nat.reduceSub, Nat.reduceMod, Nat.reduceDiv, Nat.reduceEqDiff, Nat.reduceLT, Nat.reduceLeDiff, Nat.reduceBEq, Nat.reduceBNe, Int.reduceAdd, Int.reduceMul, Int.reduceSub, Int.reduceNeg, Int.reduceLT, Int.reduceLE, Int.reduceEq, Int.reduceToNat, reduceCtorEq, bind]
  refine hD _ ?_
  clear hD hK D K
  simp only [Ret, blockQ]
  exact retio (.tup []) (runIo (0, 0, 0) q true) rfl rfl rfl (fun _ => rfl) rfl (runIo_flat _ _ _) rfl

def zipS : List Nat → List (List AV) → List (Nat × Option (List AV))
  | k :: ks, c :: cs => (k, some c) :: zipS ks cs
  | _, _ => []

theorem zipIo_flat {f : Nat → Nat} : ∀ (ks : List Nat) (io : List (List AV)), (∀ cs ∈ io, Flats cs) → zipIo f ks io = zipS ks io
  | [], _, _ => by simp [zipIo, zipS]
  | k :: ks, [], _ => by simp [zipIo, zipS]
  | k :: ks, c :: cs, h => by simp only [zipIo, zipS]; rw [h c (by simp) f, zipIo_flat ks cs (fun x hx => h x (by simp [hx]))]

theorem dox_flat {b : Bool} {L : List Rs} {j : Nat} {ext : List (List AV)} (hfl : ∀ cs ∈ ext, Flats cs) : ∀ cs ∈ doIo b L j ++ ext, Flats cs := fun cs hc => (List.mem_append.1 hc).elim (doIo_flat b L j cs) (hfl cs)

/-- A call that makes accesses, by its contract, with further boxes. -/
theorem AL_dox {X : Nat → Prop} {w0 : World} {E0 : Env} {α : Type} {b : Bool} {L : List Rs} {i : Nat} {ext : List (List AV)} {enc : α → AV} {p : Pg α} {ops : Array Oper} {o : Oper} {l : List Oper} {σ : St} {Q : Exit → St → Prop} {f : Operand} {fargs : Array Operand} {fty : Array TypeId} {K : FuncId} {caps : List AV} {args' : List AV} (ios : List Nat)
    (ho : o.op = .call ⟨.value f, fargs, fty⟩) (hgd : o.guard = none) (hd : dstOk σ o.dst = true) (hf : σ.ev f = .clo K caps) (hen : Enters Try.prog K) (hspec : Spec Try.prog [] K args' (doIo b L i ++ ext) (DoR b L ext enc (p.runAt L i)))
    (hargs : (evs σ fargs.toList ++ caps).map (lendA (lentBx [] σ)) = AVs.map (ioMap σ.nx ios) args') (hlen : ios.length = (doIo b L i ++ ext).length) (hnd : ios.Nodup) (hne : ∀ cs ∈ doIo b L i ++ ext, cs ≠ []) (hfl : ∀ cs ∈ ext, Flats cs)
    (hio : ios.map (fun k => blook k σ.bx) = (doIo b L i ++ ext).map some) (hflat : ∀ x, Flat (enc x))
    (hret : ∀ x j, p.runAt L i = .inl (x, j) → AL Try.prog X w0 E0 ops l { σ with nx := σ.nx + 8, tm := tput o.dst (enc x) σ.tm, bx := zipS ios (doIo b L j ++ ext) ++ σ.bx } Q)
    (hpan : ∀ a (j : Nat), p.runAt L i = .inr a → Q (.panic [{ v := pend a, recovered := false }]) { σ with nx := σ.nx + 8, bx := zipS ios (doIo b L j ++ ext) ++ σ.bx }) : AL Try.prog X w0 E0 ops (o :: l) σ Q := by
  have beh : ∀ tm j, σ.behind tm ios (doIo b L j ++ ext) [] = { σ with nx := σ.nx + 8, tm := tm, bx := zipS ios (doIo b L j ++ ext) ++ σ.bx } := by
    intro tm j
    simp only [St.behind, St.behindB, newIo, List.nil_append]
    rw [zipIo_flat _ _ (dox_flat hfl)]
  refine AL_call ho hgd hd hf hen hspec ios [] hlen hnd hne hargs ?_ (by simp) (by simp) ?_ ?_
  · intro j k cs hj hc
    rw [dox_flat hfl cs (List.mem_of_getElem? hc)]
    have := congrArg (fun l : List (Option (List AV)) => l[j]?) hio
    simp only [List.getElem?_map, hj, hc, Option.map_some, Option.some.injEq] at this
    exact this
  · intro x io' nb hR _
    refine ⟨rfl, ?_⟩
    simp only [DoR] at hR
    cases hr : p.runAt L i with
    | inr a => rw [hr] at hR; obtain ⟨j, hR⟩ := hR; simp at hR
    | inl q =>
      obtain ⟨y, j⟩ := q
      rw [hr] at hR
      simp only [Out.ret.injEq] at hR
      obtain ⟨rfl, rfl, rfl⟩ := hR
      refine ⟨by simp, ?_⟩
      rw [beh, hflat y]
      exact hret y j hr
  · intro v io' hR _
    refine ⟨rfl, ?_⟩
    simp only [DoR] at hR
    cases hr : p.runAt L i with
    | inl q => rw [hr] at hR; simp at hR
    | inr a =>
      rw [hr] at hR
      obtain ⟨j, hR⟩ := hR
      simp only [Out.pan.injEq] at hR
      obtain ⟨rfl, rfl⟩ := hR
      rw [beh]
      exact hpan a j hr

/-- What a replay tells: the next access, or the outcome. -/
def toldA (res : ((Int × Int) × Nat) ⊕ Ac) : AV :=
  match res with
  | .inl (q, _) => .tup [.agg (accC (0, 0, 0)), outA q, bv true]
  | .inr a => .tup [.agg (accC a), outA (0, 0), bv false]

theorem runL_spec (b : Bool) (L : List Rs) (bank bits : Int) (hL : L.length ≤ 1000) : Spec Try.prog [] 19 [.clo 20 [.ptr 0 0, .ptr 1 0], .ds b L.length (logC L)] [[iv bank], [iv bits]] (fun o => o = .ret (toldA ((LevelP bank bits).runAt L 0)) [[iv bank], [iv bits]] []) := by
  refine spec_of_defer TB 15 [.cell 4 27, .cell 5 30, .cell 6 4] Try.func19 rfl rfl rfl (Nat.le_of_ble_eq_true rfl) ?_
  intro X w0 E0 hE hX
  have hlf := logC_flat L
  have hext : ∀ cs ∈ [[iv bank], [iv bits]], Flats cs := by
    simp only [List.mem_cons, List.not_mem_nil, or_false]
    rintro cs (rfl | rfl) <;> exact flats_iv _
  simp only [idx, List.map_cons, List.map_nil, List.length_cons, List.length_nil]
  refine AW_reg TB (fun D K hD hK => ?_)
  simp only [AwS, TS, binI, runR, runD, ostep, ostepB, aop, aopB, dstOk, aeff, aval, St.ev, alook, blook, aBox, AV.known, cav, St.app, tput, evs, evp, allKnown, gslot, min2, max2, AV.cs, AV.cell, loadC, aField, aIndex, TD.elem, TD.isAgg, TD.isInt, aSlice, aBound, aLen, aBuild, aFill, placesOf, bytesOf, aBin, aEql, TI.one, eqS, eqL, fits, srcOf, dstOf, killK, replZ, spl, splice, AV.tops, Tk.foot, addFoot, fine, apart, disj, St.behind, St.behindB, zipIo, newIo, gMap, ioMap, AV.map, AVs.map, nmap, ↓reduceIte, Nat.reduceAdd, Nat.reduceMul, Nat.reduceSub, Nat.reduceMod, Nat.reduceDiv, Nat.reduceEqDiff, Nat.reduceLT, Nat.reduceLeDiff, Nat.reduceBEq, Nat.reduceBNe, Int.reduceAdd, Int.reduceMul, Int.reduceSub, Int.reduceNeg, Int.reduceLT, Int.reduceLE, Int.reduceEq, Int.reduceToNat, reduceCtorEq, bind]
  refine hD _ ?_
  clear hD hK D K
  refine AW_reg TB (fun D K hD hK => ?_)
  simp only [AwS, TS, binI, runR, runD, ostep, ostepB, aop, aopB, dstOk, aeff, aval, St.ev, alook, blook, aBox, AV.known, cav, St.app, tput, evs, evp, allKnown, gslot, min2, max2, AV.cs, AV.cell, loadC, aField, aIndex, TD.elem, TD.isAgg, TD.isInt, aSlice, aBound, aLen, aBuild, aFill, placesOf, bytesOf, aBin, aEql, TI.one, eqS, eqL, fits, srcOf, dstOf, killK, replZ, spl, splice, AV.tops, Tk.foot, addFoot, fine, apart, disj, St.behind, St.behindB, zipIo, newIo, gMap, ioMap, AV.map, AVs.map, nmap, ↓reduceIte, Nat.reduceAdd, Nat.reduceMul, Nat.reduceSub, Nat.reduceMod, Nat.reduceDiv, Nat.reduceEqDiff, Nat.reduceLT, Nat.reduceLeDiff, Nat.reduceBEq, Nat.reduceBNe, Int.reduceAdd, Int.reduceMul, Int.reduceSub, Int.reduceNeg, Int.reduceLT, Int.reduceLE, Int.reduceEq, Int.reduceToNat, reduceCtorEq, bind]
  refine hD _ ?_
  clear hD hK D K
  refine AW_reg TB (fun D K hD hK => ?_)
  simp only [AwS, TS, binI, runR, runD, ostep, ostepB, aop, aopB, dstOk, aeff, aval, St.ev, alook, blook, aBox, AV.known, cav, St.app, tput, evs, evp, allKnown, gslot, min2, max2, AV.cs, AV.cell, loadC, aField, aIndex, TD.elem, TD.isAgg, TD.isInt, aSlice, aBound, aLen, aBuild, aFill, placesOf, bytesOf, aBin, aEql, TI.one, eqS, eqL, fits, srcOf, dstOf, killK, replZ, spl, splice, AV.tops, Tk.foot, addFoot, fine, apart, disj, St.behind, St.behindB, zipIo, newIo, gMap, ioMap, AV.map, AVs.map, nmap, ↓reduceIte, Nat.reduceAdd, Nat.reduceMul, Nat.reduceSub, Nat.reduceMod, Nat.reduceDiv, Nat.reduceEqDiff, Nat.reduceLT, Nat.reduceLeDiff, Nat.reduceBEq, Nat.reduceBNe, Int.reduceAdd, Int.reduceMul, Int.reduceSub, Int.reduceNeg, Int.reduceLT, Int.reduceLE, Int.reduceEq, Int.reduceToNat, reduceCtorEq, bind]
  refine hD _ ?_
  clear hD hK D K
  refine AW_reg TB (fun D K hD hK => ?_)
  simp only [AwS, TS, binI, runR, runD, ostep, ostepB, aop, aopB, dstOk, aeff, aval, St.ev, alook, blook, aBox, AV.known, cav, St.app, tput, evs, evp, allKnown, gslot, min2, max2, AV.cs, AV.cell, loadC, aField, aIndex, TD.elem, TD.isAgg, TD.isInt, aSlice, aBound, aLen, aBuild, aFill, placesOf, bytesOf, aBin, aEql, TI.one, eqS, eqL, fits, srcOf, dstOf, killK, replZ, spl, splice, AV.tops, Tk.foot, addFoot, fine, apart, disj, St.behind, St.behindB, zipIo, newIo, gMap, ioMap, AV.map, AVs.map, nmap, ↓reduceIte, Nat.reduceAdd, Nat.reduceMul, Nat.reduceSub, Nat.reduceMod, Nat.reduceDiv, Nat.reduceEqDiff, Nat.reduceLT, Nat.reduceLeDiff, Nat.reduceBEq, Nat.reduceBNe, Int.reduceAdd, Int.reduceMul, Int.reduceSub, Int.reduceNeg, Int.reduceLT, Int.reduceLE, Int.reduceEq, Int.reduceToNat, reduceCtorEq, bind]
  refine hK _ _ ?_
  clear hD hK D K
  refine AL_defer (K := 33) rfl rfl rfl rfl ?_
  refine AL_runR TB _ _ (fun D K hD hK => ?_)
  simp only [AwS, TS, binI, runR, runD, ostep, ostepB, aop, aopB, dstOk, aeff, aval, St.ev, alook, blook, aBox, AV.known, cav, St.app, tput, evs, evp, allKnown, gslot, min2, max2, AV.cs, AV.cell, loadC, aField, aIndex, TD.elem, TD.isAgg, TD.isInt, aSlice, aBound, aLen, aBuild, aFill, placesOf, bytesOf, aBin, aEql, TI.one, eqS, eqL, fits, srcOf, dstOf, killK, replZ, spl, splice, AV.tops, Tk.foot, addFoot, fine, apart, disj, St.behind, St.behindB, zipIo, newIo, gMap, ioMap, AV.map, AVs.map, nmap, ↓reduceIte, Nat.reduceAdd, Nat.reduceMul, Nat.reduceSub, Nat.reduceMod, Nat.reduceDiv, Nat.reduceEqDiff, Nat.reduceLT, Nat.reduceLeDiff, Nat.reduceBEq, Nat.reduceBNe, Int.reduceAdd, Int.reduceMul, Int.reduceSub, Int.reduceNeg, Int.reduceLT, Int.reduceLE, Int.reduceEq, Int.reduceToNat, reduceCtorEq, bind]
  refine hD _ ?_
  clear hD hK D K
  simp only [seqQ]
  refine AW_reg TB (fun D K hD hK => ?_)
  simp only [AwS, TS, binI, runR, runD, ostep, ostepB, aop, aopB, dstOk, aeff, aval, St.ev, alook, blook, aBox, AV.known, cav, St.app, tput, evs, evp, allKnown, gslot, min2, max2, AV.cs, AV.cell, loadC, aField, aIndex, TD.elem, TD.isAgg, TD.isInt, aSlice, aBound, aLen, aBuild, aFill, placesOf, bytesOf, aBin, aEql, TI.one, eqS, eqL, fits, srcOf, dstOf, killK, replZ, spl, splice, AV.tops, Tk.foot, addFoot, fine, apart, disj, St.behind, St.behindB, zipIo, newIo, gMap, ioMap, AV.map, AVs.map, nmap, ↓reduceIte, Nat.reduceAdd, Nat.reduceMul, Nat.reduceSub, Nat.reduceMod, Nat.reduceDiv, Nat.reduceEqDiff, Nat.reduceLT, Nat.reduceLeDiff, Nat.reduceBEq, Nat.reduceBNe, Int.reduceAdd, Int.reduceMul, Int.reduceSub, Int.reduceNeg, Int.reduceLT, Int.reduceLE, Int.reduceEq, Int.reduceToNat, reduceCtorEq, bind]
  refine hK _ _ ?_
  clear hD hK D K
  refine AL_dox [34, 2, 0, 1] rfl rfl rfl rfl en_20 (levelC_spec b L 0 bank bits (Nat.zero_le _) hL) rfl rfl (by decide) (by simp [doIo]) hext rfl (fun _ _ => rfl) (fun q j hr => ?_) (fun a j hr => ?_)
  · simp only [doIo, List.cons_append, List.nil_append, zipS]
    refine AL_runR TB _ _ (fun D K hD hK => ?_)
    simp only [AwS, TS, binI, runR, runD, ostep, ostepB, aop, aopB, dstOk, aeff, aval, St.ev, alook, blook, aBox, AV.known, cav, St.app, tput, evs, evp, allKnown, gslot, min2, max2, AV.cs, AV.cell, loadC, aField, aIndex, TD.elem, TD.isAgg, TD.isInt, aSlice, aBound, aLen, aBuild, aFill, placesOf, bytesOf, aBin, aEql, TI.one, eqS, eqL, fits, srcOf, dstOf, killK, replZ, spl, splice, AV.tops, Tk.foot, addFoot, fine, apart, disj, St.behind, St.behindB, zipIo, newIo, gMap, ioMap, AV.map, AVs.map, nmap, ↓reduceIte, Nat.reduceAdd, Nat.reduceMul, Nat.reduceSub, Nat.reduceMod, Nat.reduceDiv, Nat.reduceEqDiff, Nat.reduceLT, Nat.reduceLeDiff, Nat.reduceBEq, Nat.reduceBNe, Int.reduceAdd, Int.reduceMul, Int.reduceSub, Int.reduceNeg, Int.reduceLT, Int.reduceLE, Int.reduceEq, Int.reduceToNat, reduceCtorEq, bind, outA]
    refine hD _ ?_
    clear hD hK D K
    refine AW_ret ?_
    simp only [RetDQ]
    refine ⟨33, _, .returning, [], _, _, _, [10, 18, 26], rfl, by simp, rfl, en_33, tail_ret q, rfl, by decide, by simp [runIo, accC], rfl, ?_, by simp, ?_⟩
    · intro jj k cs hj hc
      rcases jj with _ | _ | _ | jj
      · simp [runIo] at hj hc; subst hj; subst hc; rfl
      · simp [runIo] at hj hc; subst hj; subst hc; rfl
      · simp [runIo] at hj hc; subst hj; subst hc; rfl
      · simp [runIo] at hc
    · rintro out rfl
      refine ⟨_, _, _, rfl, by simp, fun _ => ?_⟩
      refine retio (toldA (.inl (q, j))) [[iv bank], [iv bits]] rfl rfl rfl (fun _ => rfl) rfl hext ?_
      rw [hr]
  · simp only [doIo, List.cons_append, List.nil_append, zipS, seqQ, RetDQ]
    refine ⟨33, _, .panicking [{ v := pend a, recovered := true }], [], _, _, _, [10, 18, 26], rfl, by simp, rfl, en_33, tail_pan a, rfl, by decide, by simp [runIo, accC], rfl, ?_, by simp, ?_⟩
    · intro jj k cs hj hc
      rcases jj with _ | _ | _ | jj
      · simp [runIo] at hj hc; subst hj; subst hc; rfl
      · simp [runIo] at hj hc; subst hj; subst hc; rfl
      · simp [runIo] at hj hc; subst hj; subst hc; rfl
      · simp [runIo] at hc
    · rintro out rfl
      refine ⟨_, _, _, rfl, by simp, fun _ => ?_⟩
      refine retio (toldA (.inr a)) [[iv bank], [iv bits]] rfl rfl rfl (fun _ => rfl) rfl hext ?_
      rw [hr]

theorem runR_spec (b : Bool) (L : List Rs) (bank bits t : Int) (hL : L.length ≤ 1000) : Spec Try.prog [] 19 [.clo 25 [.ptr 0 0, .ptr 1 0, .ptr 2 0], .ds b L.length (logC L)] [[iv bank], [iv bits], [iv t]] (fun o => o = .ret (toldA ((RaiseP bank bits t).runAt L 0)) [[iv bank], [iv bits], [iv t]] []) := by
  refine spec_of_defer TB 15 [.cell 4 27, .cell 5 30, .cell 6 4] Try.func19 rfl rfl rfl (Nat.le_of_ble_eq_true rfl) ?_
  intro X w0 E0 hE hX
  have hlf := logC_flat L
  have hext : ∀ cs ∈ [[iv bank], [iv bits], [iv t]], Flats cs := by
    simp only [List.mem_cons, List.not_mem_nil, or_false]
    rintro cs (rfl | rfl | rfl) <;> exact flats_iv _
  simp only [idx, List.map_cons, List.map_nil, List.length_cons, List.length_nil]
  refine AW_reg TB (fun D K hD hK => ?_)
  simp only [AwS, TS, binI, runR, runD, ostep, ostepB, aop, aopB, dstOk, aeff, aval, St.ev, alook, blook, aBox, AV.known, cav, St.app, tput, evs, evp, allKnown, gslot, min2, max2, AV.cs, AV.cell, loadC, aField, aIndex, TD.elem, TD.isAgg, TD.isInt, aSlice, aBound, aLen, aBuild, aFill, placesOf, bytesOf, aBin, aEql, TI.one, eqS, eqL, fits, srcOf, dstOf, killK, replZ, spl, splice, AV.tops, Tk.foot, addFoot, fine, apart, disj, St.behind, St.behindB, zipIo, newIo, gMap, ioMap, AV.map, AVs.map, nmap, ↓reduceIte, Nat.reduceAdd, Nat.reduceMul, Nat.reduceSub, Nat.reduceMod, Nat.reduceDiv, Nat.reduceEqDiff, Nat.reduceLT, Nat.reduceLeDiff, Nat.reduceBEq, Nat.reduceBNe, Int.reduceAdd, Int.reduceMul, Int.reduceSub, Int.reduceNeg, Int.reduceLT, Int.reduceLE, Int.reduceEq, Int.reduceToNat, reduceCtorEq, bind]
  refine hD _ ?_
  clear hD hK D K
  refine AW_reg TB (fun D K hD hK => ?_)
  simp only [AwS, TS, binI, runR, runD, ostep, ostepB, aop, aopB, dstOk, aeff, aval, St.ev, alook, blook, aBox, AV.known, cav, St.app, tput, evs, evp, allKnown, gslot, min2, max2, AV.cs, AV.cell, loadC, aField, aIndex, TD.elem, TD.isAgg, TD.isInt, aSlice, aBound, aLen, aBuild, aFill, placesOf, bytesOf, aBin, aEql, TI.one, eqS, eqL, fits, srcOf, dstOf, killK, replZ, spl, splice, AV.tops, Tk.foot, addFoot, fine, apart, disj, St.behind, St.behindB, zipIo, newIo, gMap, ioMap, AV.map, AVs.map, nmap, ↓reduceIte, Nat.reduceAdd, Nat.reduceMul, Nat.reduceSub, Nat.reduceMod, Nat.reduceDiv, Nat.reduceEqDiff, Nat.reduceLT, Nat.reduceLeDiff, Nat.reduceBEq, Nat.reduceBNe, Int.reduceAdd, Int.reduceMul, Int.reduceSub, Int.reduceNeg, Int.reduceLT, Int.reduceLE, Int.reduceEq, Int.reduceToNat, reduceCtorEq, bind]
  refine hD _ ?_
  clear hD hK D K
  refine AW_reg TB (fun D K hD hK => ?_)
  simp only [AwS, TS, binI, runR, runD, ostep, ostepB, aop, aopB, dstOk, aeff, aval, St.ev, alook, blook, aBox, AV.known, cav, St.app, tput, evs, evp, allKnown, gslot, min2, max2, AV.cs, AV.cell, loadC, aField, aIndex, TD.elem, TD.isAgg, TD.isInt, aSlice, aBound, aLen, aBuild, aFill, placesOf, bytesOf, aBin, aEql, TI.one, eqS, eqL, fits, srcOf, dstOf, killK, replZ, spl, splice, AV.tops, Tk.foot, addFoot, fine, apart, disj, St.behind, St.behindB, zipIo, newIo, gMap, ioMap, AV.map, AVs.map, nmap, ↓reduceIte, Nat.reduceAdd, Nat.reduceMul, Nat.reduceSub, Nat.reduceMod, Nat.reduceDiv, Nat.reduceEqDiff, Nat.reduceLT, Nat.reduceLeDiff, Nat.reduceBEq, Nat.reduceBNe, Int.reduceAdd, Int.reduceMul, Int.reduceSub, Int.reduceNeg, Int.reduceLT, Int.reduceLE, Int.reduceEq, Int.reduceToNat, reduceCtorEq, bind]
  refine hD _ ?_
  clear hD hK D K
  refine AW_reg TB (fun D K hD hK => ?_)
  simp only [AwS, TS, binI, runR, runD, ostep, ostepB, aop, aopB, dstOk, aeff, aval, St.ev, alook, blook, aBox, AV.known, cav, St.app, tput, evs, evp, allKnown, gslot, min2, max2, AV.cs, AV.cell, loadC, aField, aIndex, TD.elem, TD.isAgg, TD.isInt, aSlice, aBound, aLen, aBuild, aFill, placesOf, bytesOf, aBin, aEql, TI.one, eqS, eqL, fits, srcOf, dstOf, killK, replZ, spl, splice, AV.tops, Tk.foot, addFoot, fine, apart, disj, St.behind, St.behindB, zipIo, newIo, gMap, ioMap, AV.map, AVs.map, nmap, ↓reduceIte, Nat.reduceAdd, Nat.reduceMul, Nat.reduceSub, Nat.reduceMod, Nat.reduceDiv, Nat.reduceEqDiff, Nat.reduceLT, Nat.reduceLeDiff, Nat.reduceBEq, Nat.reduceBNe, Int.reduceAdd, Int.reduceMul, Int.reduceSub, Int.reduceNeg, Int.reduceLT, Int.reduceLE, Int.reduceEq, Int.reduceToNat, reduceCtorEq, bind]
  refine hK _ _ ?_
  clear hD hK D K
  refine AL_defer (K := 33) rfl rfl rfl rfl ?_
  refine AL_runR TB _ _ (fun D K hD hK => ?_)
  simp only [AwS, TS, binI, runR, runD, ostep, ostepB, aop, aopB, dstOk, aeff, aval, St.ev, alook, blook, aBox, AV.known, cav, St.app, tput, evs, evp, allKnown, gslot, min2, max2, AV.cs, AV.cell, loadC, aField, aIndex, TD.elem, TD.isAgg, TD.isInt, aSlice, aBound, aLen, aBuild, aFill, placesOf, bytesOf, aBin, aEql, TI.one, eqS, eqL, fits, srcOf, dstOf, killK, replZ, spl, splice, AV.tops, Tk.foot, addFoot, fine, apart, disj, St.behind, St.behindB, zipIo, newIo, gMap, ioMap, AV.map, AVs.map, nmap, ↓reduceIte, Nat.reduceAdd, Nat.reduceMul, Nat.reduceSub, Nat.reduceMod, Nat.reduceDiv, Nat.reduceEqDiff, Nat.reduceLT, Nat.reduceLeDiff, Nat.reduceBEq, Nat.reduceBNe, Int.reduceAdd, Int.reduceMul, Int.reduceSub, Int.reduceNeg, Int.reduceLT, Int.reduceLE, Int.reduceEq, Int.reduceToNat, reduceCtorEq, bind]
  refine hD _ ?_
  clear hD hK D K
  simp only [seqQ]
  refine AW_reg TB (fun D K hD hK => ?_)
  simp only [AwS, TS, binI, runR, runD, ostep, ostepB, aop, aopB, dstOk, aeff, aval, St.ev, alook, blook, aBox, AV.known, cav, St.app, tput, evs, evp, allKnown, gslot, min2, max2, AV.cs, AV.cell, loadC, aField, aIndex, TD.elem, TD.isAgg, TD.isInt, aSlice, aBound, aLen, aBuild, aFill, placesOf, bytesOf, aBin, aEql, TI.one, eqS, eqL, fits, srcOf, dstOf, killK, replZ, spl, splice, AV.tops, Tk.foot, addFoot, fine, apart, disj, St.behind, St.behindB, zipIo, newIo, gMap, ioMap, AV.map, AVs.map, nmap, ↓reduceIte, Nat.reduceAdd, Nat.reduceMul, Nat.reduceSub, Nat.reduceMod, Nat.reduceDiv, Nat.reduceEqDiff, Nat.reduceLT, Nat.reduceLeDiff, Nat.reduceBEq, Nat.reduceBNe, Int.reduceAdd, Int.reduceMul, Int.reduceSub, Int.reduceNeg, Int.reduceLT, Int.reduceLE, Int.reduceEq, Int.reduceToNat, reduceCtorEq, bind]
  refine hK _ _ ?_
  clear hD hK D K
  refine AL_dox [35, 3, 0, 1, 2] rfl rfl rfl rfl en_25 (raiseC_spec b L 0 bank bits t (Nat.zero_le _) hL) rfl rfl (by decide) (by simp [doIo]) hext rfl (fun _ _ => rfl) (fun q j hr => ?_) (fun a j hr => ?_)
  · simp only [doIo, List.cons_append, List.nil_append, zipS]
    refine AL_runR TB _ _ (fun D K hD hK => ?_)
    simp only [AwS, TS, binI, runR, runD, ostep, ostepB, aop, aopB, dstOk, aeff, aval, St.ev, alook, blook, aBox, AV.known, cav, St.app, tput, evs, evp, allKnown, gslot, min2, max2, AV.cs, AV.cell, loadC, aField, aIndex, TD.elem, TD.isAgg, TD.isInt, aSlice, aBound, aLen, aBuild, aFill, placesOf, bytesOf, aBin, aEql, TI.one, eqS, eqL, fits, srcOf, dstOf, killK, replZ, spl, splice, AV.tops, Tk.foot, addFoot, fine, apart, disj, St.behind, St.behindB, zipIo, newIo, gMap, ioMap, AV.map, AVs.map, nmap, ↓reduceIte, Nat.reduceAdd, Nat.reduceMul, Nat.reduceSub, Nat.reduceMod, Nat.reduceDiv, Nat.reduceEqDiff, Nat.reduceLT, Nat.reduceLeDiff, Nat.reduceBEq, Nat.reduceBNe, Int.reduceAdd, Int.reduceMul, Int.reduceSub, Int.reduceNeg, Int.reduceLT, Int.reduceLE, Int.reduceEq, Int.reduceToNat, reduceCtorEq, bind, outA]
    refine hD _ ?_
    clear hD hK D K
    refine AW_ret ?_
    simp only [RetDQ]
    refine ⟨33, _, .returning, [], _, _, _, [11, 19, 27], rfl, by simp, rfl, en_33, tail_ret q, rfl, by decide, by simp [runIo, accC], rfl, ?_, by simp, ?_⟩
    · intro jj k cs hj hc
      rcases jj with _ | _ | _ | jj
      · simp [runIo] at hj hc; subst hj; subst hc; rfl
      · simp [runIo] at hj hc; subst hj; subst hc; rfl
      · simp [runIo] at hj hc; subst hj; subst hc; rfl
      · simp [runIo] at hc
    · rintro out rfl
      refine ⟨_, _, _, rfl, by simp, fun _ => ?_⟩
      refine retio (toldA (.inl (q, j))) [[iv bank], [iv bits], [iv t]] rfl rfl rfl (fun _ => rfl) rfl hext ?_
      rw [hr]
  · simp only [doIo, List.cons_append, List.nil_append, zipS, seqQ, RetDQ]
    refine ⟨33, _, .panicking [{ v := pend a, recovered := true }], [], _, _, _, [11, 19, 27], rfl, by simp, rfl, en_33, tail_pan a, rfl, by decide, by simp [runIo, accC], rfl, ?_, by simp, ?_⟩
    · intro jj k cs hj hc
      rcases jj with _ | _ | _ | jj
      · simp [runIo] at hj hc; subst hj; subst hc; rfl
      · simp [runIo] at hj hc; subst hj; subst hc; rfl
      · simp [runIo] at hj hc; subst hj; subst hc; rfl
      · simp [runIo] at hc
    · rintro out rfl
      refine ⟨_, _, _, rfl, by simp, fun _ => ?_⟩
      refine retio (toldA (.inr a)) [[iv bank], [iv bits], [iv t]] rfl rfl rfl (fun _ => rfl) rfl hext ?_
      rw [hr]


theorem Level_spec (b : Bool) (L : List Rs) (bank bits : Int) (hL : L.length ≤ 1000) : Spec Try.prog [] 10 [iv bank, iv bits, .ds b L.length (logC L)] [] (fun o => o = .ret (toldA ((LevelP bank bits).runAt L 0)) [] []) := by
  refine spec_of TB 15 [.cell 6 27, .cell 7 30, .tmp 8] Try.func10 rfl rfl rfl (Nat.le_of_ble_eq_true rfl) ?_
  intro X w0 E0 hE hX
  have hlf := logC_flat L
  simp only [idx, List.map_nil, List.length_nil]
  refine AW_reg TB (fun D K hD hK => ?_)
  simp only [AwS, TS, binI, runR, runD, ostep, ostepB, aop, aopB, dstOk, aeff, aval, St.ev, alook, blook, aBox, AV.known, cav, St.app, tput, evs, evp, allKnown, gslot, min2, max2, AV.cs, AV.cell, loadC, aField, aIndex, TD.elem, TD.isAgg, TD.isInt, aSlice, aBound, aLen, aBuild, aFill, placesOf, bytesOf, aBin, aEql, TI.one, eqS, eqL, fits, srcOf, dstOf, killK, replZ, spl, splice, AV.tops, Tk.foot, addFoot, fine, apart, disj, St.behind, St.behindB, zipIo, newIo, gMap, ioMap, AV.map, AVs.map, nmap, ↓reduceIte, Nat.reduceAdd, Nat.reduceMul, Nat.reduceSub, Nat.reduceMod, Nat.reduceDiv, Nat.reduceEqDiff, Nat.reduceLT, Nat.reduceLeDiff, Nat.reduceBEq, Nat.reduceBNe, Int.reduceAdd, Int.reduceMul, Int.reduceSub, Int.reduceNeg, Int.reduceLT, Int.reduceLE, Int.reduceEq, Int.reduceToNat, reduceCtorEq, bind]
  refine hD _ ?_
  clear hD hK D K
  refine AW_reg TB (fun D K hD hK => ?_)
  simp only [AwS, TS, binI, runR, runD, ostep, ostepB, aop, aopB, dstOk, aeff, aval, St.ev, alook, blook, aBox, AV.known, cav, St.app, tput, evs, evp, allKnown, gslot, min2, max2, AV.cs, AV.cell, loadC, aField, aIndex, TD.elem, TD.isAgg, TD.isInt, aSlice, aBound, aLen, aBuild, aFill, placesOf, bytesOf, aBin, aEql, TI.one, eqS, eqL, fits, srcOf, dstOf, killK, replZ, spl, splice, AV.tops, Tk.foot, addFoot, fine, apart, disj, St.behind, St.behindB, zipIo, newIo, gMap, ioMap, AV.map, AVs.map, nmap, ↓reduceIte, Nat.reduceAdd, Nat.reduceMul, Nat.reduceSub, Nat.reduceMod, Nat.reduceDiv, Nat.reduceEqDiff, Nat.reduceLT, Nat.reduceLeDiff, Nat.reduceBEq, Nat.reduceBNe, Int.reduceAdd, Int.reduceMul, Int.reduceSub, Int.reduceNeg, Int.reduceLT, Int.reduceLE, Int.reduceEq, Int.reduceToNat, reduceCtorEq, bind]
  refine hK _ _ ?_
  clear hD hK D K
  refine AL_callD rfl rfl rfl rfl en_19 (runL_spec b L bank bits hL) [0, 8] [] rfl (by decide) (by simp) ?_ ?_ (by simp) rfl (by simp) ?_
  · simp [evs, St.ev, cav, alook, lendA, lentBx, lendC, blook, AVs.map, AV.map, ioMap, hlf _, logC_flat L]
  · intro j k cs hj hc
    rcases j with _ | _ | j
    · simp at hj hc; subst hj; subst hc; rfl
    · simp at hj hc; subst hj; subst hc; rfl
    · simp at hc
  · cases hr : (LevelP bank bits).runAt L 0 with
    | inl q =>
      obtain ⟨q, j⟩ := q
      simp only [toldA]
      refine AL_runR TB _ _ (fun D K hD hK => ?_)
      simp only [AwS, TS, binI, runR, runD, ostep, ostepB, aop, aopB, dstOk, aeff, aval, St.ev, alook, blook, aBox, AV.known, cav, St.app, tput, evs, evp, allKnown, gslot, min2, max2, AV.cs, AV.cell, loadC, aField, aIndex, TD.elem, TD.isAgg, TD.isInt, aSlice, aBound, aLen, aBuild, aFill, placesOf, bytesOf, aBin, aEql, TI.one, eqS, eqL, fits, srcOf, dstOf, killK, replZ, spl, splice, AV.tops, Tk.foot, addFoot, fine, apart, disj, St.behind, St.behindB, zipIo, newIo, gMap, ioMap, AV.map, AVs.map, nmap, ↓reduceIte, Nat.reduceAdd, Nat.reduceMul, Nat.reduceSub, Nat.reduceMod, Nat.reduceDiv, Nat.reduceEqDiff, Nat.reduceLT, Nat.reduceLeDiff, Nat.reduceBEq, Nat.reduceBNe, Int.reduceAdd, Int.reduceMul, Int.reduceSub, Int.reduceNeg, Int.reduceLT, Int.reduceLE, Int.reduceEq, Int.reduceToNat, reduceCtorEq, bind, outA, accC]
      refine hD _ ?_
      clear hD hK D K
      refine AW_ret ?_
      simp only [Ret, seqQ]
      exact retp (toldA (.inl (q, j))) rfl rfl rfl rfl
    | inr a =>
      simp only [toldA]
      refine AL_runR TB _ _ (fun D K hD hK => ?_)
      simp only [AwS, TS, binI, runR, runD, ostep, ostepB, aop, aopB, dstOk, aeff, aval, St.ev, alook, blook, aBox, AV.known, cav, St.app, tput, evs, evp, allKnown, gslot, min2, max2, AV.cs, AV.cell, loadC, aField, aIndex, TD.elem, TD.isAgg, TD.isInt, aSlice, aBound, aLen, aBuild, aFill, placesOf, bytesOf, aBin, aEql, TI.one, eqS, eqL, fits, srcOf, dstOf, killK, replZ, spl, splice, AV.tops, Tk.foot, addFoot, fine, apart, disj, St.behind, St.behindB, zipIo, newIo, gMap, ioMap, AV.map, AVs.map, nmap, ↓reduceIte, Nat.reduceAdd, Nat.reduceMul, Nat.reduceSub, Nat.reduceMod, Nat.reduceDiv, Nat.reduceEqDiff, Nat.reduceLT, Nat.reduceLeDiff, Nat.reduceBEq, Nat.reduceBNe, Int.reduceAdd, Int.reduceMul, Int.reduceSub, Int.reduceNeg, Int.reduceLT, Int.reduceLE, Int.reduceEq, Int.reduceToNat, reduceCtorEq, bind, outA, accC]
      refine hD _ ?_
      clear hD hK D K
      refine AW_ret ?_
      simp only [Ret, seqQ]
      exact retp (toldA (.inr a)) rfl rfl rfl rfl

theorem Raise_spec (b : Bool) (L : List Rs) (bank bits t : Int) (hL : L.length ≤ 1000) : Spec Try.prog [] 12 [iv bank, iv bits, iv t, .ds b L.length (logC L)] [] (fun o => o = .ret (toldA ((RaiseP bank bits t).runAt L 0)) [] []) := by
  refine spec_of TB 17 [.cell 8 27, .cell 9 30, .tmp 10] Try.func12 rfl rfl rfl (Nat.le_of_ble_eq_true rfl) ?_
  intro X w0 E0 hE hX
  have hlf := logC_flat L
  simp only [idx, List.map_nil, List.length_nil]
  refine AW_reg TB (fun D K hD hK => ?_)
  simp only [AwS, TS, binI, runR, runD, ostep, ostepB, aop, aopB, dstOk, aeff, aval, St.ev, alook, blook, aBox, AV.known, cav, St.app, tput, evs, evp, allKnown, gslot, min2, max2, AV.cs, AV.cell, loadC, aField, aIndex, TD.elem, TD.isAgg, TD.isInt, aSlice, aBound, aLen, aBuild, aFill, placesOf, bytesOf, aBin, aEql, TI.one, eqS, eqL, fits, srcOf, dstOf, killK, replZ, spl, splice, AV.tops, Tk.foot, addFoot, fine, apart, disj, St.behind, St.behindB, zipIo, newIo, gMap, ioMap, AV.map, AVs.map, nmap, ↓reduceIte, Nat.reduceAdd, Nat.reduceMul, Nat.reduceSub, Nat.reduceMod, Nat.reduceDiv, Nat.reduceEqDiff, Nat.reduceLT, Nat.reduceLeDiff, Nat.reduceBEq, Nat.reduceBNe, Int.reduceAdd, Int.reduceMul, Int.reduceSub, Int.reduceNeg, Int.reduceLT, Int.reduceLE, Int.reduceEq, Int.reduceToNat, reduceCtorEq, bind]
  refine hD _ ?_
  clear hD hK D K
  refine AW_reg TB (fun D K hD hK => ?_)
  simp only [AwS, TS, binI, runR, runD, ostep, ostepB, aop, aopB, dstOk, aeff, aval, St.ev, alook, blook, aBox, AV.known, cav, St.app, tput, evs, evp, allKnown, gslot, min2, max2, AV.cs, AV.cell, loadC, aField, aIndex, TD.elem, TD.isAgg, TD.isInt, aSlice, aBound, aLen, aBuild, aFill, placesOf, bytesOf, aBin, aEql, TI.one, eqS, eqL, fits, srcOf, dstOf, killK, replZ, spl, splice, AV.tops, Tk.foot, addFoot, fine, apart, disj, St.behind, St.behindB, zipIo, newIo, gMap, ioMap, AV.map, AVs.map, nmap, ↓reduceIte, Nat.reduceAdd, Nat.reduceMul, Nat.reduceSub, Nat.reduceMod, Nat.reduceDiv, Nat.reduceEqDiff, Nat.reduceLT, Nat.reduceLeDiff, Nat.reduceBEq, Nat.reduceBNe, Int.reduceAdd, Int.reduceMul, Int.reduceSub, Int.reduceNeg, Int.reduceLT, Int.reduceLE, Int.reduceEq, Int.reduceToNat, reduceCtorEq, bind]
  refine hK _ _ ?_
  clear hD hK D K
  refine AL_callD rfl rfl rfl rfl en_19 (runR_spec b L bank bits t hL) [0, 8, 16] [] rfl (by decide) (by simp) ?_ ?_ (by simp) rfl (by simp) ?_
  · simp [evs, St.ev, cav, alook, lendA, lentBx, lendC, blook, AVs.map, AV.map, ioMap, hlf _, logC_flat L]
  · intro j k cs hj hc
    rcases j with _ | _ | _ | j
    · simp at hj hc; subst hj; subst hc; rfl
    · simp at hj hc; subst hj; subst hc; rfl
    · simp at hj hc; subst hj; subst hc; rfl
    · simp at hc
  · cases hr : (RaiseP bank bits t).runAt L 0 with
    | inl q =>
      obtain ⟨q, j⟩ := q
      simp only [toldA]
      refine AL_runR TB _ _ (fun D K hD hK => ?_)
      simp only [AwS, TS, binI, runR, runD, ostep, ostepB, aop, aopB, dstOk, aeff, aval, St.ev, alook, blook, aBox, AV.known, cav, St.app, tput, evs, evp, allKnown, gslot, min2, max2, AV.cs, AV.cell, loadC, aField, aIndex, TD.elem, TD.isAgg, TD.isInt, aSlice, aBound, aLen, aBuild, aFill, placesOf, bytesOf, aBin, aEql, TI.one, eqS, eqL, fits, srcOf, dstOf, killK, replZ, spl, splice, AV.tops, Tk.foot, addFoot, fine, apart, disj, St.behind, St.behindB, zipIo, newIo, gMap, ioMap, AV.map, AVs.map, nmap, ↓reduceIte, Nat.reduceAdd, Nat.reduceMul, Nat.reduceSub, Nat.reduceMod, Nat.reduceDiv, Nat.reduceEqDiff, Nat.reduceLT, Nat.reduceLeDiff, Nat.reduceBEq, Nat.reduceBNe, Int.reduceAdd, Int.reduceMul, Int.reduceSub, Int.reduceNeg, Int.reduceLT, Int.reduceLE, Int.reduceEq, Int.reduceToNat, reduceCtorEq, bind, outA, accC]
      refine hD _ ?_
      clear hD hK D K
      refine AW_ret ?_
      simp only [Ret, seqQ]
      exact retp (toldA (.inl (q, j))) rfl rfl rfl rfl
    | inr a =>
      simp only [toldA]
      refine AL_runR TB _ _ (fun D K hD hK => ?_)
      simp only [AwS, TS, binI, runR, runD, ostep, ostepB, aop, aopB, dstOk, aeff, aval, St.ev, alook, blook, aBox, AV.known, cav, St.app, tput, evs, evp, allKnown, gslot, min2, max2, AV.cs, AV.cell, loadC, aField, aIndex, TD.elem, TD.isAgg, TD.isInt, aSlice, aBound, aLen, aBuild, aFill, placesOf, bytesOf, aBin, aEql, TI.one, eqS, eqL, fits, srcOf, dstOf, killK, replZ, spl, splice, AV.tops, Tk.foot, addFoot, fine, apart, disj, St.behind, St.behindB, zipIo, newIo, gMap, ioMap, AV.map, AVs.map, nmap, ↓reduceIte, Nat.reduceAdd, Nat.reduceMul, Nat.reduceSub, Nat.reduceMod, Nat.reduceDiv, Nat.reduceEqDiff, Nat.reduceLT, Nat.reduceLeDiff, Nat.reduceBEq, Nat.reduceBNe, Int.reduceAdd, Int.reduceMul, Int.reduceSub, Int.reduceNeg, Int.reduceLT, Int.reduceLE, Int.reduceEq, Int.reduceToNat, reduceCtorEq, bind, outA, accC]
      refine hD _ ?_
      clear hD hK D K
      refine AW_ret ?_
      simp only [Ret, seqQ]
      exact retp (toldA (.inr a)) rfl rfl rfl rfl

end Go.Proofs.Ytdnmnafadondkaa
